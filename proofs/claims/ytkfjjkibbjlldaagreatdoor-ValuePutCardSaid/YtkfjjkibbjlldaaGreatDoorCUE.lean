/- Walks: the copies of the statements' own package: CopyWords, CopyBytes. -/
import Derived.Test.YtkfjjkibbjlldaaGreatDoorCTF
import Derived.Test.YtkfjjkibbjlldaaGreatDoorCTB
import Derived.Test.YtkfjjkibbjlldaaGreatDoorCUC
import Derived.Test.YtkfjjkibbjlldaaGreatDoorCUK
set_option maxRecDepth 100000
set_option maxHeartbeats 2000000
namespace Go.Proofs.YtkfjjkibbjlldaaGreatDoor
section
open Go.RowKit
theorem copyWords (A:Option Addr) (n c:Nat) (l:List Int) (w:World) (hn:n≤35184372087808) (hr:Reads w w.heap.size 1 A n (Ints .u32 l)) :
  Calls Tryz.prog 9 #[.slice A n c] w fun e w'=>∃ g,e=.returned (.slice (some ⟨g,0,none⟩) n n)∧w'.ownsRow w.heap.size 22 1 (.slice (some ⟨g,0,none⟩) n n) n (Ints .u32 l)∧Below w.heap.size w w':=by
 go_enter Tryz.func9,Tryz.ntmps9;go_wp2_with (at_make;refine mk_full sl32 rfl _ rfl _ _ rfl w.heap.size n rfl rfl rfl rfl (by omega) (by omega) (Nat.le_refl _) ?_;intro w1 hown hgr)
 go_loopw [4] (fun i wr=>∃ k:Nat,k≤n∧i=.int .i64 k∧wr.ownsRow w.heap.size 22 1 (.slice (some ⟨w.heap.size,0,none⟩) n n) n (Ints .u32 (mid l n k))∧Below w.heap.size w wr) (fun i _=>n-(intOf i).toNat)
 case atStart=>exact ⟨0,by omega,rfl,by rw [mid_zero,Ints_replicate];exact hown,(Below.refl _ _).grown hgr (Nat.le_refl _) (fun _ h=>by cases h)⟩
 case round =>
  obtain ⟨k,hk,rfl,ho,hb⟩:=hrel
  by_cases hlt:k<n
  ·obtain ⟨ad,rfl,hadb,hc⟩:=(hr.below hb).int_at hlt;have hc1:=own_int_at ho hlt;have hf1:=ho.frozenAt k;go_wp2
   go_roundw
   case rel=>exact ⟨k+1,by omega,by go_num,by rw [← mid_set hr.len hlt];exact own_int_set ho k _,hb.setCell (Nat.le_refl _) _⟩
   case measure=>simp [intOf];omega
  ·obtain rfl:k=n:=by omega
   go_wp2
   go_ret
   exact ⟨_,rfl,by rw [mid_all hr.len] at ho;exact ho,hb⟩
theorem words_same (A A':Option Addr) (n n' c c':Nat) (l l':List Int) (w:World) (hn:n≤9223372036854775807) (hr:Reads w w.heap.size 1 A n (Ints .u32 l)) (hr':Reads w w.heap.size 1 A' n' (Ints .u32 l')) :
  Calls Tryz.prog 12 #[.slice A n c,.slice A' n' c'] w fun e w'=>e=.returned (.bool (sameB l l'))∧Drawn w w':=by
 have e1:=hr.len;have e2:=hr'.len
 by_cases hnn:n=n'
 ·subst hnn;have E1:=Lib.hid e1;clear e1;have E2:=Lib.hid e2;clear e2;go_enter Tryz.func12,Tryz.ntmps12;go_wp2
  go_loopw [5] (fun i wr=>∃ k:Nat,k≤n∧i=.int .i64 k∧SameTo l l' k∧Drawn w wr) (fun i _=>n-(intOf i).toNat)
  case atStart=>exact ⟨0,by omega,rfl,SameTo.zero _ _,Drawn.refl _⟩
  case round =>
   obtain ⟨k,hk,rfl,hs,m,rfl⟩:=hrel
   by_cases hlt:k<n
   ·obtain ⟨ad,rfl,hadb,hc⟩:=hr.int_at hlt;obtain ⟨ad',rfl,hadb',hc'⟩:=hr'.int_at hlt
    by_cases he:ix l k=ix l' k
    ·have hb:(ix l k != ix l' k)=false:=by rw [he];simp
     have He:=Lib.hid he;clear he;go_wp2
     go_quiet (fail)
     go_wp2
     go_roundw
     case rel=>exact ⟨k+1,by omega,by go_num,hs.succ He.out,Drawn.mk _ _⟩
     case measure=>simp [intOf];omega
    ·have hb:(ix l k != ix l' k)=true:=by simpa using he
     go_wp2
     go_quiet (fail)
     go_wp2
     go_ret
     exact ⟨ret_bool (sameB_at k he).symm,(Drawn.mk _ _).more _⟩
   ·obtain rfl:k=n:=by omega
    go_wp2
    go_ret
    exact ⟨ret_bool (sameB_all E1.out E2.out hs).symm,Drawn.mk _ _⟩
 ·have hb:((n:Int) != (n':Int))=true:=by rw [bne_iff_ne];omega
  go_enter Tryz.func12,Tryz.ntmps12;go_wp2
  go_ret
  exact ⟨ret_bool (sameB_ne (by omega)).symm,Drawn.refl _⟩
end
section
open Go.RowKit
theorem reads_mid {w:World} {B n:Nat} {b off:Nat} {l:List Int} (h:∀ k,k<n→w.cell? ⟨b,off+k,none⟩=some (.int .u32 (ix l k))) (hb:b<B) (hl:l.length=n) {p m:Nat} (hm:p+m≤n) :
  Reads w B 1 (some ⟨b,off+p,none⟩) m (Ints .u32 ((l.drop p).take m)):=by
 have hlen:((l.drop p).take m).length=m:=by rw [List.length_take,List.length_drop];omega
 refine ⟨by rw [Ints_length,hlen];omega,fun h0=>⟨⟨b,off+p,none⟩,rfl,hb,fun j v hv=>?_⟩⟩
 rw [add_plain];have hj:j<m:=by
  have:=(List.getElem?_eq_some_iff.1 hv).1;rw [Ints_length,hlen] at this;exact this
 rw [Nat.add_assoc,h (p+j) (by omega)]
 rw [Ints_at (by omega)] at hv
 rw [← hv];have h1:j<((l.drop p).take m).length:=by omega
 have h2:p+j<l.length:=by omega
 rw [ix_of h1,ix_of h2,List.getElem_take,List.getElem_drop]
def GetIs (T:Int→TyI) (r:Int × Int) (ws:List Int) (w:World) (e:Ending) (w':World):Prop :=
 Below w.heap.size w w'∧((r.2=0∧e=.returned (.tuple #[.int .u32 0,.slice none 0 0,.int .i64 121])) ∨
  (r.2≠0∧∃ (p m:Nat) (A':Option Addr) (c':Nat),r.1=p∧(T r.2).size=m∧e=.returned (.tuple #[.int .u32 r.2,.slice A' m c',.int .i64 0])∧w'.ownsRow w.heap.size 22 1 (.slice A' m c') m (Ints .u32 ((ws.drop p).take m))))
theorem get_well (gt:Nat) (T:Int→TyI) (S:Int→SlI) (hY:Typed T) (ty:Int) (A:Option Addr) (n c:Nat) (ws:List Int) (A2:Option Addr) (n2 c2:Nat) (l:List Int) (w:World) (hT:TabW w (some ⟨gt,0,none⟩) T S)
  (hr:Reads w w.heap.size 1 A n (Ints .u32 ws)) (hr2:Reads w w.heap.size 1 A2 n2 (Ints .u32 l)) (hp:0<(T ty).size) (hn:(n:Int)=(T ty).size) (hnc:n≤c) (hf:fitsV T ty ws=true) (hn2:n2≤4611686018427387904) (hl:∀ x∈l,0≤x∧x<4294967296) :
  Calls Tryz.prog 21 #[.pointer (some ⟨gt,0,none⟩),.int .u32 ty,.slice A n c,.slice A2 n2 c2] w (GetIs T (wkW T 0 ty l) ws w):=by
 have hgv:=given_well gt T S hY ty A n c ws w hT hr hp hn;rw [hf,if_pos rfl] at hgv;have hwk:=fun (w':World) (h:Below w.heap.size w w')=>walk_well gt T S hY ty A2 n2 c2 l w' (hT.step h) hn2 ((hr2.below h).more h.size) hl hp
 have hin:=wkW_in hY (l:=l) (a:=0) (ty:=ty) (fun k hk=>(hl k hk).1) hp
 have hn4:=(hY.size ty).2.2;have hlen:=hr.len;generalize wkW T 0 ty l=r at *;obtain ⟨r1,r2⟩:=r;dsimp only at hwk hin;have hsz:=fun (w':World) (h:Below w.heap.size w w')=>sizeM_any _ _ _ r2 w' (hT.step h).tab
 have HR:=Lib.hid hr;have HI:=Lib.hid hin;clear hT hr hr2 hf hY hl;go_enter Tryz.func21,Tryz.ntmps21;go_wp2_with fail;refine hgv.mono ?_;rintro e w1 ⟨rfl,hb1⟩;have hw1:=hwk w1 hb1;clear hgv hwk
 by_cases h0:r2=0
 ·have d0:(r2 != 0)=false:=by rw [h0];rfl
  rw [d0] at hw1;clear hin hsz;go_wp2_with fail;refine hw1.mono ?_;rintro e w2 ⟨rfl,hb2⟩;have hb3:=below_cut hb1 hb2 (Nat.le_refl _);go_wp2_with fail;go_ret3
  exact ⟨hb3,.inl ⟨h0,rfl⟩⟩
 ·have d0:(r2 != 0)=true:=by simpa using h0
  rw [d0] at hw1;obtain ⟨q1,q2,q3⟩:0<(T r2).size∧0≤r1∧r1+(T r2).size≤0+(T ty).size:=by
   rcases HI.out with e | e
   ·injection e with _ e;exact absurd e h0
   ·exact e
  obtain ⟨p,rfl⟩:∃ p:Nat,r1=p:=⟨r1.toNat,by omega⟩
  obtain ⟨m,hm⟩:∃ m:Nat,(T r2).size=m:=⟨(T r2).size.toNat,by omega⟩
  rw [hm] at hsz q1 q3;have HM:=Lib.hid hm;have H0:=Lib.hid h0;obtain ⟨b,off,rfl,hbb,hcc⟩:=HR.out.ints (by omega)
  have hcp:¬ c=p:=by omega
  have hpm:p+m≤n:=by omega
  have hpc:p+m≤c:=by omega
  have hm1:1≤m:=by omega
  have wS:IntKind.i64.wrap (((p:Nat):Int)+(m:Nat))=(p:Nat)+(m:Nat):=IntWalk.i64_in _ (by omega)
  have hcl:=fun (w':World) (h:Below w.heap.size w w') (cc:Nat)=>clone_any (some ⟨b,off+p,none⟩) m cc ((ws.drop p).take m) w' (by omega) (reads_mid (fun k hk=>(h.cell (p:=⟨b,off+k,none⟩) hbb).trans (hcc k hk)) (Nat.lt_of_lt_of_le hbb h.size) hlen hpm)
  clear hcc hin hm h0 HI;go_wp2_with fail;refine hw1.mono ?_;rintro e w2 ⟨rfl,hb2⟩;have hb3:=below_cut hb1 hb2 (Nat.le_refl _);have hs2:=hsz w2 hb3;clear hw1 hsz;go_wp2_with fail;refine hs2.mono ?_;rintro e w3 ⟨rfl,hb4⟩;have hb5:=below_cut hb3 hb4 (Nat.le_refl _);have hc3:=hcl w3 hb5;clear hs2 hcl;go_wp2_with fail;refine (hc3 (c-p)).mono ?_;rintro e w4 ⟨A4,c4,rfl,ho,hb6⟩;have hb7:=below_cut hb5 hb6 (Nat.le_refl _);have ho2:=own_base ho hb5.size;clear hc3;go_wp2_with fail;go_ret3
  exact ⟨hb7,.inr ⟨H0.out,p,m,A4,c4,rfl,HM.out,rfl,ho2⟩⟩
end
section
open Go.RowKit
end
section
open Go.RowKit Go.WideShapes
structure Kept (N:Nat) (w w':World):Prop where
 size:w.heap.size≤w'.heap.size
 same:∀ b,N≤b→b<w.heap.size→w'.heap[b]?=w.heap[b]?
theorem Kept.refl (N:Nat) (w:World):Kept N w w:=⟨Nat.le_refl _,fun _ _ _=>rfl⟩
theorem Kept.trans {N:Nat} {w w' w2:World} (h:Kept N w w') (h2:Kept N w' w2):Kept N w w2 :=
 ⟨Nat.le_trans h.size h2.size,fun b hb hl=>(h2.same b hb (by have:=h.size;omega)).trans (h.same b hb hl)⟩
theorem Kept.setCell {N:Nat} {w w':World} (h:Kept N w w') {p:Addr} (hp:p.block<N) (u:Value):Kept N w (w'.setCell p u) :=
 ⟨by simpa using h.size,fun b hb hl=>(Below.heap_setCell w' p u b (by omega)).trans (h.same b hb hl)⟩
theorem Kept.of_below {N:Nat} {w w':World} (h:Below w.heap.size w w'):Kept N w w':=⟨h.size,fun b _ hl=>h.block b hl⟩
theorem Kept.cell {N:Nat} {w w':World} (h:Kept N w w') {p:Addr} (hp:N≤p.block) {v:Value} (hc:w.cell? p=some v):w'.cell? p=some v:=by
 rcases Nat.lt_or_ge p.block w.heap.size with hl | hl
 ·exact (World.cell?_of_block (h.same p.block hp hl)).trans hc
 ·exfalso
  have e:w.heap[p.block]?=none:=by simp [hl]
  simp [World.cell?,e] at hc
def ArgE (B N:Nat) (W:World) (x:InstA):Prop:=∃ (g:Nat) (cs:Array Value),x.2=(some ⟨g,0,none⟩,x.2.2.1,x.2.2.1)∧(B≤g∧g<N)∧Blk W g 120 cs∧x.2.2.1*3≤cs.size
theorem ArgE.set {B N:Nat} {W:World} {x:InstA} (h:ArgE B N W x) (g i:Nat) (u:Value):ArgE B N (W.setCell ⟨g,i,none⟩ u) x:=by
 obtain ⟨g',cs,e,hg,hk,hs⟩:=h
 by_cases e1:g'=g
 ·subst e1;exact ⟨g',_,e,hg,hk.set_ i u,by simpa using hs⟩
 ·exact ⟨g',cs,e,hg,hk.far (p:=⟨g,i,none⟩) e1 u,hs⟩
theorem ArgE.step {B N:Nat} {W W':World} {x:InstA} (h:ArgE B N W x) (hb:Below W.heap.size W W'):ArgE B N W' x:=by
 obtain ⟨g',cs,e,hg,hk,hs⟩:=h;exact ⟨g',cs,e,hg,hk.step hb,hs⟩
theorem ArgO.room {B:Nat} {W:World} {x:InstA} (h:ArgO W B x):ArgE B W.heap.size W x:=by
 obtain ⟨g,e,ho⟩:=h;have hl:=ho.lt g (by simp [Value.ownBlock])
 rcases ho.2 with ⟨h9,_⟩ | ⟨g',cap,cur,h9,_,hh,h1,_,h2,_⟩
 ·cases h9
 ·cases h9
  exact ⟨g,cur,e,hl,hh,by omega⟩
structure SpS (B N:Nat) (W:World) (g n:Nat) (l:List InstA):Prop where
 row:W.ownsRow B 98 4 (.slice (some ⟨g,0,none⟩) n n) n (Icells l)
 low:g<N
 args:∀ x∈l,ArgE B N W x
 len:l.length=n
theorem OwnM.room {B:Nat} {W:World} {g n:Nat} {l:List InstA} (h:OwnM B W g n l) (hl:l.length=n):SpS B W.heap.size W g n l :=
 ⟨h.1,(h.1.lt g (by simp [Value.ownBlock])).2,fun x hx=>(h.2 x hx).room,hl⟩
theorem SpS.step {B N:Nat} {W W':World} {g n:Nat} {l:List InstA} (h:SpS B N W g n l) (hb:Below W.heap.size W W'):SpS B N W' g n l :=
 ⟨own_below h.row hb,h.low,fun x hx=>(h.args x hx).step hb,h.len⟩
end
end Go.Proofs.YtkfjjkibbjlldaaGreatDoor
