/- Walks: the copies of the statements' own package: CopyWords, CopyBytes. -/
import Derived.Test.YteelmakkogdieaaGreatDoorCTF
import Derived.Test.YteelmakkogdieaaGreatDoorCTB
import Derived.Test.YteelmakkogdieaaGreatDoorCUC
import Derived.Test.YteelmakkogdieaaGreatDoorCUK
set_option maxRecDepth 100000
set_option maxHeartbeats 400000
namespace Go.Proofs.YteelmakkogdieaaGreatDoor
section
open Go.RowKit
theorem words_same (A A':Option Addr) (n n' c c':Nat) (l l':List Int) (w:World) (hn:n≤9223372036854775807) (hr:Reads w w.heap.size 1 A n (Ints .u32 l)) (hr':Reads w w.heap.size 1 A' n' (Ints .u32 l')) :
  Calls Tryz.prog 31 #[.slice A n c,.slice A' n' c'] w fun e w'=>e=.returned (.bool (sameB l l'))∧Drawn w w':=by
 have e1:=hr.len;have e2:=hr'.len
 by_cases hnn:n=n'
 ·subst hnn;have E1:=Lib.hid e1;clear e1;have E2:=Lib.hid e2;clear e2;go_enter Tryz.func31,Tryz.ntmps31;go_wp2
  go_loopw [5] (fun i wr=>∃ k:Nat,k≤n∧i=.int .i64 k∧SameTo l l' k∧Drawn w wr) (fun i _=>n-(intOf i).toNat)
  case atStart=>exact ⟨0,by omega,rfl,SameTo.zero _ _,Drawn.refl _⟩
  case round =>
   obtain ⟨k,hk,rfl,hs,m,rfl⟩:=hrel
   by_cases hlt:k<n
   ·obtain ⟨ad,rfl,hadb,hc⟩:=hr.int_at hlt;obtain ⟨ad',rfl,hadb',hc'⟩:=hr'.int_at hlt
    by_cases he:ix l k=ix l' k
    ·have hb:(ix l k != ix l' k)=false:=by rw [he];simp
     have He:=Lib.hid he;clear he;go_wp2
     go_quiet (fail)
     go_wp2
     go_roundw
     case rel=>exact ⟨k+1,by omega,by go_num,hs.succ He.out,Drawn.mk _ _⟩
     case measure=>simp [intOf];omega
    ·have hb:(ix l k != ix l' k)=true:=by simpa using he
     go_wp2
     go_quiet (fail)
     go_wp2
     go_ret
     exact ⟨ret_bool (sameB_at k he).symm,(Drawn.mk _ _).more _⟩
   ·obtain rfl:k=n:=by omega
    go_wp2
    go_ret
    exact ⟨ret_bool (sameB_all E1.out E2.out hs).symm,Drawn.mk _ _⟩
 ·have hb:((n:Int) != (n':Int))=true:=by rw [bne_iff_ne];omega
  go_enter Tryz.func31,Tryz.ntmps31;go_wp2
  go_ret
  exact ⟨ret_bool (sameB_ne (by omega)).symm,Drawn.refl _⟩
end
section
open Go.RowKit
theorem reads_mid {w:World} {B n:Nat} {b off:Nat} {l:List Int} (h:∀ k,k<n→w.cell? ⟨b,off+k,none⟩=some (.int .u32 (ix l k))) (hb:b<B) (hl:l.length=n) {p m:Nat} (hm:p+m≤n) :
  Reads w B 1 (some ⟨b,off+p,none⟩) m (Ints .u32 ((l.drop p).take m)):=by
 have hlen:((l.drop p).take m).length=m:=by rw [List.length_take,List.length_drop];omega
 refine ⟨by rw [Ints_length,hlen];omega,fun h0=>⟨⟨b,off+p,none⟩,rfl,hb,fun j v hv=>?_⟩⟩
 rw [add_plain];have hj:j<m:=by
  have:=(List.getElem?_eq_some_iff.1 hv).1;rw [Ints_length,hlen] at this;exact this
 rw [Nat.add_assoc,h (p+j) (by omega)]
 rw [Ints_at (by omega)] at hv
 rw [← hv];have h1:j<((l.drop p).take m).length:=by omega
 have h2:p+j<l.length:=by omega
 rw [ix_of h1,ix_of h2,List.getElem_take,List.getElem_drop]
end
section
open Go.RowKit
end
section
open Go.RowKit Go.WideShapes
structure Kept (N:Nat) (w w':World):Prop where
 size:w.heap.size≤w'.heap.size
 same:∀ b,N≤b→b<w.heap.size→w'.heap[b]?=w.heap[b]?
theorem Kept.refl (N:Nat) (w:World):Kept N w w:=⟨Nat.le_refl _,fun _ _ _=>rfl⟩
theorem Kept.trans {N:Nat} {w w' w2:World} (h:Kept N w w') (h2:Kept N w' w2):Kept N w w2 :=
 ⟨Nat.le_trans h.size h2.size,fun b hb hl=>(h2.same b hb (by have:=h.size;omega)).trans (h.same b hb hl)⟩
theorem Kept.setCell {N:Nat} {w w':World} (h:Kept N w w') {p:Addr} (hp:p.block<N) (u:Value):Kept N w (w'.setCell p u) :=
 ⟨by simpa using h.size,fun b hb hl=>(Below.heap_setCell w' p u b (by omega)).trans (h.same b hb hl)⟩
theorem Kept.of_below {N:Nat} {w w':World} (h:Below w.heap.size w w'):Kept N w w':=⟨h.size,fun b _ hl=>h.block b hl⟩
theorem Kept.cell {N:Nat} {w w':World} (h:Kept N w w') {p:Addr} (hp:N≤p.block) {v:Value} (hc:w.cell? p=some v):w'.cell? p=some v:=by
 rcases Nat.lt_or_ge p.block w.heap.size with hl | hl
 ·exact (World.cell?_of_block (h.same p.block hp hl)).trans hc
 ·exfalso
  have e:w.heap[p.block]?=none:=by simp [hl]
  simp [World.cell?,e] at hc
def ArgE (B N:Nat) (W:World) (x:InstA):Prop:=∃ (g:Nat) (cs:Array Value),x.2=(some ⟨g,0,none⟩,x.2.2.1,x.2.2.1)∧(B≤g∧g<N)∧Blk W g 53 cs∧x.2.2.1*3≤cs.size
theorem ArgE.set {B N:Nat} {W:World} {x:InstA} (h:ArgE B N W x) (g i:Nat) (u:Value):ArgE B N (W.setCell ⟨g,i,none⟩ u) x:=by
 obtain ⟨g',cs,e,hg,hk,hs⟩:=h
 by_cases e1:g'=g
 ·subst e1;exact ⟨g',_,e,hg,hk.set_ i u,by simpa using hs⟩
 ·exact ⟨g',cs,e,hg,hk.far (p:=⟨g,i,none⟩) e1 u,hs⟩
theorem ArgE.step {B N:Nat} {W W':World} {x:InstA} (h:ArgE B N W x) (hb:Below W.heap.size W W'):ArgE B N W' x:=by
 obtain ⟨g',cs,e,hg,hk,hs⟩:=h;exact ⟨g',cs,e,hg,hk.step hb,hs⟩
theorem ArgO.room {B:Nat} {W:World} {x:InstA} (h:ArgO W B x):ArgE B W.heap.size W x:=by
 obtain ⟨g,e,ho⟩:=h;have hl:=ho.lt g (by simp [Value.ownBlock])
 rcases ho.2 with ⟨h9,_⟩ | ⟨g',cap,cur,h9,_,hh,h1,_,h2,_⟩
 ·cases h9
 ·cases h9
  exact ⟨g,cur,e,hl,hh,by omega⟩
structure SpS (B N:Nat) (W:World) (g n:Nat) (l:List InstA):Prop where
 row:W.ownsRow B 51 4 (.slice (some ⟨g,0,none⟩) n n) n (Icells l)
 low:g<N
 args:∀ x∈l,ArgE B N W x
 len:l.length=n
theorem OwnM.room {B:Nat} {W:World} {g n:Nat} {l:List InstA} (h:OwnM B W g n l) (hl:l.length=n):SpS B W.heap.size W g n l :=
 ⟨h.1,(h.1.lt g (by simp [Value.ownBlock])).2,fun x hx=>(h.2 x hx).room,hl⟩
theorem SpS.step {B N:Nat} {W W':World} {g n:Nat} {l:List InstA} (h:SpS B N W g n l) (hb:Below W.heap.size W W'):SpS B N W' g n l :=
 ⟨own_below h.row hb,h.low,fun x hx=>(h.args x hx).step hb,h.len⟩
end
end Go.Proofs.YteelmakkogdieaaGreatDoor
