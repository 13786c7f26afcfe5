/- Walks: the document's answer on values: Walk, Get. -/
import Derived.Test.YtkfjjkibbjlldaaGreatDoorCQA
import Derived.Test.YtkfjjkibbjlldaaGreatDoorCVD
import Derived.Test.YtkfjjkibbjlldaaGreatDoorCVH
set_option maxRecDepth 100000
set_option maxHeartbeats 8000000
namespace Go.Proofs.YtkfjjkibbjlldaaGreatDoor
section
open Go.RowKit
abbrev F1 (W:World) (p:Addr) (v:Value) (w':World):Prop:=w'.cell? p=some v∧Below W.heap.size W w'
section
variable {W w2 w3:World} {p:Addr} {v:Value}
theorem F1.drew_ (h:F1 W p v w2):F1 W p v w2.drew:=⟨h.1,h.2.drew⟩
theorem F1.call (hb:p.block<W.heap.size) (h:F1 W p v w2) (hq:Below w2.heap.size w2 w3):F1 W p v w3:=⟨(hq.cell (p:=p) (Nat.lt_of_lt_of_le hb h.2.size)).trans h.1,below_cut h.2 hq (Nat.le_refl _)⟩
theorem F1.is (h:F1 W p v w2):Below W.heap.size W w2:=h.2
end
theorem wk_plain {T:Int→TyI} (h0:T 0=ty0) {ty:Int} (hs:0<(T ty).size):ty≠0:=fun e=>by rw [e,h0] at hs;exact absurd hs (by decide)
theorem qwalk_any (p:Option Addr) (T:Int→TyI) (ord:List Int) (ty:Int) (A:Option Addr) (n c:Nat) (l:List Int) (w:World) (h:QTab w p T ord) (hn:n≤4611686018427387904)
  (hr:Reads w w.heap.size 1 A n (Ints .u32 l)) (hl:U32 l) (hp:0<(T ty).size) :
  Calls Tryz.prog 45 #[.pointer p,.int .u32 ty,.slice A n c] w fun e w'=>e=.returned (.tuple #[.int .u32 (wkW T 0 ty l).2,.int .i64 (wkW T 0 ty l).1,.bool ((wkW T 0 ty l).2 != 0)])∧Below w.heap.size w w':=by
 have hlen:=hr.len;obtain ⟨v,hvv⟩:∃ v,v=wkW T 0 ty l:=⟨_,rfl⟩;rw [← hvv];have HV:=Lib.hid hvv;have HH:=Lib.hid h;have HR:=Lib.hid hr;have HL:=Lib.hid hl;have HP:=Lib.hid hp;have hsb:=(h.ok.ty.size ty).2.2;clear hvv h hr hl hp;go_enter Tryz.func45,Tryz.ntmps45;go_wp2_with fail;go_loopg [1,9,10,11,12,13] n (fun q t a i u11 u12 u13 wr=>∃ (k:Nat) (u av:Int),k+q=n∧t=.int .u32 u∧a=.int .i64 av∧i=.int .i64 (k:Nat)∧Hid (v=wkW T av u (l.drop k))∧Hid (0<(T u).size)∧0≤av∧av+(T u).size≤(T ty).size∧Below w.heap.size w wr)
 case atStart=>exact ⟨0,ty,0,by omega,rfl,rfl,rfl,HV,HP,Int.le_refl _,by omega,Below.refl _ _⟩
 case round =>
  obtain ⟨k,u,av,hkq,rfl,rfl,rfl,HK,HU,ha0,ha1,hbr⟩:=hrel
  by_cases hlt:k<n
  ·have d1:decide (((k:Nat):Int)<(n:Nat))=true:=by rw [decide_eq_true_eq];omega
   have hlt2:((k:Nat):Int)<(n:Nat):=by omega
   obtain ⟨b,off,rfl,hbb,hcc⟩:=(rd_on HR.out hbr).ints (by omega)
   have c0:=hcc k hlt;have hdk:l.drop k=ix l k :: l.drop (k+1):=by rw [ix_of (by omega)];exact List.drop_eq_getElem_cons (by omega)
   have hk1:=HK.out;rw [hdk] at hk1;unfold wkW at hk1;have hxl:=HL.out (ix l k) (ix_in (by omega))
   have hcb:=cnt_bd HH.out.ok.ty u;have hcn:=fun w' (hb:Below w.heap.size w w')=>(HH.out.on hb).count_ u
   have hof:=fun w' (hb:Below w.heap.size w w')=>(HH.out.on hb).off_ u (ix l k) (by omega)
   have hpt:=fun w' (hb:Below w.heap.size w w')=>(HH.out.on hb).part_ u (ix l k)
   have cells:=fun w' (hb:Below wr.heap.size wr w')=>(hb.cell (p:=⟨b,off+k,none⟩) hbb).trans c0
   generalize ix l k=x at *;have wM:IntKind.u32.wrap (cntT (T u))=cntT (T u):=IntWalk.u32_in _ (by omega)
   have wM2:cntT (T u) % 4294967296=cntT (T u):=by omega
   have wX:IntKind.i64.wrap x=x:=IntWalk.i64_in _ (by omega)
   by_cases h0:cntT (T u)≤x
   ·rw [if_pos h0] at hk1;have HK1:=Lib.hid hk1;have d2:decide (x≥cntT (T u))=true:=by rw [decide_eq_true_eq];exact h0
    clear hk1 hdk h0 hcc HK hcb hof hpt;generalize cntT (T u)=N at *;have hS0:F1 wr ⟨b,off+k,none⟩ (.int .u32 x) wr:=⟨c0,Below.refl _ _⟩;have hcn2:=fun (w':World) (hb:Below wr.heap.size wr w')=>hcn w' (below_cut hbr hb (Nat.le_refl _))
    go_upto_region 5 with fail
    go_region_held3 (F1 wr ⟨b,off+k,none⟩ (.int .u32 x)) (first | with_reducible exact hS0.drew_ | with_reducible assumption | with_reducible exact F1.call hbb (by assumption) hbq | fail) ((go_at_call 41;(with_reducible refine (hcn2 _ (F1.is (by assumption))).mono ?_);rintro e w2 ⟨rfl,hbq⟩))
    all_goals
     have hH:F1 wr ⟨b,off+k,none⟩ (.int .u32 x) w2:=by assumption
     have hb3:=below_cut hbr hH.2 (Nat.le_refl _);have c1:=hH.1;clear hcn hcn2 hS0;go_wp2_with fail;go_ret3
     exact ⟨by rw [HK1.out];rfl,hb3⟩
   ·rw [if_neg h0] at hk1;have d2:decide (x≥cntT (T u))=false:=by rw [decide_eq_false_iff_not];exact h0
    have hpi:=part_in HH.out.ok.ty HU.out (k:=x) (by omega) (by omega)
    have HK1:=Lib.hid hk1;have HPI:=Lib.hid hpi.1;obtain ⟨-,hp2,hp3⟩:=hpi;clear hk1 hdk hcc HK h0;generalize cntT (T u)=N at *;have hS0:F1 wr ⟨b,off+k,none⟩ (.int .u32 x) wr:=⟨c0,Below.refl _ _⟩;have hcn2:=fun (w':World) (hb:Below wr.heap.size wr w')=>hcn w' (below_cut hbr hb (Nat.le_refl _))
    go_upto_region 5 with fail
    go_region_held3 (F1 wr ⟨b,off+k,none⟩ (.int .u32 x)) (first | with_reducible exact hS0.drew_ | with_reducible assumption | with_reducible exact F1.call hbb (by assumption) hbq | fail) ((go_at_call 41;(with_reducible refine (hcn2 _ (F1.is (by assumption))).mono ?_);rintro e w2 ⟨rfl,hbq⟩))
    all_goals
     have hH:F1 wr ⟨b,off+k,none⟩ (.int .u32 x) w2:=by assumption
     have hb3:=below_cut hbr hH.2 (Nat.le_refl _);have c1:=hH.1;have hof2:=hof w2 hb3;clear hcn hcn2 hS0 hof;go_wp2_with fail;refine hof2.mono ?_;rintro e w3 ⟨rfl,hb4⟩;have hb5:=below_cut hb3 hb4 (Nat.le_refl _);have hpt2:=hpt w3 hb5;clear hof2 hpt;go_wp2_with fail;refine hpt2.mono ?_;rintro e w4 ⟨rfl,hb6⟩;have hb7:=below_cut hb5 hb6 (Nat.le_refl _);clear hpt2;generalize (offT T (T u) x).1=o at *;generalize (partT (T u) x).1=u2 at *;have wS:IntKind.i64.wrap (av+o)=av+o:=IntWalk.i64_in _ (by have:=HPI.out;omega)
     go_wp2_with fail;go_roundg (n-(k+1))
     case measure=>omega
     case rel=>exact ⟨k+1,u2,av+o,by omega,rfl,rfl,by go_num,HK1,HPI,by omega,by omega,hb7⟩
  ·have d1:decide (((k:Nat):Int)<(n:Nat))=false:=by rw [decide_eq_false_iff_not];omega
   have hk1:=HK.out;rw [List.drop_of_length_le (by omega)] at hk1
   have hne:u≠0:=wk_plain HH.out.ok.zero HU.out;have hb0:(u != 0)=true:=by simpa using hne
   have HK1:=Lib.hid hk1;have HB:=Lib.hid hb0;clear hk1 HK hb0;go_wp2_with fail;go_ret3
   exact ⟨by rw [HK1.out];show _=Ending.returned (.tuple #[.int .u32 u,.int .i64 av,.bool (u != 0)]);rw [HB.out];rfl,hbr⟩
def getQ (p:Option Addr) (T:Int→TyI) (ty:Int) (ws l:List Int):Int × List Int × Int:=if p=none then (0,[],1) else getV T ty ws l
def QGet (r:Int × List Int × Int) (w:World) (e:Ending) (w':World):Prop :=
 ∃ A c,e=.returned (.tuple #[.int .u32 r.1,.slice A r.2.1.length c,.int .i64 r.2.2])∧Reads w' w'.heap.size 1 A r.2.1.length (Ints .u32 r.2.1)∧Below w.heap.size w w'
theorem qget_any (p:Option Addr) (T:Int→TyI) (ord:List Int) (ty:Int) (A:Option Addr) (n c:Nat) (ws:List Int) (A2:Option Addr) (n2 c2:Nat) (l:List Int) (w:World) (h:QTab w p T ord) (hr:Reads w w.heap.size 1 A n (Ints .u32 ws)) (hnc:n≤c)
  (hr2:Reads w w.heap.size 1 A2 n2 (Ints .u32 l)) (hn2:n2≤4611686018427387904) (hl:U32 l) :
  Calls Tryz.prog 20 #[.pointer p,.int .u32 ty,.slice A n c,.slice A2 n2 c2] w (QGet (getQ p T ty ws l) w):=by
 have hlen:=hr.len;have hak:=qasked_any p T ord ty A n c ws w h hr
 by_cases h0:asE p T ty ws=0
 ·have hp:p≠none:=fun e=>by rw [e] at h0;unfold asE at h0;rw [if_pos rfl] at h0;exact absurd h0 (by decide)
  have hq:getQ p T ty ws l=getV T ty ws l:=if_neg hp;have hg:gvE T ty ws=0:=by unfold asE at h0;rwa [if_neg hp] at h0
  obtain ⟨hs,-,hws⟩:=gvE_zero hg;rw [h0] at hak;rw [hq,getV_ok _ hg];have hwk:=fun w' (hb:Below w.heap.size w w')=>qwalk_any p T ord ty A2 n2 c2 l w' (h.on hb) hn2 (rd_on hr2 hb) hl hs
  have hin:=wkW_in h.ok.ty (l:=l) (a:=0) (ty:=ty) (fun k hk=>(hl k hk).1) hs
  have hn4:=(h.ok.ty.size ty).2.2;unfold QGet;generalize wkW T 0 ty l=r at *;obtain ⟨r1,r2⟩:=r;dsimp only at hwk hin ⊢;have hsz:=fun w' (hb:Below w.heap.size w w')=>(h.on hb).size_ r2
  have HR:=Lib.hid hr;have HI:=Lib.hid hin;clear hq h0 hg hr hr2 hl h hin
  by_cases hr0:r2=0
  ·have d0:(r2 != 0)=false:=by rw [hr0];rfl
   rw [if_pos hr0];rw [d0] at hwk;clear hsz;go_enter Tryz.func20,Tryz.ntmps20;go_wp2_with fail;refine hak.mono ?_;rintro e w1 ⟨rfl,hb1⟩;have h1:=hwk w1 hb1;clear hak hwk;go_wp2_with fail;refine h1.mono ?_;rintro e w2 ⟨rfl,hb2⟩;go_wp2_with fail;go_ret3
   exact ⟨none,0,rfl,Reads.none_,below_cut hb1 hb2 (Nat.le_refl _)⟩
  ·have d0:(r2 != 0)=true:=by simpa using hr0
   rw [if_neg hr0];rw [d0] at hwk;obtain ⟨q1,q2,q3⟩:0<(T r2).size∧0≤r1∧r1+(T r2).size≤0+(T ty).size:=by
    rcases HI.out with e | e
    ·injection e with _ e;exact absurd e hr0
    ·exact e
   obtain ⟨a,rfl⟩:∃ a:Nat,r1=a:=⟨r1.toNat,by omega⟩
   obtain ⟨m,hm⟩:∃ m:Nat,(T r2).size=m:=⟨(T r2).size.toNat,by omega⟩
   rw [hm] at hsz q1 q3 ⊢;obtain ⟨b,off,rfl,hbb,hcc⟩:=HR.out.ints (by omega)
   have hcp:¬ c=a:=by omega
   have hpm:a+m≤n:=by omega
   have hpc:a+m≤c:=by omega
   have hm1:1≤m:=by omega
   have hA0:(0:Int)≤(a:Nat):=by omega
   have hTN:(((a:Nat):Int)+(m:Nat)).toNat-a=m:=by omega
   have hA1:((a:Nat):Int)≤(a:Nat)+(m:Nat):=by omega
   have hA2:((a:Nat):Int)+(m:Nat)≤(c:Nat):=by omega
   have wS:IntKind.i64.wrap (((a:Nat):Int)+(m:Nat))=(a:Nat)+(m:Nat):=IntWalk.i64_in _ (by omega)
   have hsg:segV' ws (a:Nat) (m:Nat)=(ws.drop a).take m:=rfl;have hsl:(segV' ws (a:Nat) (m:Nat)).length=m:=by rw [hsg,List.length_take,List.length_drop];omega
   have HM:=fun w' (hb:Below w.heap.size w w')=>reads_mid (w:=w') (B:=w'.heap.size) (p:=a) (m:=m) (n:=n) (l:=ws) (fun k hk=>(hb.cell (p:=⟨b,off+k,none⟩) hbb).trans (hcc k hk)) (Nat.lt_of_lt_of_le hbb hb.size) hlen hpm
   rw [← hsg] at HM;rw [hsl];generalize segV' ws (a:Nat) (m:Nat)=sg at *;have HMM:=Lib.hid HM;clear hcc hr0 HI HM hm hsg hsl;go_enter Tryz.func20,Tryz.ntmps20;go_wp2_with fail;refine hak.mono ?_;rintro e w1 ⟨rfl,hb1⟩;have h1:=hwk w1 hb1;clear hak hwk;go_wp2_with fail;refine h1.mono ?_;rintro e w2 ⟨rfl,hb2⟩;have hb3:=below_cut hb1 hb2 (Nat.le_refl _);have h2:=fun (w':World) (hb:Below w2.heap.size w2 w')=>hsz w' (below_cut hb3 hb (Nat.le_refl _))
   have hS0:Below w2.heap.size w2 w2:=Below.refl _ _;clear h1 hsz;go_upto_region 7 with fail
   go_region_held3 (Below w2.heap.size w2) (first | with_reducible exact hS0.drew | with_reducible assumption | with_reducible exact below_cut (by assumption) hbq (Nat.le_refl _) | fail) ((go_at_call 40;(with_reducible refine (h2 _ (by assumption)).mono ?_);rintro e w3 ⟨rfl,hbq⟩))
   all_goals
    have hH:Below w2.heap.size w2 w3:=by assumption
    have hb5:=below_cut hb3 hH (Nat.le_refl _);clear h2;go_wp2_with fail;go_ret3
    exact ⟨_,_,rfl,HMM.out w3 hb5,hb5⟩
 ·have hq:(getQ p T ty ws l)=(0,[],asE p T ty ws):=by
   unfold getQ;unfold asE at h0 ⊢
   split
   ·rfl
   ·rename_i hp
    rw [if_neg hp] at h0;unfold getV;rw [if_pos h0]
  have d0:(asE p T ty ws != 0)=true:=by simpa using h0
  rw [hq];unfold QGet;dsimp only;generalize asE p T ty ws=E at *;clear hq h hr hr2 hl h0;go_enter Tryz.func20,Tryz.ntmps20;go_wp2_with fail;refine hak.mono ?_;rintro e w1 ⟨rfl,hb1⟩;clear hak;go_wp2_with fail;go_ret3
  exact ⟨none,0,rfl,Reads.none_,hb1⟩
end
section
open Go.RowKit
def putQ (p:Option Addr) (T:Int→TyI) (ty:Int) (ws l part:List Int):List Int × Int:=if p=none then ([],1) else putG T ty ws l part
theorem putQ_err {p:Option Addr} {T:Int→TyI} {ty:Int} {ws l part:List Int} (h:asE p T ty ws≠0):putQ p T ty ws l part=([],asE p T ty ws):=by
 unfold putQ;unfold asE at h ⊢
 split
 ·rfl
 ·rename_i hp
  rw [if_neg hp] at h;unfold putG putE;rw [if_pos h,if_neg h]
theorem putQ_ok {p:Option Addr} {T:Int→TyI} {ty:Int} {ws l part:List Int} (h:asE p T ty ws=0):putQ p T ty ws l part=if (wkW T 0 ty l).2=0 then ([],121) else if fitsV T (wkW T 0 ty l).2 part=true then (putV ws (wkW T 0 ty l).1 part,0) else ([],2):=by
 have hp:p≠none:=fun e=>by rw [e] at h;unfold asE at h;rw [if_pos rfl] at h;exact absurd h (by decide)
 have hg:gvE T ty ws=0:=by unfold asE at h;rwa [if_neg hp] at h
 unfold putQ putG putE;rw [if_neg hp,hg,if_neg (show ¬ ((0:Int)≠0) by decide)]
 by_cases h1:(wkW T 0 ty l).2=0
 ·rw [if_pos h1,if_pos h1,if_neg (by decide)]
 ·rw [if_neg h1,if_neg h1]
  by_cases h2:fitsV T (wkW T 0 ty l).2 part=true
  ·rw [if_pos h2,if_pos h2,if_pos rfl]
  ·rw [if_neg h2,if_neg h2,if_neg (by decide)]
def QPut (r:List Int × Int) (w:World) (e:Ending) (w':World):Prop :=
 ∃ A c,e=.returned (.tuple #[.slice A r.1.length c,.int .i64 r.2])∧w'.ownsRow w.heap.size 22 1 (.slice A r.1.length c) r.1.length (Ints .u32 r.1)∧Below w.heap.size w w'
theorem qput_any (p:Option Addr) (T:Int→TyI) (ord:List Int) (ty:Int) (A:Option Addr) (n c:Nat) (ws:List Int) (A2:Option Addr) (n2 c2:Nat) (l:List Int) (A3:Option Addr) (n3 c3:Nat) (part:List Int) (w:World) (h:QTab w p T ord) (hr:Reads w w.heap.size 1 A n (Ints .u32 ws))
  (hr2:Reads w w.heap.size 1 A2 n2 (Ints .u32 l)) (hn2:n2≤4611686018427387904) (hl:U32 l) (hr3:Reads w w.heap.size 1 A3 n3 (Ints .u32 part)) :
  Calls Tryz.prog 23 #[.pointer p,.int .u32 ty,.slice A n c,.slice A2 n2 c2,.slice A3 n3 c3] w (QPut (putQ p T ty ws l part) w):=by
 have hlen:=hr.len;have hlen3:=hr3.len;have hak:=qasked_any p T ord ty A n c ws w h hr
 by_cases h0:asE p T ty ws=0
 ·rw [putQ_ok h0];have hp:p≠none:=fun e=>by rw [e] at h0;unfold asE at h0;rw [if_pos rfl] at h0;exact absurd h0 (by decide)
  have hg:gvE T ty ws=0:=by unfold asE at h0;rwa [if_neg hp] at h0
  obtain ⟨hs,-,hws⟩:=gvE_zero hg;rw [h0] at hak;have hwk:=fun w' (hb:Below w.heap.size w w')=>qwalk_any p T ord ty A2 n2 c2 l w' (h.on hb) hn2 (rd_on hr2 hb) hl hs
  have hin:=wkW_in h.ok.ty (l:=l) (a:=0) (ty:=ty) (fun k hk=>(hl k hk).1) hs
  have hn4:=(h.ok.ty.size ty).2.2;unfold QPut;generalize wkW T 0 ty l=r at *;obtain ⟨r1,r2⟩:=r;dsimp only at hwk hin ⊢;have hft:=fun w' (hb:Below w.heap.size w w')=>qfits_any p T ord r2 A3 n3 c3 part w' (h.on hb) (rd_on hr3 hb)
  unfold BoolIs at hft;have HR:=Lib.hid hr;have HR3:=Lib.hid hr3;have HI:=Lib.hid hin;have HS:=Lib.hid (show fitsV T r2 part=true→(part.length:Int)=(T r2).size from fun h=>by
   unfold fitsV at h;simp only [Bool.and_eq_true,decide_eq_true_eq] at h;exact h.2.1)
  clear h0 hg hr hr2 hr3 hl h hin
  by_cases hr0:r2=0
  ·have d0:(r2 != 0)=false:=by rw [hr0];rfl
   rw [if_pos hr0];rw [d0] at hwk;clear hft;go_enter Tryz.func23,Tryz.ntmps23;go_wp2_with fail;refine hak.mono ?_;rintro e w1 ⟨rfl,hb1⟩;have h1:=hwk w1 hb1;clear hak hwk;go_wp2_with fail;refine h1.mono ?_;rintro e w2 ⟨rfl,hb2⟩;go_wp2_with fail;go_ret2
   exact ⟨none,0,rfl,World.ownsRow_nil _ _ _ _,below_cut hb1 hb2 (Nat.le_refl _)⟩
  ·have d0:(r2 != 0)=true:=by simpa using hr0
   rw [if_neg hr0];rw [d0] at hwk;obtain ⟨q1,q2,q3⟩:0<(T r2).size∧0≤r1∧r1+(T r2).size≤0+(T ty).size:=by
    rcases HI.out with e | e
    ·injection e with _ e;exact absurd e hr0
    ·exact e
   obtain ⟨a,rfl⟩:∃ a:Nat,r1=a:=⟨r1.toNat,by omega⟩
   clear hr0 HI;cases hfp:fitsV T r2 part with
   | false =>
    rw [hfp] at hft;rw [if_neg (by decide)]
    clear hfp HS;go_enter Tryz.func23,Tryz.ntmps23;go_wp2_with fail;refine hak.mono ?_;rintro e w1 ⟨rfl,hb1⟩;have h1:=hwk w1 hb1;clear hak hwk;go_wp2_with fail;refine h1.mono ?_;rintro e w2 ⟨rfl,hb2⟩;have hb3:=below_cut hb1 hb2 (Nat.le_refl _);have h2:=hft w2 hb3;clear h1 hft;go_wp2_with fail;refine h2.mono ?_;rintro e w3 ⟨rfl,hb4⟩;go_wp2_with fail;go_ret2
    exact ⟨none,0,rfl,World.ownsRow_nil _ _ _ _,below_cut hb3 hb4 (Nat.le_refl _)⟩
   | true =>
    rw [hfp] at hft;rw [if_pos rfl];have hpl:=HS.out hfp;have hin:(a:Int)+part.length≤ws.length:=by omega
    have hpl2:=put_len (ws:=ws) (part:=part) (a:=(a:Nat)) (by omega) hin
    have hpx:=fun k=>put_ix (ws:=ws) (part:=part) (a:=(a:Nat)) (by omega) hin k
    generalize putV ws (a:Nat) part=ps at *;rw [show ps.length=n by omega]
    have HPX:=Lib.hid hpx;have hpsn:ps.length=n:=by omega
    have ha3:a+n3≤n:=by omega
    have hn4b:n≤4096:=by omega
    clear hfp HS hpx;go_enter Tryz.func23,Tryz.ntmps23;go_wp2_with fail;refine hak.mono ?_;rintro e w1 ⟨rfl,hb1⟩;have h1:=hwk w1 hb1;clear hak hwk;go_wp2_with fail;refine h1.mono ?_;rintro e w2 ⟨rfl,hb2⟩;have hb3:=below_cut hb1 hb2 (Nat.le_refl _);have h2:=hft w2 hb3;clear h1 hft;go_wp2_with fail;refine h2.mono ?_;rintro e w3 ⟨rfl,hb4⟩;have hb5:=below_cut hb3 hb4 (Nat.le_refl _);have hs5:=hb5.size;clear h2;go_wp2_with (at_make;refine mk_full sl32 rfl w3 rfl _ _ rfl w.heap.size n rfl rfl rfl rfl (by omega) (by omega) (by omega) ?_;intro w4 hown hgr)
    have hb6:=hb5.grown hgr hs5 (fun _ h=>by cases h)
    have hr4:=rd_on HR.out hb6;have hr5:=rd_on HR3.out hb6;go_loopg [17] n (fun r i wr=>∃ k:Nat,k+r=n∧i=.int .i64 (k:Nat)∧wr.ownsRow w.heap.size 22 1 (.slice (some ⟨w3.heap.size,0,none⟩) n n) n (Ints .u32 (mid ps n k))∧Below w.heap.size w wr)
    case atStart=>exact ⟨0,by omega,rfl,by rw [mid_zero,Ints_replicate];exact hown,hb6⟩
    case round =>
     obtain ⟨k,hkr,rfl,ho,hbr⟩:=hrel
     by_cases hlt:k<n
     ·have d1:decide (((k:Nat):Int)<(n:Nat))=true:=by rw [decide_eq_true_eq];omega
      have hlt2:((k:Nat):Int)<(n:Nat):=by omega
      obtain ⟨b,off,rfl,hbb,hcc⟩:=(rd_on HR.out hbr).ints (by omega)
      have x0:=hcc k hlt;have hc1:=own_int_at ho hlt;have hf1:=ho.frozenAt k;have hms:=mid_set hpsn hlt;have hpk:=HPX.out k
      by_cases h1:(a:Int)≤k
      ·have d2:decide (((k:Nat):Int)≥(a:Nat))=true:=by rw [decide_eq_true_eq];omega
       have hna:a≤k:=by omega
       have wS:IntKind.i64.wrap (((a:Nat):Int)+(n3:Nat))=(a:Nat)+(n3:Nat):=IntWalk.i64_in _ (by omega)
       by_cases h2:k<a+n3
       ·have d3:decide (((k:Nat):Int)<(a:Nat)+(n3:Nat))=true:=by rw [decide_eq_true_eq];omega
        obtain ⟨j,rfl⟩:∃ j,k=a+j:=⟨k-a,by omega⟩
        obtain ⟨b3,off3,rfl,hbb3,hcc3⟩:=HR3.out.ints (by omega)
        have wD:IntKind.i64.wrap (((a+j:Nat):Int)-(a:Nat))=(j:Nat):=by rw [show ((a+j:Nat):Int)-(a:Nat)=(j:Nat) by omega];exact IntWalk.i64_in _ (by omega)
        have wD2:((a+j:Nat):Int)-(a:Nat)=(j:Nat):=by omega
        have hj3:((j:Nat):Int)<(n3:Nat):=by omega
        rw [if_neg (by omega),if_pos (by omega),show a+j-((a:Nat):Int).toNat=j by omega] at hpk
        have ho1:=own_int_set ho (a+j) (ix ws (a+j));have hb7:=hbr.setCell (p:=⟨w3.heap.size,a+j,none⟩) (by show w.heap.size≤w3.heap.size;omega) (.int .u32 (ix ws (a+j)))
        have y0:=(hb7.cell (p:=⟨b3,off3+j,none⟩) hbb3).trans (hcc3 j (by omega))
        have hc2:=own_int_at ho1 hlt;have hf2:=ho1.frozenAt (a+j);have ho2:=own_int_set ho1 (a+j) (ix part j);rw [List.set_set,← hpk,hms] at ho2;have hb8:=hb7.setCell (p:=⟨w3.heap.size,a+j,none⟩) (by show w.heap.size≤w3.heap.size;omega) (.int .u32 (ix ps (a+j)))
        rw [hpk] at ho2 hb8;have HO:=Lib.hid ho2;generalize ix ws (a+j)=x at *;generalize ix part j=y at *;clear hpk ho ho1 ho2 hcc hcc3 hms h1;go_wp2_with fail;go_roundg (n-(a+j+1))
        case measure=>omega
        case rel=>exact ⟨a+j+1,by omega,by go_num,HO.out,hb8⟩
       ·have d3:decide (((k:Nat):Int)<(a:Nat)+(n3:Nat))=false:=by rw [decide_eq_false_iff_not];omega
        rw [if_neg (by omega),if_neg (by omega)] at hpk
        have ho1:=own_int_set ho k (ix ws k);have hb7:=hbr.setCell (p:=⟨w3.heap.size,k,none⟩) (by show w.heap.size≤w3.heap.size;omega) (.int .u32 (ix ws k))
        rw [← hpk,hms] at ho1;rw [hpk] at ho1;have HO:=Lib.hid ho1;generalize ix ws k=x at *;clear hpk ho ho1 hcc hms h1;go_wp2_with fail;go_roundg (n-(k+1))
        case measure=>omega
        case rel=>exact ⟨k+1,by omega,by go_num,HO.out,hb7⟩
      ·have d2:decide (((k:Nat):Int)≥(a:Nat))=false:=by rw [decide_eq_false_iff_not];omega
       have hna:¬ a≤k:=by omega
       rw [if_pos (by omega)] at hpk
       have ho1:=own_int_set ho k (ix ws k);have hb7:=hbr.setCell (p:=⟨w3.heap.size,k,none⟩) (by show w.heap.size≤w3.heap.size;omega) (.int .u32 (ix ws k))
       rw [← hpk,hms] at ho1;rw [hpk] at ho1;have HO:=Lib.hid ho1;generalize ix ws k=x at *;clear hpk ho ho1 hcc hms h1;go_wp2_with fail;go_roundg (n-(k+1))
       case measure=>omega
       case rel=>exact ⟨k+1,by omega,by go_num,HO.out,hb7⟩
     ·obtain rfl:k=n:=by omega
      have d1:decide (((k:Nat):Int)<(k:Nat))=false:=by rw [decide_eq_false_iff_not];omega
      rw [mid_all hpsn] at ho;have HO:=Lib.hid ho;clear ho;go_wp2_with fail;go_ret2
      exact ⟨_,_,rfl,HO.out,hbr⟩
 ·rw [putQ_err h0];have d0:(asE p T ty ws != 0)=true:=by simpa using h0
  unfold QPut;dsimp only;generalize asE p T ty ws=E at *;clear h hr hr2 hr3 hl h0;go_enter Tryz.func23,Tryz.ntmps23;go_wp2_with fail;refine hak.mono ?_;rintro e w1 ⟨rfl,hb1⟩;clear hak;go_wp2_with fail;go_ret2
  exact ⟨none,0,rfl,World.ownsRow_nil _ _ _ _,hb1⟩
end
section
open Go.RowKit
theorem itoa_neg {v:Int} (h:2147483648≤v∧v<4294967296):Lib.itoa (v-4294967296)=45 :: Lib.itoa (4294967296-v):=by
 unfold Lib.itoa;rw [if_pos (by omega),if_neg (by omega)]
 congr 2
 omega
theorem qone_any (p:Option Addr) (T:Int→TyI) (ord:List Int) (ty v:Int) (w:World) (h:QTab w p T ord) (hP:Pow w) (hv:0≤v∧v<4294967296) :
  Calls Tryz.prog 64 #[.pointer p,.int .u32 ty,.int .u32 v] w (StrV (leafB (T ty) v) w):=by
 have hkd:=h.kind_ ty;have hsg:=fun w' (hb:Below w.heap.size w w')=>(h.on hb).signed_ ty
 have hfu:=fun w' (hb:Below w.heap.size w w') (n:Int) hn=>fmtU_any n hn w' (hP.step hb)
 obtain ⟨r,hr⟩:∃ r,r=leafB (T ty) v:=⟨_,rfl⟩;rw [← hr];have HR:=Lib.hid hr;clear hr h hP;unfold StrV
 by_cases hk:(T ty).kind=2
 ·rw [hk] at hkd;clear hsg hfu
  by_cases h1:v=1
  ·have e1:(v==1)=true:=by rw [h1];rfl
   have HRV:=Lib.hid (show r=trueB by rw [HR.out];unfold leafB;rw [if_pos hk,if_pos h1])
   clear hk h1;go_enter Tryz.func64,Tryz.ntmps64;go_wp2_with fail;refine hkd.mono ?_;rintro e w1 ⟨rfl,hb1⟩;go_wp2_with fail;go_ret
   exact ⟨by rw [HRV.out];rfl,hb1⟩
  ·have e1:(v==1)=false:=by simpa using h1
   have HRV:=Lib.hid (show r=falseB by rw [HR.out];unfold leafB;rw [if_pos hk,if_neg h1])
   clear hk h1;go_enter Tryz.func64,Tryz.ntmps64;go_wp2_with fail;refine hkd.mono ?_;rintro e w1 ⟨rfl,hb1⟩;go_wp2_with fail;go_ret
   exact ⟨by rw [HRV.out];rfl,hb1⟩
 ·have e2:((T ty).kind==2)=false:=by rw [beq_eq_false_iff_ne];exact hk
  have HRV:=Lib.hid (show r=Lib.itoa (sgV (T ty).signed v) by rw [HR.out];unfold leafB;rw [if_neg hk])
  have hw1:IntKind.u64.wrap v=v:=by rw [IntKind.wrap_u64];omega
  have hw2:v % 18446744073709551616=v:=by omega
  clear hk;generalize (T ty).signed=sg at *;generalize (T ty).kind=kd at *
  by_cases hc:sg=true∧2147483648≤v
  ·obtain ⟨rfl,hc⟩:=hc;have d1:decide (v≥2147483648)=true:=by rw [decide_eq_true_eq];exact hc
   have HS:=Lib.hid (show r=45 :: Lib.itoa (4294967296-v) by rw [HRV.out,← itoa_neg ⟨hc,hv.2⟩];unfold sgV;rw [if_pos ⟨rfl,hc⟩])
   have hw3:IntKind.u64.wrap (4294967296-v)=4294967296-v:=by rw [IntKind.wrap_u64];omega
   have hw4:(4294967296-v) % 18446744073709551616=4294967296-v:=by omega
   have hlen:(Lib.itoa (4294967296-v)).length≤21:=Lib.itoa_length_le _ (by omega) (by omega)
   clear hc;go_enter Tryz.func64,Tryz.ntmps64;go_wp2_with fail;refine hkd.mono ?_;rintro e w1 ⟨rfl,hb1⟩;have h1:=hsg w1 hb1;clear hkd hsg;go_wp2_with fail;refine h1.mono ?_;rintro e w2 ⟨rfl,hb2⟩;have hb3:=below_cut hb1 hb2 (Nat.le_refl _);have h2:=hfu w2 hb3 (4294967296-v) (by omega)
   clear h1 hfu;go_wp2_with fail;generalize Lib.itoa (4294967296-v)=il at *;refine h2.mono ?_;rintro e w3 ⟨rfl,hb4⟩;have hs1:¬ 9223372036854775807<1+il.length:=by omega
   have hs2:¬ 9223372036854775807<il.length+1:=by omega
   clear h2;go_wp2_with fail;go_ret
   refine ⟨?_,below_cut hb3 hb4 (Nat.le_refl _)⟩;rw [HS.out]
   show Ending.returned (.string _)=_
   congr 2
  ·have HS:=Lib.hid (show r=Lib.itoa v by rw [HRV.out];unfold sgV;rw [if_neg hc])
   cases sg with
   | true =>
    have d1:decide (v≥2147483648)=false:=by rw [decide_eq_false_iff_not];exact fun h=>hc ⟨rfl,h⟩
    clear hc;go_enter Tryz.func64,Tryz.ntmps64;go_wp2_with fail;refine hkd.mono ?_;rintro e w1 ⟨rfl,hb1⟩;have h1:=hsg w1 hb1;clear hkd hsg;go_wp2_with fail;refine h1.mono ?_;rintro e w2 ⟨rfl,hb2⟩;have hb3:=below_cut hb1 hb2 (Nat.le_refl _);have h2:=hfu w2 hb3 v (by omega)
    clear h1 hfu;go_wp2_with fail;refine h2.mono ?_;rintro e w3 ⟨rfl,hb4⟩;go_wp2_with fail;go_ret
    exact ⟨by rw [HS.out];rfl,below_cut hb3 hb4 (Nat.le_refl _)⟩
   | false =>
    clear hc;go_enter Tryz.func64,Tryz.ntmps64;go_wp2_with fail;refine hkd.mono ?_;rintro e w1 ⟨rfl,hb1⟩;have h1:=hsg w1 hb1;clear hkd hsg;go_wp2_with fail;refine h1.mono ?_;rintro e w2 ⟨rfl,hb2⟩;have hb3:=below_cut hb1 hb2 (Nat.le_refl _);have h2:=hfu w2 hb3 v (by omega)
    clear h1 hfu;go_wp2_with fail;refine h2.mono ?_;rintro e w3 ⟨rfl,hb4⟩;go_wp2_with fail;go_ret
    exact ⟨by rw [HS.out];rfl,below_cut hb3 hb4 (Nat.le_refl _)⟩
end
section
open Go.RowKit
def segQ (f:Nat→List UInt8) (k:Nat):List UInt8:=if k=0 then [123] else segV f k
theorem segQ_step (f:Nat→List UInt8) (k:Nat):segQ f (k+1)=(if k=0 then segQ f k else segQ f k++[44,32])++f k:=by
 unfold segQ;rw [if_neg (by omega)]
 show segV f k++_=_
 by_cases h:k=0
 ·subst h;rfl
 ·rw [if_neg h,if_neg h,if_neg h,List.append_assoc]
def QTx (T:Int→TyI) (q:Nat) (ty:Int) (ws:List Int) (w:World) (e:Ending) (w':World):Prop:=e=.returned (.tuple #[.string (bs (textV T q ty (ws.take (T ty).size.toNat))),.int .i64 (T ty).size])∧Below w.heap.size w w'
theorem qtext_in (p:Option Addr) (T:Int→TyI) (ord:List Int):∀ (q:Nat),q≤19→∀ (ty:Int) (A:Option Addr) (n c:Nat) (ws:List Int) (w:World),QTab w p T ord→Pow w→0<(T ty).size→rankT (T ty)<(q:Int)→Reads w w.heap.size 1 A n (Ints .u32 ws)→n≤c→n≤4096→(T ty).size≤n→okV T q ty (ws.take (T ty).size.toNat) →
  Calls Tryz.prog 37 #[.pointer p,.int .u32 ty,.slice A n c] w (QTx T q ty ws w)
 | 0,_=>fun ty _ _ _ _ _ h _ _ hq _ _ _ _ _=>absurd hq (by have:=(rankT_bd h.ok.ty ty).1;omega)
 | q+1,hq19=>fun ty A n c ws w h hPw hs hq hr hnc hn4 hsn hok=>by
  have ih:=qtext_in p T ord q (by omega)
  have hlen:=hr.len;have hcn:=fun w' (hb:Below w.heap.size w w')=>(h.on hb).count_ ty
  by_cases h0:cntT (T ty)=0
  ·obtain ⟨hz,hk⟩:=plain_bare h.ok.ty hs h0;have h1:=hok.1;rw [hz] at h1 hsn hok;have h2:=(hok.2 0 (by omega)).1
   have e0:ix (ws.take (1:Int).toNat) 0=ix ws 0:=vix_take (by decide)
   have hR:textV T (q+1) ty (ws.take (T ty).size.toNat)=leafB (T ty) (ix ws 0):=by
    rw [hz,← e0];exact if_pos h0
   rw [e0] at h2;unfold QTx;rw [hR,hz];have hon:=fun w' (hb:Below w.heap.size w w')=>qone_any p T ord ty (ix ws 0) w' (h.on hb) (hPw.step hb) h2
   obtain ⟨b,off,rfl,hbb,hcc⟩:=hr.ints (by omega)
   have x0:=hcc 0 (by omega)
   simp only [Nat.add_zero] at x0;have hl:=fun w' (hb:Below w.heap.size w w')=>(hb.cell (p:=⟨b,off,none⟩) hbb).trans x0
   have hi0:(0:Int)<(n:Nat):=by omega
   rw [h0] at hcn;unfold StrV at hon;generalize leafB (T ty) (ix ws 0)=tx at *;generalize ix ws 0=x at *;have hc0:=hcn w (Below.refl _ _);clear h0 hz hk hok hs hq hR hcc ih hr h hPw hcn;go_enter Tryz.func37,Tryz.ntmps37;go_wp2_with fail;refine hc0.mono ?_;rintro e w1 ⟨rfl,hb1⟩;have y0:=hl w1 hb1;have h1:=hon w1 hb1;clear x0 hc0;go_wp2_with fail;refine h1.mono ?_;rintro e w2 ⟨rfl,hb2⟩;go_wp2_with fail;go_ret2
   exact ⟨rfl,below_cut hb1 hb2 (Nat.le_refl _)⟩
  ·have hP:=parts_ok h.ok.ty hs h0;have hcb:=cnt_bd h.ok.ty ty;obtain ⟨m,hm⟩:∃ m:Nat,m=(cntT (T ty)).toNat:=⟨_,rfl⟩;rw [← hm] at hP;have hm0:0<m:=by omega
   have hm64:m≤65535:=by omega
   have hcm:cntT (T ty)=(m:Int):=hP.cnt;rw [hcm] at hcn;obtain ⟨z,hz⟩:∃ z:Nat,(T ty).size=(z:Int):=⟨(T ty).size.toNat,by omega⟩
   have hzt:(T ty).size.toNat=z:=by omega
   rw [hzt] at hok;obtain ⟨vs,hvs⟩:∃ vs,vs=ws.take z:=⟨_,rfl⟩;rw [← hvs] at hok;obtain ⟨f,hf⟩:∃ f:Nat→List UInt8,f=fun j=>textV T q (partN (T ty) j) (cutV T (T ty) j vs):=⟨_,rfl⟩
   have hR:textV T (q+1) ty vs=segQ f m++[125]:=by
    rw [show textV T (q+1) ty vs=[123]++Lib.join ((List.range m).map f) [44,32]++[125] by rw [hf,hm];exact if_neg h0,seg_join f m hm0]
    unfold segQ;rw [if_neg (by omega)]
   have h96:=(h.ok.ty.size ty).2.2;have hcut:=fun k (hk:k<m)=>okV_cut h.ok.ty hP hq h0 hok hk
   have hst:=fun k (hk:k<m)=>hP.step h.ok.ty hk
   have hfk:∀ k,k<m→(f k).length≤400000:=fun k hk=>by
    rw [hf];exact text_few h.ok.ty (by omega) (hP.plain k hk) (by have:=hP.low k hk;omega) (hcut k hk)
   have hseg:∀ k,k≤m→(segQ f k).length≤1+k*400002:=fun k=>by
    induction k with
    | zero=>intro _;unfold segQ;simp
    | succ k ih =>
     intro hk;rw [segQ_step];have:=hfk k (by omega)
     have:=ih (by omega)
     split <;> simp only [List.length_append,List.length_cons,List.length_nil] <;> omega
   have hcv:∀ k,k<m→cutV T (T ty) k vs=((ws.drop (sumP T (T ty) k).toNat).take (T (partN (T ty) k)).size.toNat):=fun k hk=>by
    have h1:=hst k hk;have h2:=hP.plain k hk;unfold cutV;rw [hvs,List.drop_take,List.take_take,Nat.min_eq_left (by omega)]
   have hvz:(ws.take (T ty).size.toNat)=vs:=by rw [hzt,hvs]
   have hwhole:=hP.whole;unfold QTx;rw [hvz,hR,hz];obtain ⟨b,off,rfl,hbb,hcc⟩:=hr.ints (by omega)
   have HH:=Lib.hid h;have HPW:=Lib.hid hPw;have HP:=Lib.hid hP;have IH:=Lib.hid ih;have HCUT:=Lib.hid hcut;have HST:=Lib.hid hst;have HF:=Lib.hid hf;have HC:=Lib.hid hcc;have HQ:=Lib.hid hq;have HSEG:=Lib.hid hseg;have HFK:=Lib.hid hfk;have HCV:=Lib.hid hcv;have HW:=Lib.hid (show sumP T (T ty) m=(z:Int) by rw [← hz,hwhole])
   clear hs hq hok hR hcb hcm hm hP ih hcut hst hf hcc hr h hPw hseg hfk hcv hwhole hvz hzt hz h0 hvs;go_enter Tryz.func37,Tryz.ntmps37;have hc0:=hcn w (Below.refl _ _);have dm:((m:Nat):Int)≠0:=by omega
   have dm2:(((m:Nat):Int)==0)=false:=by simpa using dm
   go_wp2_with fail;refine hc0.mono ?_;rintro e w1 ⟨rfl,hb1⟩;have hc1:=hcn w1 hb1;clear hc0 hcn;go_wp2_with fail;refine hc1.mono ?_;rintro e w2 ⟨rfl,hb2⟩;have hb3:=below_cut hb1 hb2 (Nat.le_refl _);clear hc1;go_wp2_with fail;obtain ⟨S,hS⟩:∃ S:Nat→ByteArray,S=fun k=>bs (segQ f k):=⟨_,rfl⟩
   have HS:=Lib.hid hS;have HS0:Hid (S 0=⟨#[123]⟩):=Lib.hid (by rw [hS];rfl)
   have HSL:Hid (∀ k,k≤m→(S k).size≤1+k*400002):=Lib.hid (fun k hk=>by rw [hS];show (bs (segQ f k)).size≤_;rw [bs_siz];exact HSEG.out k hk)
   have HSS:Hid (∀ k,S (k+1)=(if k=0 then S k else S k++⟨#[44,32]⟩)++bs (f k)):=Lib.hid (fun k=>by
    rw [hS]
    show bs (segQ f (k+1))=(if k=0 then bs (segQ f k) else bs (segQ f k)++⟨#[44,32]⟩)++bs (f k)
    rw [segQ_step]
    split
    ·apply ByteArray.ext
     simp [bs]
    ·apply ByteArray.ext
     simp [bs])
   have HSE:Hid (bs (segQ f m++[125])=S m++⟨#[125]⟩):=Lib.hid (by
    rw [hS];apply ByteArray.ext
    simp [bs])
   have HFS:Hid (∀ k,k<m→(bs (f k)).size≤400000):=Lib.hid (fun k hk=>by rw [bs_siz];exact HFK.out k hk)
   have HFB:Hid (∀ k,bs (f k)=bs (textV T q (partN (T ty) k) (cutV T (T ty) k vs))):=Lib.hid (fun k=>by rw [HF.out])
   clear hS;go_loopg [8,9,11,12,13,14,15] m (fun r u8 u9 i u12 u13 u14 u15 wr=>∃ k:Nat,k+r=m∧u8=.string (S k)∧u9=.int .i64 (sumP T (T ty) k)∧i=.int .i64 (k:Nat)∧Below w.heap.size w wr)
   case atStart=>exact ⟨0,by omega,by rw [HS0.out],rfl,rfl,hb3⟩
   case round =>
    obtain ⟨k,hkr,rfl,rfl,rfl,hbr⟩:=hrel
    by_cases hlt:k<m
    ·have d1:decide (((k:Nat):Int)<(m:Nat))=true:=by rw [decide_eq_true_eq];omega
     have hpt:=fun w' (hb:Below w.heap.size w w')=>(HH.out.on hb).part_ ty (k:Nat)
     have hpn:(partT (T ty) (k:Nat)).1=partN (T ty) k:=rfl;rw [hpn] at hpt;have hst:=HST.out k hlt;have hpl:=HP.out.plain k hlt;have hlow:=HP.out.low k hlt;obtain ⟨o,ho1⟩:∃ o:Nat,sumP T (T ty) k=(o:Int):=⟨(sumP T (T ty) k).toNat,by omega⟩
     obtain ⟨z1,hz1⟩:∃ z1:Nat,(T (partN (T ty) k)).size=(z1:Int):=⟨(T (partN (T ty) k)).size.toNat,by omega⟩
     have hcv:=HCV.out k hlt;have hck:=HCUT.out k hlt;rw [ho1,hz1] at hcv;rw [hcv] at hck;have hozn:o+z1≤n:=by omega
     have hz11:1≤z1:=by omega
     have hcp:¬ c=o:=by omega
     have hpc:o≤n:=by omega
     have hpc2:o≤c:=by omega
     have wS:IntKind.i64.wrap (((o:Nat):Int)+(z1:Nat))=(o:Nat)+(z1:Nat):=IntWalk.i64_in _ (by omega)
     have hdl:(ws.drop o).length=n-o:=by rw [List.length_drop,hlen]
     have htk:((ws.drop o).take (n-o))=ws.drop o:=List.take_of_length_le (by omega)
     have htx:=fun w' (hb:Below w.heap.size w w') c' (hc':n-o≤c')=>IH.out (partN (T ty) k) (some ⟨b,off+o,none⟩) (n-o) c' (ws.drop o) w' (HH.out.on hb) (HPW.out.step hb) hpl (by have:=HQ.out;omega) (by
      have h9:=reads_mid (w:=w') (B:=w'.heap.size) (p:=o) (m:=n-o) (n:=n) (l:=ws) (fun j hj=>(hb.cell (p:=⟨b,off+j,none⟩) hbb).trans (HC.out j hj)) (Nat.lt_of_lt_of_le hbb hb.size) hlen (by omega)
      rwa [htk] at h9) hc' (by omega) (by rw [hz1];omega) (by rw [hz1];exact hck)
     unfold QTx at htx;rw [hz1,show ((z1:Nat):Int).toNat=z1 from rfl] at htx
     have hfb:bs (f k)=bs (textV T q (partN (T ty) k) ((ws.drop o).take z1)):=by rw [HFB.out,hcv];rfl
     rw [← hfb] at htx;have hfs:=HFS.out k hlt;have hsl:=HSL.out k (by omega)
     have HSK:Hid (S (k+1)=(if k=0 then S k else S k++⟨#[44,32]⟩)++bs (f k)):=Lib.hid (HSS.out k)
     have HSUM:Hid (sumP T (T ty) (k+1)=(o:Int)+(z1:Nat)):=Lib.hid (by rw [hst.2.1,ho1,hz1])
     generalize bs (f k)=fb at *;generalize hSk:S k=sk at *;clear hSk hst hpl hlow hz1 hcv hck hfb hpn htk hdl;generalize partN (T ty) k=pn at *
     by_cases hk0:k=0
     ·have d2:decide (((k:Nat):Int)>0)=false:=by rw [decide_eq_false_iff_not];omega
      have hk1:¬ 0<k:=by omega
      have HSK2:Hid (S (k+1)=sk++fb):=Lib.hid (by rw [HSK.out,if_pos hk0])
      have hs1:¬ 9223372036854775807<sk.size+fb.size:=by omega
      clear hk0;go_wp2_with fail;refine (hpt wr hbr).mono ?_;rintro e w4 ⟨rfl,hb6⟩;have hb7:=below_cut hbr hb6 (Nat.le_refl _);have htx2:=htx w4 hb7;clear hpt htx;go_wp2_with fail;refine (htx2 (c-o) (by omega)).mono ?_
      rintro e w5 ⟨rfl,hb8⟩;have hb9:=below_cut hb7 hb8 (Nat.le_refl _);clear htx2;go_wp2_with fail;go_roundg (m-(k+1))
      case measure=>omega
      case rel=>exact ⟨k+1,by omega,by rw [HSK2.out],by rw [HSUM.out],by go_num,hb9⟩
     ·have d2:decide (((k:Nat):Int)>0)=true:=by rw [decide_eq_true_eq];omega
      have hk1:0<k:=by omega
      have HSK2:Hid (S (k+1)=sk++⟨#[44,32]⟩++fb):=Lib.hid (by rw [HSK.out,if_neg hk0])
      have hs0:¬ 9223372036854775807<sk.size+2:=by omega
      have hs1:¬ 9223372036854775807<sk.size+2+fb.size:=by omega
      clear hk0;go_wp2_with fail;refine (hpt wr hbr).mono ?_;rintro e w4 ⟨rfl,hb6⟩;have hb7:=below_cut hbr hb6 (Nat.le_refl _);have htx2:=htx w4 hb7;clear hpt htx;go_wp2_with fail;refine (htx2 (c-o) (by omega)).mono ?_
      rintro e w5 ⟨rfl,hb8⟩;have hb9:=below_cut hb7 hb8 (Nat.le_refl _);clear htx2;go_wp2_with fail;go_roundg (m-(k+1))
      case measure=>omega
      case rel=>exact ⟨k+1,by omega,by rw [HSK2.out],by rw [HSUM.out],by go_num,hb9⟩
    ·obtain rfl:k=m:=by omega
     have d1:decide (((k:Nat):Int)<(k:Nat))=false:=by rw [decide_eq_false_iff_not];omega
     have hsl:=HSL.out k (Nat.le_refl _);have hs1:¬ 9223372036854775807<(S k).size+1:=by omega
     go_wp2_with fail;go_ret2
     exact ⟨by rw [HSE.out,← HW.out];rfl,hbr⟩
end
end Go.Proofs.YtkfjjkibbjlldaaGreatDoor
