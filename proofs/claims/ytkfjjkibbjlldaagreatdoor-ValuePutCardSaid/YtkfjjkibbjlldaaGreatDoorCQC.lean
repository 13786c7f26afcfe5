/- Walks: the program's Fits, Get, Put, Text, Zero, of a table or of none, in the words of the document's answer. -/
import Derived.Test.YtkfjjkibbjlldaaGreatDoorCQB
import Derived.Test.YtkfjjkibbjlldaaGreatDoorCVH
import Derived.Test.YtkfjjkibbjlldaaGreatDoorCUA
import Derived.Test.YtkfjjkibbjlldaaGreatDoorCUE
set_option maxRecDepth 100000
set_option maxHeartbeats 4000000
namespace Go.Proofs.YtkfjjkibbjlldaaGreatDoor
section
open Go.RowKit
def VTab (w:World) (p:Option Addr) (T:Int→TyI) (S:Int→SlI):Prop:=(p=none∧∀ id,T id=ty0)∨∃ g,p=some ⟨g,0,none⟩∧RdOk w g T S
theorem VTab.on {w w':World} {p:Option Addr} {T:Int→TyI} {S:Int→SlI} (h:VTab w p T S) (hb:Below w.heap.size w w'):VTab w' p T S:=by
 rcases h with h | ⟨g,h1,h2⟩
 ·exact .inl h
 ·exact .inr ⟨g,h1,h2.on hb⟩
theorem ty0_fits {T:Int→TyI} (h:∀ id,T id=ty0) (ty:Int) (ws:List Int):fitsV T ty ws=false:=fitsV_plain (by rw [h];decide)
theorem vfits_q (p:Option Addr) (T:Int→TyI) (S:Int→SlI) (ty:Int) (A:Option Addr) (n c:Nat) (ws:List Int) (w:World) (h:VTab w p T S) (hr:Reads w w.heap.size 1 A n (Ints .u32 ws)) :
  Calls Tryz.prog 10 #[.pointer p,.int .u32 ty,.slice A n c] w (BoolIs (fitsV T ty ws) w):=by
 rcases h with ⟨rfl,h0⟩ | ⟨g,rfl,hO⟩
 ·rw [ty0_fits h0];exact fits_out none ty 1 A n c w (ask_nil ty w) (by decide)
 ·exact fits_all g T S hO.ty ty A n c ws w hO.tab hr
theorem vget_q (p:Option Addr) (T:Int→TyI) (S:Int→SlI) (ty:Int) (A:Option Addr) (n c:Nat) (ws:List Int) (A2:Option Addr) (n2 c2:Nat) (l:List Int) (w:World) (h:VTab w p T S)
  (hr:Reads w w.heap.size 1 A n (Ints .u32 ws)) (hr2:Reads w w.heap.size 1 A2 n2 (Ints .u32 l)) (hnc:n≤c) (hn2:n2≤4611686018427387904) (hl:U32 l) :
  Calls Tryz.prog 21 #[.pointer p,.int .u32 ty,.slice A n c,.slice A2 n2 c2] w (GenIs (getQ p T ty ws l) w):=by
 rcases h with ⟨rfl,h0⟩ | ⟨g,rfl,hO⟩
 ·rw [show getQ none T ty ws l=(0,[],1) from if_pos rfl]
  refine (get_out none ty 1 A n c _ w (given_out none ty 1 _ _ _ w (ask_nil ty w) (by decide)) (by decide)).mono ?_
  rintro e w' ⟨rfl,hb⟩;exact ⟨none,0,rfl,World.ownsRow_nil _ _ _ _,hb⟩
 ·rw [show getQ (some ⟨g,0,none⟩) T ty ws l=getV T ty ws l from if_neg (by intro h;cases h)]
  exact get_gen g T S hO.ty ty A n c ws A2 n2 c2 l w hO.tab hr hr2 hnc hn2 hl
theorem vput_q (p:Option Addr) (T:Int→TyI) (S:Int→SlI) (ty:Int) (A:Option Addr) (n c:Nat) (ws:List Int) (A2:Option Addr) (n2 c2:Nat) (l:List Int) (A3:Option Addr) (n3 c3:Nat) (part:List Int) (w:World) (h:VTab w p T S)
  (hr:Reads w w.heap.size 1 A n (Ints .u32 ws)) (hr2:Reads w w.heap.size 1 A2 n2 (Ints .u32 l)) (hr3:Reads w w.heap.size 1 A3 n3 (Ints .u32 part)) (hn2:n2≤4611686018427387904) (hl:U32 l) :
  Calls Tryz.prog 24 #[.pointer p,.int .u32 ty,.slice A n c,.slice A2 n2 c2,.slice A3 n3 c3] w (PutIs (putQ p T ty ws l part) w):=by
 rcases h with ⟨rfl,h0⟩ | ⟨g,rfl,hO⟩
 ·rw [show putQ none T ty ws l part=([],1) from if_pos rfl]
  refine (put_out none ty 1 A n c _ _ w (given_out none ty 1 _ _ _ w (ask_nil ty w) (by decide)) (by decide)).mono ?_
  rintro e w' ⟨rfl,hb⟩;exact ⟨none,0,Nat.le_refl _,rfl,World.ownsRow_nil _ _ _ _,hb⟩
 ·rw [show putQ (some ⟨g,0,none⟩) T ty ws l part=putG T ty ws l part from if_neg (by intro h;cases h)]
  exact put_gen g T S hO.ty ty A n c ws A2 n2 c2 l A3 n3 c3 part w hO.tab hr hr2 hr3 hn2 hl
noncomputable def textQ (p:Option Addr) (T:Int→TyI) (ty:Int) (ws:List Int):ByteArray × Int:=if asE p T ty ws=0 then (bs (textV T 19 ty ws),0) else (⟨#[]⟩,asE p T ty ws)
theorem vtext_q (p:Option Addr) (T:Int→TyI) (S:Int→SlI) (ty:Int) (A:Option Addr) (n c:Nat) (ws:List Int) (w:World) (h:VTab w p T S) (hr:Reads w w.heap.size 1 A n (Ints .u32 ws)) (hnc:n≤c) (hu:U32 ws) :
  Calls Tryz.prog 15 #[.pointer p,.int .u32 ty,.slice A n c] w fun e w'=>e=.returned (.tuple #[.string (textQ p T ty ws).1,.int .i64 (textQ p T ty ws).2])∧Below w.heap.size w w':=by
 rcases h with ⟨rfl,h0⟩ | ⟨g,rfl,hO⟩
 ·rw [show textQ none T ty ws=(⟨#[]⟩,1) by unfold textQ;rw [show asE none T ty ws=1 from if_pos rfl];rfl]
  exact text_out none ty 1 A n c w (given_out none ty 1 _ _ _ w (ask_nil ty w) (by decide)) (by decide)
 ·have e1:asE (some ⟨g,0,none⟩) T ty ws=gvE T ty ws:=if_neg (by intro h;cases h)
  refine (text_all g T S ty A n c ws w hO hr hnc hu.at).mono ?_;rintro e w' ⟨hb,⟨h1,rfl⟩ | ⟨h1,rfl⟩⟩
  ·rw [show textQ (some ⟨g,0,none⟩) T ty ws=(bs (textV T 19 ty ws),0) by unfold textQ;rw [e1,if_pos h1]]
   exact ⟨rfl,hb⟩
  ·rw [show textQ (some ⟨g,0,none⟩) T ty ws=(⟨#[]⟩,gvE T ty ws) by unfold textQ;rw [e1,if_neg h1]]
   exact ⟨rfl,hb⟩
theorem qtxt_any (p:Option Addr) (T:Int→TyI) (ord:List Int) (ty:Int) (A:Option Addr) (n c:Nat) (ws:List Int) (w:World) (h:QTab w p T ord) (hP:Pow w) (hr:Reads w w.heap.size 1 A n (Ints .u32 ws)) (hnc:n≤c) (hu:U32 ws) :
  Calls Tryz.prog 14 #[.pointer p,.int .u32 ty,.slice A n c] w fun e w'=>e=.returned (.tuple #[.string (textQ p T ty ws).1,.int .i64 (textQ p T ty ws).2])∧Below w.heap.size w w':=by
 have hlen:=hr.len;have hak:=qasked_any p T ord ty A n c ws w h hr
 by_cases h0:asE p T ty ws=0
 ·have hp:p≠none:=fun e=>by rw [e] at h0;unfold asE at h0;rw [if_pos rfl] at h0;exact absurd h0 (by decide)
  have hg:gvE T ty ws=0:=by unfold asE at h0;rwa [if_neg hp] at h0
  obtain ⟨hs,hok⟩:=gv_ok hu hg;have hws:=hok.1;have hn4:=(h.ok.ty.size ty).2.2;have htk:ws.take (T ty).size.toNat=ws:=List.take_of_length_le (by omega)
  have htx:=fun w' (hb:Below w.heap.size w w')=>qtext_in p T ord 19 (Nat.le_refl _) ty A n c ws w' (h.on hb) (hP.step hb) hs (rank19 h.ok.ty ty) (rd_on hr hb) hnc (by omega) (by omega) (by rw [htk];exact hok)
  unfold QTx at htx;rw [htk] at htx;rw [show textQ p T ty ws=(bs (textV T 19 ty ws),0) by unfold textQ;rw [if_pos h0]]
  rw [h0] at hak;generalize bs (textV T 19 ty ws)=tx at *;clear h0 hp hg hs hok hws htk h hr hP;go_enter Tryz.func14,Tryz.ntmps14;go_wp2_with fail;refine hak.mono ?_;rintro e w1 ⟨rfl,hb1⟩;have h1:=htx w1 hb1;clear hak htx;go_wp2_with fail;refine h1.mono ?_;rintro e w2 ⟨rfl,hb2⟩;go_wp2_with fail;go_ret2
  exact ⟨rfl,below_cut hb1 hb2 (Nat.le_refl _)⟩
 ·rw [show textQ p T ty ws=(⟨#[]⟩,asE p T ty ws) by unfold textQ;rw [if_neg h0]]
  have d0:(asE p T ty ws != 0)=true:=by simpa using h0
  generalize asE p T ty ws=E at *;clear h hr hP h0;go_enter Tryz.func14,Tryz.ntmps14;go_wp2_with fail;refine hak.mono ?_;rintro e w1 ⟨rfl,hb1⟩;clear hak;go_wp2_with fail;go_ret2
  exact ⟨rfl,hb1⟩
end
section
open Go.RowKit
def BothIs (w:World) (e:Ending) (w':World):Prop :=
 Below w.heap.size w w'∧∃ p q T S ord,e=.returned (.tuple #[.pointer p,.pointer q,.bool true])∧VTab w' p T S∧QTab w' q T ord∧(p=none ↔ q=none)
theorem both_any (gen bound:Int) (A:Option Addr) (n c:Nat) (ls:List InstA) (w:World) (hM:ModS w w.heap.size A n ls) (hn:n≤3600000000000) (hP:Pow w) (hE:Errs w)
  (hN:∀ x∈ls,(∀ a∈x.1.2.2.2,0≤a.2.1∧a.2.1<4294967296)∧(0≤x.1.1∧x.1.1<65536)) :
  Calls Tryz.prog 8 #[.agg (modC gen bound A n c)] w (BothIs w):=by
 have hb1:=(Below.refl w.heap.size w).alloc (Nat.le_refl _) (.cells (modC gen bound A n c) 25);have k1:=Blk.new w 25 (modC gen bound A n c);have hcp:=copyModule_any gen bound A n c ls _ (hM.step hb1) hn;have hrn:=fun w' (hb:Below w.heap.size w w')=>rnew_any gen bound ls A n c w' (hM.step hb) (fun x hx=>(hN x hx).1) (fun x hx=>(hN x hx).2)
 have hLn:(ls.map (·.1)).length≤7100000000000:=by rw [hM.length];exact hM.len
 obtain ⟨L,hL⟩:∃ L,L=ls.map (·.1):=⟨_,rfl⟩;obtain ⟨hu,hop⟩:=use_ hL hN;rw [← hL] at hcp hrn hLn;have hTO:=tabs_ok bound L hLn;clear hL hM hN;unfold modC at *;obtain ⟨z0,z1,z2⟩:=three_ k1;go_enter Tryz.func8,Tryz.ntmps8;go_wp2_with fail;refine hcp.mono ?_;rintro e w2 ⟨A',c',ls',rfl,hM',hL',hb2⟩;have hb3:=below_cut hb1 hb2 (Nat.le_refl _);have hnw:=new_copied (gen:=gen) (bound:=bound) (c:=c') hM' hL' (hP.step hb3) hu hop;have k2:=k1.step hb2;clear hcp hM' hL' hu hop z0 z1 z2 k1;unfold modC at hnw;go_wp2_with fail;refine hnw.mono ?_;rintro e w3 hR;obtain ⟨hb4,p,S,rfl,hTW,-,hpn⟩:=newG_u hR;have hb5:=below_cut hb3 hb4 (Nat.le_refl _);generalize ha:(newM bound L).1=a at *;generalize hbb:(newM bound L).2.1=b at *;have hbs:=(Below.refl w3.heap.size w3).alloc (Nat.le_refl _) (.cells #[.int .i64 a,.int .i64 b] 58);have hb6:=below_cut hb5 hbs (Nat.le_refl _);have kS:=Blk.new w3 58 #[.int .i64 a,.int .i64 b];have hTW4:=hTW.step hbs;have k4:=(k2.step hb4).step hbs;have hr4:=hrn _ hb6;clear hnw hR hrn hTW hbs hb4 k2;obtain ⟨z0,z1,z2⟩:=three_ k4;go_wp2_with fail;generalize (w3.alloc (.cells #[.int .i64 a,.int .i64 b] 58))=W4 at *;generalize w3.heap.size=gs at *;refine hr4.mono ?_;rintro e w5 hR;obtain ⟨hb7,q,rfl,hRT,hqn⟩:=rnewG_u hR;rw [ha,hbb] at *;have hb8:=below_cut hb6 hb7 (Nat.le_refl _);have hbs:=(Below.refl w5.heap.size w5).alloc (Nat.le_refl _) (.cells #[.int .i64 a,.int .i64 b] 58);have hb9:=below_cut hb8 hbs (Nat.le_refl _);have kS2:=Blk.new w5 58 #[.int .i64 a,.int .i64 b];have kS1:=(kS.step hb7).step hbs;have hTW9:=(hTW4.step hb7).step hbs;have hRT9:=hRT.step hbs;clear hr4 hR hTW4 hRT kS k4 hbs z0 z1 z2;generalize tT (newM bound L)=T at *;generalize tO (newM bound L)=ord at *;clear ha hbb;obtain ⟨s0,s1⟩:=two_ kS1;obtain ⟨q0,q1⟩:=two_ kS2;have hse:=spot_eq a b;have hsg:=spot_guard;have HTO:=Lib.hid hTO;have HTW:=Lib.hid hTW9;have HRT:=Lib.hid hRT9;have HPE:=Lib.hid (And.intro (hP.step hb9) (hE.step hb9));clear hTO hTW9 hRT9
 rcases hpn with ⟨rfl,hpa⟩ | ⟨gp,rfl,rfl⟩
 ·rcases hqn with ⟨rfl,-⟩ | ⟨gq,rfl,h0⟩
  ·go_wp2_with fail;go_ret3
   refine ⟨hb9,none,none,T,S,ord,rfl,.inl ⟨rfl,?_⟩,⟨HTO.out,HRT.out⟩,Iff.rfl⟩;exact (QTab.mk HTO.out HRT.out).none_
  ·exact absurd h0 hpa
 ·rcases hqn with ⟨rfl,h0⟩ | ⟨gq,rfl,-⟩
  ·exact absurd rfl h0
  ·go_wp2_with fail;go_ret3
   exact ⟨hb9,some ⟨gp,0,none⟩,some ⟨gq,0,none⟩,T,S,ord,rfl,.inr ⟨gp,rfl,⟨HTO.out.ty,HTW.out,HPE.out.1,HPE.out.2⟩⟩,⟨HTO.out,HRT.out⟩,by constructor <;> intro h <;> cases h⟩
end
section
open Go.RowKit
section
variable {p q:Option Addr} {T:Int→TyI} {ty:Int} {ws l part:List Int}
theorem asE_eq (h:p=none ↔ q=none):asE p T ty ws=asE q T ty ws:=by
 unfold asE
 by_cases hp:p=none
 ·rw [if_pos hp,if_pos (h.1 hp)]
 ·rw [if_neg hp,if_neg (fun e=>hp (h.2 e))]
theorem getQ_eq (h:p=none ↔ q=none):getQ p T ty ws l=getQ q T ty ws l:=by
 unfold getQ
 by_cases hp:p=none
 ·rw [if_pos hp,if_pos (h.1 hp)]
 ·rw [if_neg hp,if_neg (fun e=>hp (h.2 e))]
theorem putQ_eq (h:p=none ↔ q=none):putQ p T ty ws l part=putQ q T ty ws l part:=by
 unfold putQ
 by_cases hp:p=none
 ·rw [if_pos hp,if_pos (h.1 hp)]
 ·rw [if_neg hp,if_neg (fun e=>hp (h.2 e))]
theorem textQ_eq (h:p=none ↔ q=none):textQ p T ty ws=textQ q T ty ws:=by
 unfold textQ;rw [asE_eq h]
end
theorem getQ_few {p:Option Addr} {T:Int→TyI} (hT:Typed T) {ty:Int} {ws l:List Int} (hu:U32 ws) (hl:U32 l):(getQ p T ty ws l).2.1.length≤4096:=by
 unfold getQ
 split
 ·exact Nat.zero_le _
 ·generalize h:getV T ty ws l=V;obtain ⟨a,old,e⟩:=V
  by_cases he:e=0
  ·subst he;exact ((get_ok hT hu hl h).few hT).2.1
  ·rw [(get_err h he).2];exact Nat.zero_le _
theorem putQ_few {p:Option Addr} {T:Int→TyI} {ty:Int} {ws l part:List Int} (hT:Typed T) (hu:U32 ws) (hl:U32 l) (hp:U32 part):(putQ p T ty ws l part).1.length≤4096:=by
 by_cases h0:asE p T ty ws=0
 ·rw [putQ_ok h0]
  split
  ·exact Nat.zero_le _
  ·rename_i h1
   split
   ·rename_i h2
    have hpn:p≠none:=fun e=>by rw [e] at h0;unfold asE at h0;rw [if_pos rfl] at h0;exact absurd h0 (by decide)
    have hg:gvE T ty ws=0:=by unfold asE at h0;rwa [if_neg hpn] at h0
    obtain ⟨hs,hok⟩:=gv_ok hu hg;obtain ⟨a1,a2,a3,-⟩:=wk_at hT l ty (fun k hk=>(hl k hk).1) hs h1
    have h3:=((fitsV_ok hp.at).1 h2).2.1;have h4:=hok.1;have h5:=(hT.size ty).2.2
    show (putV ws (wkW T 0 ty l).1 part).length≤4096
    rw [put_len a2 (by omega)]
    omega
   ·exact Nat.zero_le _
 ·rw [putQ_err h0];exact Nat.zero_le _
theorem own_kept {w w':World} {N base n size:Nat} {e:TypeId} {v:Value} {xs:List Value} (h:w.ownsRow base e size v n xs) (hN:N≤base) (hk:Kept N w w'):w'.ownsRow base e size v n xs:=by
 refine ⟨h.1,?_⟩
 rcases h.2 with h1 | ⟨g,cap,cur,hv,hbg,hg,hr⟩
 ·exact .inl h1
 ·exact .inr ⟨g,cap,cur,hv,hbg,(hk.same g (by omega) (Array.getElem?_eq_some_iff.1 hg).1).trans hg,hr⟩
theorem spoil_q (B N:Nat) (A:Option Addr) (n c:Nat) (l:List Int) (w:World) (hn:n≤35184372087808) (ho:w.ownsRow B 22 1 (.slice A n c) n (Ints .u32 l)) (hN:∀ g,(Value.slice A n c).ownBlock=some g→g<N) :
  Calls Tryz.prog 22 #[.slice A n c] w fun e w'=>e=.returned (.tuple #[])∧Below B w w'∧Kept N w w':=by
 go_enter Tryz.func22,Tryz.ntmps22;go_wp2_with fail;go_loopg [2] n (fun q i wr=>∃ (k:Nat) (l':List Int),k+q=n∧i=.int .i64 (k:Nat)∧wr.ownsRow B 22 1 (.slice A n c) n (Ints .u32 l')∧Below B w wr∧Kept N w wr)
 case atStart=>exact ⟨0,l,by omega,rfl,ho,Below.refl _ _,Kept.refl _ _⟩
 case round =>
  obtain ⟨k,l',hq,rfl,hor,hbr,hkr⟩:=hrel;clear ho
  by_cases hlt:k<n
  ·obtain ⟨g,rfl⟩:∃ g,A=some ⟨g,0,none⟩:=by
    rcases hor.2 with ⟨_,h9⟩ | ⟨g,cap,cur,h9,_⟩
    ·omega
    ·cases h9;exact ⟨g,rfl⟩
   have hc1:=own_int_at hor hlt;have hf1:=hor.frozenAt k;have hg:=(hor.lt g (by simp [Value.ownBlock])).1
   have hs:=own_int_set hor k (1515870810:Int);have hb2:=hbr.setCell (p:=⟨g,k,none⟩) hg (.int .u32 1515870810);have hk2:=hkr.setCell (p:=⟨g,k,none⟩) (hN g (by simp [Value.ownBlock])) (.int .u32 1515870810)
   have d1:decide (((k:Nat):Int)<(n:Nat))=true:=by rw [decide_eq_true_eq];omega
   have hi1:((k:Nat):Int)<(n:Nat):=by omega
   clear hor;go_wp2_with fail;go_roundg (n-(k+1))
   case measure=>omega
   case rel=>exact ⟨k+1,_,by omega,by go_num,hs,hb2,hk2⟩
  ·have d1:decide (((k:Nat):Int)<(n:Nat))=false:=by rw [decide_eq_false_iff_not];omega
   go_wp2_with fail;go_end0
   exact ⟨rfl,hbr,hkr⟩
end
end Go.Proofs.YtkfjjkibbjlldaaGreatDoor
