/- Plain: who makes an id, what is wrong with the ids at a place, told by the document. -/
import Derived.Test.YteelmakkogdieaaGreatDoorCRC
import Derived.Test.YteelmakkogdieaaGreatDoorCTI
import Derived.Test.YteelmakkogdieaaGreatDoorCRD
set_option maxRecDepth 100000
set_option maxHeartbeats 4000000
namespace Go.Proofs.YteelmakkogdieaaGreatDoor
section
def resD (l:List InstI) (k:Nat):Int:=match l[k]? with
 | none=>0
 | some i=>i.2.2.1
def hitD (l:List InstI) (id:Int) (k:Nat):Bool:=decide (resD l k=id)&&decide (id≠0)
def makD (l:List InstI) (id:Int) (tb:Nat):Int:=match madeR l 0 id with
 | none=>-1
 | some m=>if m<tb then (m:Int) else -1
theorem madeR_first:∀ {l:List InstI} {k0 k:Nat} {id:Int},k<l.length→hitD l id k=true→(∀ j,j<k→hitD l id j=false)→madeR l k0 id=some (k0+k)
 | [],_,_,_,h,_,_=>absurd h (Nat.not_lt_zero _)
 | i :: r,k0,0,id,_,h,_=>by
  unfold hitD at h;rw [Bool.and_eq_true,decide_eq_true_eq,decide_eq_true_eq] at h;unfold madeR;rw [if_pos ⟨fun e=>h.2 (by rw [← h.1];exact e),h.1⟩]
  rfl
 | i :: r,k0,k+1,id,hk,h,hb=>by
  have h0:=hb 0 (Nat.succ_pos _);unfold madeR;rw [if_neg (fun hc=>by
   have:hitD (i :: r) id 0=true:=by unfold hitD;rw [Bool.and_eq_true,decide_eq_true_eq,decide_eq_true_eq];exact ⟨hc.2,fun e=>hc.1 (hc.2.trans e)⟩
   rw [h0] at this;cases this)]
  rw [madeR_first (l:=r) (k0:=k0+1) (k:=k) (by simpa using hk) h (fun j hj=>hb (j+1) (by omega))]
  congr 1
  omega
theorem madeR_hit:∀ {l:List InstI} {k0 m:Nat} {id:Int},madeR l k0 id=some m→∃ k,m=k0+k∧k<l.length∧hitD l id k=true
 | [],_,_,_,h=>by cases h
 | i :: r,k0,m,id,h=>by
  unfold madeR at h
  split at h
  ·rename_i hc
   cases h
   refine ⟨0,rfl,Nat.succ_pos _,?_⟩;unfold hitD;rw [Bool.and_eq_true,decide_eq_true_eq,decide_eq_true_eq];exact ⟨hc.2,fun e=>hc.1 (hc.2.trans e)⟩
  ·obtain ⟨k,h1,h2,h3⟩:=madeR_hit h;exact ⟨k+1,by omega,by simpa using h2,h3⟩
theorem makD_at {l:List InstI} {id:Int} {k tb:Nat} (hk:k<tb) (hl:tb≤l.length) (h:hitD l id k=true) (hb:∀ j,j<k→hitD l id j=false):makD l id tb=(k:Int):=by
 unfold makD;rw [madeR_first (k0:=0) (by omega) h hb,Nat.zero_add]
 exact if_pos hk
theorem makD_no {l:List InstI} {id:Int} {tb:Nat} (hb:∀ j,j<tb→hitD l id j=false):makD l id tb = -1:=by
 unfold makD;cases hm:madeR l 0 id with
 | none=>rfl
 | some m =>
  obtain ⟨k,h1,-,h3⟩:=madeR_hit hm
  show (if m<tb then (m:Int) else -1) = -1
  rw [if_neg];intro hlt;rw [hb k (by omega)] at h3
  cases h3
def idD (l:List InstI) (k:Nat) (i:InstI):Int :=
 if 0≤makD l i.2.2.1 k then 90
 else if (idsOf i).any (fun id=>decide (makD l id l.length<0)) then 91
 else if decide (partAt l k=7)&&(idsOf i).any (fun id=>decide (makD l id k<0)) then 92 else 0
theorem lost_eq (l:List InstI) (id:Int):decide (makD l id l.length<0)=(madeR l 0 id).isNone:=by
 unfold makD;cases hm:madeR l 0 id with
 | none=>rfl
 | some m =>
  have:=(madeR_bd l 0 id m hm).2
  show decide ((if m<l.length then (m:Int) else -1)<0)=false
  rw [if_pos (by omega),decide_eq_false_iff_not]
  omega
theorem ahead_eq {l:List InstI} {id:Int} {k:Nat} (h:(madeR l 0 id).isNone=false):decide (makD l id k<0)=decide (k≤(madeR l 0 id).getD 0):=by
 unfold makD;cases hm:madeR l 0 id with
 | none=>rw [hm] at h;cases h
 | some m =>
  show decide ((if m<k then (m:Int) else -1)<0)=decide (k≤m)
  by_cases hc:m<k
  ·rw [if_pos hc,decide_eq_false (by omega),decide_eq_false (by omega)]
  ·rw [if_neg hc,decide_eq_true (by omega),decide_eq_true (by omega)]
theorem again_eq {l:List InstI} {k:Nat} {i:InstI} (hi:l[k]?=some i):(0≤makD l i.2.2.1 k) ↔ (i.2.2.1≠0∧(madeR l 0 i.2.2.1).getD 0<k):=by
 unfold makD;cases hm:madeR l 0 i.2.2.1 with
 | none =>
  refine ⟨fun h=>absurd (show (0:Int)≤-1 from h) (by decide),fun h=>?_⟩
  obtain ⟨m,h1,-⟩:=madeR_at l 0 k i hi h.1;rw [hm] at h1;cases h1
 | some m =>
  obtain ⟨j,-,-,h3⟩:=madeR_hit hm;unfold hitD at h3;rw [Bool.and_eq_true,decide_eq_true_eq,decide_eq_true_eq] at h3
  show (0≤if m<k then (m:Int) else -1) ↔ (i.2.2.1≠0∧m<k)
  by_cases hc:m<k
  ·rw [if_pos hc];exact ⟨fun _=>⟨h3.2,hc⟩,fun _=>by omega⟩
  ·rw [if_neg hc];exact ⟨fun h=>absurd h (by decide),fun h=>absurd h.2 hc⟩
theorem idD_eq {l:List InstI} {k:Nat} {i:InstI} {p:Nat→Int} (hi:l[k]?=some i) (hp:partAt l k=7 ↔ p 14≤(k:Int)∧(k:Int)<p 15):idD l k i=idE1 (madeR l 0) p k i:=by
 have h1:(0≤makD l i.2.2.1 k)=(i.2.2.1≠0∧(madeR l 0 i.2.2.1).getD 0<k):=propext (again_eq hi);have h2:(idsOf i).any (fun id=>decide (makD l id l.length<0))=lostB (madeR l 0) (idsOf i):=by
  unfold lostB;congr 1
  funext id
  exact lost_eq l id
 unfold idD idE1;simp only [h1,h2]
 by_cases c1:i.2.2.1≠0∧(madeR l 0 i.2.2.1).getD 0<k
 ·rw [if_pos c1,if_pos c1]
 ·rw [if_neg c1,if_neg c1]
  by_cases c2:lostB (madeR l 0) (idsOf i)=true
  ·rw [if_pos c2,if_pos c2]
  ·rw [if_neg c2,if_neg c2];have h3:(idsOf i).any (fun id=>decide (makD l id k<0))=aheadB (madeR l 0) (idsOf i) k:=by
    unfold aheadB;rw [Bool.eq_iff_iff,List.any_eq_true,List.any_eq_true];unfold lostB at c2;rw [List.any_eq_true] at c2;have hn:∀ id∈idsOf i,(madeR l 0 id).isNone=false:=fun id hid=>by
     rw [Bool.eq_false_iff];exact fun e=>c2 ⟨id,hid,e⟩
    exact ⟨fun ⟨x,hx,e⟩=>⟨x,hx,by rw [← ahead_eq (hn x hx)];exact e⟩,fun ⟨x,hx,e⟩=>⟨x,hx,by rw [ahead_eq (hn x hx)];exact e⟩⟩
   rw [h3];congr 1
   rw [eq_iff_iff,Bool.and_eq_true,decide_eq_true_eq,hp];exact ⟨fun h=>⟨h.2,h.1⟩,fun h=>⟨h.2,h.1⟩⟩
theorem topR_span (l:List InstI):∀ (r p k:Nat) (f:Nat→Int),r+p=8→1≤r→TopI l p k→(topR l r p k f).1=true →
  ∃ a:Nat,(topR l r p k f).2.2 14=(a:Int)∧(topR l r p k f).2.2 15=((topR l r p k f).2.1:Int)∧(∀ j,j<a→partAt l j≠7)∧(∀ j,a≤j→j<(topR l r p k f).2.1→partAt l j=7)
 | 0,_,_,_,_,h,_,_=>absurd h (by decide)
 | r+1,p,k,f,h,_,hI,ht=>by
  unfold topR at ht ⊢
  by_cases hc:p=1∧topEnd l p k=k
  ·rw [if_pos hc] at ht;cases ht
  ·rw [if_neg hc] at ht ⊢
   by_cases hr:1≤r
   ·exact topR_span l r (p+1) _ _ (by omega) hr (hI.step (by omega) hc) ht
   ·obtain rfl:r=0:=by omega
    obtain rfl:p=7:=by omega
    obtain ⟨a1,-,-⟩:=topTo_law l 7 (by decide) (l.length-k) k (by have:=hI.le;omega)
    refine ⟨k,rfl,rfl,fun j hj=>?_,fun j h1 h2=>a1 j h1 h2⟩
    have:=hI.low j hj;omega
theorem span7 {l:List InstI} (h:(cutR l).1=true):∀ j,j<l.length→(partAt l j=7 ↔ (cutR l).2.2 14≤(j:Int)∧(j:Int)<(cutR l).2.2 15):=by
 have hlay:=cutR_law l;rw [if_pos h] at hlay;have hall:∀ j,j<l.length→mayD l j=true:=fun j hj=>by
  unfold layD at hlay;cases hb:badD l with
  | some k=>rw [hb] at hlay;cases hlay
  | none =>
   unfold badD at hb;rw [List.find?_eq_none] at hb;have:=hb j (List.mem_range.2 hj);simpa using this
 have hI0:TopI l 0 0:=⟨Nat.zero_le _,fun j hj=>absurd hj (Nat.not_lt_zero _),fun j hj=>absurd hj (Nat.not_lt_zero _),fun h=>absurd h (by decide),fun _ h=>absurd h (by have:=(partAt_bd l 0).1;omega)⟩
 obtain ⟨t1,t2⟩:=topR_law l 8 0 0 (fun _=>0) rfl hI0
 have hsp:=topR_span l 8 0 0 (fun _=>0) rfl (by decide) hI0
 unfold cutR at h ⊢;dsimp only at h ⊢;generalize topR l 8 0 0 (fun _=>0)=t at *
 by_cases ht:t.1=false
 ·rw [if_pos ht,ht] at h;cases h
 ·rw [if_neg ht];have ht2:t.1=true:=by simpa using ht
  obtain ⟨a,s1,s2,s3,s4⟩:=hsp ht2;have hI:=t1 ht2;have e1:spanF (spanF t.2.2 8 t.2.1 l.length) 9 l.length l.length 14=t.2.2 14:=rfl;have e2:spanF (spanF t.2.2 8 t.2.1 l.length) 9 l.length l.length 15=t.2.2 15:=rfl;intro j hj;dsimp only;rw [e1,e2,s1,s2];refine ⟨fun h7=>⟨?_,?_⟩,fun hh=>s4 j (by omega) (by omega)⟩
  ·rcases Nat.lt_or_ge j a with hlt | hge
   ·exact absurd h7 (s3 j hlt)
   ·omega
  ·rcases Nat.lt_or_ge j t.2.1 with hlt | hge
   ·omega
   ·exfalso
    have h8:partAt l t.2.1=8:=by
     have hb:=(partAt_bd l t.2.1).2
     rcases Int.lt_or_le (partAt l t.2.1) 8 with hl | hl
     ·have:=hI.next (by omega) (by omega)
      rw [hall t.2.1 (by omega)] at this
      cases this
     ·omega
    by_cases e:j=t.2.1
    ·rw [e,h8] at h7;cases h7
    ·have:=mayD_low (l:=l) (k:=j) (j:=t.2.1) (by omega) (by omega)
     rw [hall j hj] at this;cases this
theorem idsM_lay {bound:Int} {l:List InstI} (h:(layM bound l).1≠0):idsM bound l=layM bound l:=if_pos h
theorem idsM_ok {bound:Int} {l:List InstI} (h:(layM bound l).1=0):idsM bound l=idsR (madeR l 0) (cutR l).2.2 l 0∧(cutR l).1=true:=by
 refine ⟨if_neg (fun hh=>hh h),?_⟩
 unfold layM at h
 split at h
 ·rename_i h1;exact absurd h h1
 ·split at h
  ·assumption
  ·split at h <;> cases h
end
section
open Go.RowKit
theorem resD_ig {ls:List InstA} {k:Nat} (h:k<ls.length):resD (ls.map (·.1)) k=(ig ls k).1.2.2.1:=by
 unfold resD;rw [ig_map h]
theorem refMaker_any (ls:List InstA) (A:Option Addr) (n c tt:Nat) (id:Int) (w:World) (hr:Reads w w.heap.size 4 A n (Icells ls)) (ht:tt≤n) (hn:n≤7100000000000) :
  Calls Tryz.prog 200 #[.slice A n c,.int .u32 id,.int .i64 (tt:Nat)] w fun e w'=>e=.returned (.int .i64 (makD (ls.map (·.1)) id tt))∧w=w':=by
 have hlen:=hr.insts_len;have hL:(ls.map (·.1)).length=n:=by rw [List.length_map];exact hlen
 obtain ⟨v,hv⟩:∃ v,v=makD (ls.map (·.1)) id tt:=⟨_,rfl⟩;rw [← hv];have HV:=Lib.hid hv;have HR:=Lib.hid hr;clear hv hr;go_enter Tryz.func200,Tryz.ntmps200;go_wp2_with fail;go_loopg [6,7] tt (fun q a i wr=>∃ k:Nat,k+q=tt∧a=.int .i64 0∧i=.int .i64 (k:Nat)∧wr=w∧Hid (∀ j,j<k→hitD (ls.map (·.1)) id j=false))
 case atStart=>exact ⟨0,by omega,rfl,rfl,rfl,Lib.hid (fun j hj=>absurd hj (Nat.not_lt_zero _))⟩
 case round =>
  obtain ⟨k,hq,rfl,rfl,rfl,HK⟩:=hrel
  by_cases hlt:k<tt
  ·obtain ⟨b,off,rfl,hbb,hcc⟩:=HR.out.insts (by omega)
   obtain ⟨-,-,c2,-⟩:=hcc k (by omega)
   have hkn:k<n:=by omega
   have hres:resD (ls.map (·.1)) k=(ig ls k).1.2.2.1:=resD_ig (by omega)
   cases hh:hitD (ls.map (·.1)) id k with
   | true =>
    obtain rfl:v=(k:Int):=HV.out.trans (makD_at hlt (by omega) hh HK.out)
    unfold hitD at hh;rw [hres,Bool.and_eq_true,decide_eq_true_eq,decide_eq_true_eq] at hh;obtain ⟨h1,h2⟩:=hh;rw [h1] at c2;have e1:(id==id)=true:=by simp
    have e2:(id != 0)=true:=by simpa using h2
    clear HV HK HR hcc hres h1 h2;go_wp2_with fail;go_ret
    exact ⟨rfl,rfl⟩
   | false =>
    have HK2:=Lib.hid (show ∀ j,j<k+1→hitD (ls.map (·.1)) id j=false from fun j hj=>by
     by_cases e:j=k
     ·rw [e];exact hh
     ·exact HK.out j (by omega))
    unfold hitD at hh;rw [hres] at hh;clear HK hcc hres;generalize (ig ls k).1.2.2.1=x at *
    by_cases h1:x=id
    ·obtain rfl:=h1;have e1:(x==x)=true:=by simp
     have e2:(x != 0)=false:=by simpa using hh
     clear hh;go_wp2_with fail;go_roundg (tt-(k+1))
     case measure=>omega
     case rel=>exact ⟨k+1,by omega,rfl,by go_num,rfl,HK2⟩
    ·have e1:(x==id)=false:=by simpa using h1
     clear hh h1;go_wp2_with fail;go_roundg (tt-(k+1))
     case measure=>omega
     case rel=>exact ⟨k+1,by omega,rfl,by go_num,rfl,HK2⟩
  ·obtain rfl:k=tt:=by omega
   obtain rfl:v = -1:=HV.out.trans (makD_no HK.out);clear HV HK HR;go_wp2_with fail;go_ret
   exact ⟨rfl,rfl⟩
theorem refIds_any (x:InstA) (w:World) (h:InstOk w w.heap.size x):Calls Tryz.prog 201 #[.agg (instC x)] w fun e w'=>∃ (A':Option Addr) (c':Nat),
  e=.returned (.slice A' (idsOf x.1).length c')∧Reads w' w'.heap.size 1 A' (idsOf x.1).length (Ints .u32 (idsOf x.1))∧Below w.heap.size w w':=by
 obtain ⟨⟨op,ty,res,l⟩,A,n,c⟩:=x;obtain ⟨hr,hn,-,-⟩:=h;have hl:=hr.args_len;dsimp only at *;unfold instC;dsimp only;have hb:=(Below.refl w.heap.size w).alloc (Nat.le_refl _) (.cells #[.int .u16 op,.int .u32 ty,.int .u32 res,.slice A n c] 51);have k1:=Blk.new w 51 #[.int .u16 op,.int .u32 ty,.int .u32 res,.slice A n c];obtain ⟨v,hv⟩:∃ v,v=idsOf (op,ty,res,l):=⟨_,rfl⟩;rw [← hv];have HV:=Lib.hid hv;have HR:=Lib.hid hr;clear hv hr
 by_cases h0:ty=0
 case' pos =>
  have d0:(ty != 0)=false:=by rw [h0];rfl
  have HV0:=Lib.hid (show v=[]++idsF l by rw [HV.out];unfold idsOf;rw [if_pos h0])
  clear h0 HV;go_enter Tryz.func201,Tryz.ntmps201;go_upto_region 1 with fail
  generalize w.alloc (.cells #[.int .u16 op,.int .u32 ty,.int .u32 res,.slice A n c] 51)=W at *;have y1:=k1.cell 1;simp at y1;go_wp2_with fail;obtain ⟨pre,hpre⟩:∃ pre:List Int,pre=[]:=⟨_,rfl⟩;rw [← hpre] at HV0;have hp1:pre.length≤1:=by rw [hpre];decide
  have hs:∃ m,m=(pre++idsF (l.take 0)).length∧W.ownsRow (w.heap.size+1) 22 1 (.slice none 0 0) m (Ints .u32 (pre++idsF (l.take 0))):=⟨0,by rw [hpre];rfl,by rw [hpre];exact World.ownsRow_nil _ _ _ _⟩
  clear hpre;have hsz1:w.heap.size+1≤W.heap.size:=k1.lt;have hbX:=hb;have k1X:=k1
 case' neg =>
  have d0:(ty != 0)=true:=by simpa using h0
  have HV0:=Lib.hid (show v=[ty]++idsF l by rw [HV.out];unfold idsOf;rw [if_neg h0])
  clear h0 HV;go_enter Tryz.func201,Tryz.ntmps201;go_upto_region 1 with fail
  generalize w.alloc (.cells #[.int .u16 op,.int .u32 ty,.int .u32 res,.slice A n c] 51)=W at *;have y1:=k1.cell 1;simp at y1;have hsz0:w.heap.size+1≤W.heap.size:=k1.lt;go_wp2_with (at_builtin;refine ap_one sl32 _ rfl _ _ rfl (w.heap.size+1) _ _ _ rfl (World.ownsRow_nil _ _ _ _) _ _ rfl rfl (by decide) (by decide) hsz0 ?_;intro v1 w1 ho1 hgr1 _;obtain ⟨A1,c1,rfl⟩:=own_shape ho1;have k1X:=Blk.grown (row:=none) (k1.alloc (.cells #[.int .u32 ty] 22)) hgr1 (by simp);have hbX:=Below.grown (row:=none) (hb.alloc hb.size (.cells #[.int .u32 ty] 22)) hgr1 (by rw [World.size_alloc];omega) (fun j hj=>by cases hj))
  obtain ⟨pre,hpre⟩:∃ pre:List Int,pre=[ty]:=⟨_,rfl⟩;rw [← hpre] at HV0;have hp1:pre.length≤1:=by rw [hpre];exact Nat.le_refl _
  have hs:∃ m,m=(pre++idsF (l.take 0)).length∧w1.ownsRow (w.heap.size+1) 22 1 (.slice A1 1 c1) m (Ints .u32 (pre++idsF (l.take 0))):=⟨1,by rw [hpre];rfl,by rw [hpre];exact ho1⟩
  clear hpre ho1;have hsz1:w.heap.size+1≤w1.heap.size:=k1X.lt
 all_goals
  go_loopg [3,4] n (fun q u i wr=>∃ k:Nat,k+q=n∧i=.int .i64 (k:Nat)∧(∃ m,m=(pre++idsF (l.take k)).length∧wr.ownsRow (w.heap.size+1) 22 1 u m (Ints .u32 (pre++idsF (l.take k))))∧Blk wr w.heap.size 51 #[.int .u16 op,.int .u32 ty,.int .u32 res,.slice A n c]∧Below w.heap.size w wr∧w.heap.size+1≤wr.heap.size)
  case atStart=>exact ⟨0,by omega,rfl,hs,k1X,hbX,hsz1⟩
  case round =>
   obtain ⟨k,hq,rfl,⟨m,hm,ho⟩,kr,hbr,hsz2⟩:=hrel;have y3:=kr.cell 3;simp at y3
   by_cases hlt:k<n
   ·obtain ⟨b,off,rfl,hb2,hc⟩:=(HR.out.below hbr).args (by omega)
    obtain ⟨c0,c1,-⟩:=hc k hlt;have hkt:=idsF_take (l:=l) (k:=k) (by omega)
    have hml:=idsF_len l k;have hml2:m≤k+1:=by rw [hm,List.length_append];omega
    generalize ag l k=x at *;obtain ⟨x1,x2,x3⟩:=x;dsimp only at c0 c1 hkt;obtain ⟨A2,cc,rfl⟩:=own_shape ho;clear hc
    by_cases h1:x1=1
    ·have d1:(x1==1)=true:=by rw [h1];rfl
     rw [if_pos h1] at hkt;have HK:=Lib.hid hkt;have HM:=Lib.hid hm;clear hkt h1 hm hs;go_wp2_with (at_builtin;refine ap_one sl32 _ rfl _ _ rfl (w.heap.size+1) _ _ _ rfl ho _ _ rfl rfl (by omega) (by omega) hsz2 ?_;intro v' w3 ho3 hgr3 _)
     have kr3:=(kr.alloc (.cells #[.int .u32 x2] 22)).grown hgr3 (fun e=>by have:=(ho.lt _ e.symm).1;omega)
     have hb4:=(hbr.alloc hbr.size (.cells #[.int .u32 x2] 22)).grown hgr3 (by simp;omega) (fun j hj=>Nat.le_of_succ_le (ho.lt j hj).1)
     have hsz4:w.heap.size+1≤w3.heap.size:=by have:=hgr3.size;simp at this;omega
     go_roundg (n-(k+1))
     case measure=>omega
     case rel=>exact ⟨k+1,by omega,by go_num,⟨m+1,by rw [HK.out,HM.out];simp;omega,by rw [HK.out,← List.append_assoc,Ints_append];exact ho3⟩,kr3,hb4,hsz4⟩
    ·have d1:(x1==1)=false:=by simpa using h1
     rw [if_neg h1,List.append_nil] at hkt;have HK:=Lib.hid hkt;have HM:=Lib.hid hm;clear hkt h1 hm hs;go_wp2_with fail;go_roundg (n-(k+1))
     case measure=>omega
     case rel=>exact ⟨k+1,by omega,by go_num,⟨m,by rw [HK.out];exact HM.out,by rw [HK.out];exact ho⟩,kr,hbr,hsz2⟩
   ·obtain rfl:gk=0:=by omega
    obtain rfl:k=n:=by omega
    have ht:l.take k=l:=by rw [← hl];exact List.take_length
    rw [ht,← HV0.out] at hm ho;clear ht;obtain ⟨A2,cc,rfl⟩:=own_shape ho;have HM:=Lib.hid hm;clear hm hs;go_wp2_with fail;go_ret
    refine ⟨A2,cc,by rw [← HM.out];rfl,?_,hbr⟩
    rw [← HM.out];exact Reads.of_own ho
end
section
open Go.RowKit
theorem any_at {l:List Int} {p:Int→Bool} {j:Nat} (hj:j<l.length) (h:p (ix l j)=true):l.any p=true:=by
 rw [List.any_eq_true];rw [ix_of hj] at h;exact ⟨l[j],List.getElem_mem hj,h⟩
theorem any_none {l:List Int} {p:Int→Bool} (h:∀ j,j<l.length→p (ix l j)=false):l.any p=false:=by
 rw [List.any_eq_false];intro x hx;obtain ⟨j,hj,rfl⟩:=List.mem_iff_getElem.1 hx;have:=h j hj;rw [ix_of hj] at this;rw [this]
 decide
theorem refIdF_any (ls:List InstA) (A:Option Addr) (n c k:Nat) (w:World) (hM:ModS w w.heap.size A n ls) (hk:k<n) :
  Calls Tryz.prog 157 #[.slice A n c,.int .i64 (k:Nat)] w fun e w'=>e=.returned (.int .i64 (idD (ls.map (·.1)) k (ig ls k).1))∧Below w.heap.size w w':=by
 have hlen:=hM.reads.insts_len;have hnb:=hM.len;have hL:(ls.map (·.1)).length=n:=by rw [List.length_map];exact hlen
 obtain ⟨v,hv⟩:∃ v,v=idD (ls.map (·.1)) k (ig ls k).1:=⟨_,rfl⟩;rw [← hv];unfold idD at hv;rw [hL] at hv;have HM:=Lib.hid hM;have hI:=hM.ok _ (ig_mem (l:=ls) (k:=k) (by omega))
 obtain ⟨b,off,rfl,hbb,hcc⟩:=hM.reads.insts (by omega)
 obtain ⟨c0,c1,c2,c3⟩:=hcc k hk;have hmk:=fun (id:Int) (tt:Nat) (W:World) (hW:Below w.heap.size w W) (ht:tt≤n)=>refMaker_any ls (some ⟨b,off,none⟩) n c tt id W ((HM.out.reads.below hW).more hW.size) ht hnb
 have hids:=refIds_any (ig ls k) w hI;have hpt:=fun (W:World) (hW:Below w.heap.size w W)=>refPart_any (ig ls k) W ((hI.keep hW).more hW.size)
 rw [← partAt_ig (show k<ls.length by omega)] at hpt
 have hcl:=fun (W:World) (hW:Below w.heap.size w W)=>(⟨cell_on c0 hW,cell_on c1 hW,cell_on c2 hW,cell_on c3 hW⟩:W.cell? ⟨b,off+k*4,none⟩=some (.int .u16 (ig ls k).1.1)∧W.cell? ⟨b,off+k*4+1,none⟩=some (.int .u32 (ig ls k).1.2.1)∧W.cell? ⟨b,off+k*4+2,none⟩=some (.int .u32 (ig ls k).1.2.2.1) ∧
   W.cell? ⟨b,off+k*4+3,none⟩=some (.slice (ig ls k).2.1 (ig ls k).2.2.1 (ig ls k).2.2.2))
 have HCL:=Lib.hid hcl;have hal:(ig ls k).1.2.2.2.length=(ig ls k).2.2.1:=hI.reads.args_len;have hidl:=idsOf_len (ig ls k).1;have hil:=hI.len;clear hM hcc hI hcl;unfold instC at hids hpt;generalize ig ls k=x at *;have hm1:=hmk x.1.2.2.1 k w (Below.refl _ _) (by omega)
 obtain ⟨l,hl⟩:∃ l,l=idsOf x.1:=⟨_,rfl⟩;rw [← hl] at hids hv hidl;obtain ⟨mk,hmk0⟩:∃ mk:Int→Nat→Int,mk=makD (ls.map (·.1)):=⟨_,rfl⟩;have hmk1:=fun (id:Int) (tt:Nat) (W:World) (hW:Below w.heap.size w W) (ht:tt≤n)=>(by rw [hmk0];exact hmk id tt W hW ht:Calls Tryz.prog 200 #[.slice (some ⟨b,off,none⟩) n c,.int .u32 id,.int .i64 (tt:Nat)] W fun e w'=>e=.returned (.int .i64 (mk id tt))∧W=w')
 rw [← hmk0] at hv hm1;have HMK:=Lib.hid hmk1;have HPT:=Lib.hid hpt;clear hmk hmk0 hmk1 hpt hl;generalize partAt (ls.map (·.1)) k=p at *;have HV:=Lib.hid hv;clear hv;go_enter Tryz.func157,Tryz.ntmps157
 by_cases h90:0≤mk x.1.2.2.1 k
 ·have d1:decide (0≤mk x.1.2.2.1 k)=true:=decide_eq_true h90;have d2:decide (mk x.1.2.2.1 k≥0)=true:=d1;obtain rfl:v=90:=HV.out.trans (if_pos h90);clear HV h90;go_wp2_with (go_at_call 200;refine hm1.mono ?_;rintro e w3 ⟨rfl,rfl⟩)
  go_ret
  exact ⟨rfl,Below.refl _ _⟩
 have d1:decide (0≤mk x.1.2.2.1 k)=false:=decide_eq_false h90;have d2:decide (mk x.1.2.2.1 k≥0)=false:=d1;have hv2:=HV.out;rw [if_neg h90] at hv2;have HV2:=Lib.hid hv2;clear HV hv2 h90;go_wp2_with (first | (go_at_call 200;refine hm1.mono ?_;rintro e w3 ⟨rfl,rfl⟩) | (go_at_call 201;refine hids.mono ?_;rintro e w3 ⟨A',c',rfl,hr3,hb3⟩))
 have HR:=Lib.hid hr3;clear hm1 hids hr3 c0 c1 c2 c3 d1 d2;go_loopg [4,6] l.length (fun q a i wr=>∃ j:Nat,j+q=l.length∧a=.int .i64 0∧i=.int .i64 (j:Nat)∧wr=w3∧Hid (∀ i,i<j→decide (mk (ix l i) n<0)=false))
 case atStart=>exact ⟨0,by omega,rfl,rfl,rfl,Lib.hid (fun i hi=>absurd hi (Nat.not_lt_zero _))⟩
 case round =>
  obtain ⟨j,hq,rfl,rfl,rfl,HK⟩:=hrel
  by_cases hlt:j<l.length
  ·obtain ⟨b2,off2,rfl,hbb2,hcc2⟩:=HR.out.ints (by omega)
   have x0:=hcc2 j hlt;have hm:=HMK.out (ix l j) n wr hb3 (Nat.le_refl _);clear hcc2;cases hd:decide (mk (ix l j) n<0) with
   | true =>
    obtain rfl:v=91:=HV2.out.trans (if_pos (any_at (p:=fun id=>decide (mk id n<0)) hlt hd))
    clear HV2 HK;generalize ix l j=y at *;go_wp2_with (go_at_call 200;with_reducible refine hm.mono ?_;rintro e w5 ⟨rfl,rfl⟩)
    go_ret
    exact ⟨rfl,hb3⟩
   | false =>
    have HK2:=Lib.hid (show ∀ i,i<j+1→decide (mk (ix l i) n<0)=false from fun i hi=>by
     by_cases e:i=j
     ·rw [e];exact hd
     ·exact HK.out i (by omega))
    clear HK;generalize ix l j=y at *;go_wp2_with (go_at_call 200;with_reducible refine hm.mono ?_;rintro e w5 ⟨rfl,rfl⟩)
    go_roundg (l.length-(j+1))
    case measure=>omega
    case rel=>exact ⟨j+1,by omega,rfl,by go_num,rfl,HK2⟩
  ·obtain rfl:j=l.length:=by omega
   have hv3:=HV2.out;rw [any_none (p:=fun id=>decide (mk id n<0)) HK.out] at hv3
   simp only [Bool.false_eq_true,if_false] at hv3;have HV3:=Lib.hid hv3;clear HV2 hv3 HK;go_wp2_with fail;generalize wr=W3 at *;go_loopg [4,7] l.length (fun q a i wq=>∃ j:Nat,j+q=l.length∧a=.int .i64 0∧i=.int .i64 (j:Nat)∧Below W3.heap.size W3 wq∧Hid (∀ i,i<j→(decide (p=7)&&decide (mk (ix l i) k<0))=false))
   case atStart=>exact ⟨0,by omega,rfl,rfl,Below.refl _ _,Lib.hid (fun i hi=>absurd hi (Nat.not_lt_zero _))⟩
   case round =>
    obtain ⟨j,hq,rfl,rfl,hbq,HK⟩:=hrel;have hbw:=below_cut hb3 hbq (Nat.le_refl _)
    by_cases hlt:j<l.length
    ·obtain ⟨b2,off2,rfl,hbb2,hcc2⟩:=(HR.out.below hbq).ints (by omega)
     have hpw:=HPT.out _ hbw;have hcell:=fun W hW=>(HR.out.below (w':=W) hW).ints (by omega)
     obtain ⟨z0,z1,z2,z3⟩:=HCL.out _ hbw;have HX0:=Lib.hid (show ∀ W:World,Below W3.heap.size W3 W→W.cell? ⟨b2,off2+j,none⟩=some (.int .u32 (ix l j)) from fun W hW=>by
      obtain ⟨b3,off3,e3,-,hcc3⟩:=(HR.out.below hW).ints (by omega)
      cases e3
      exact hcc3 j hlt)
     have HM2:=Lib.hid (fun W hW=>HMK.out (ix l j) k W hW (by omega))
     clear hcell hcc2
     by_cases h7:p=7
     ·obtain rfl:=h7;cases hd:decide (mk (ix l j) k<0) with
      | true =>
       obtain rfl:v=92:=by
        rw [HV3.out,any_at (p:=fun id=>decide (mk id k<0)) hlt hd]
        rfl
       clear HV3 HK;generalize ix l j=y at *;go_wp2_with (first | (go_at_call 83;with_reducible refine hpw.mono ?_;rintro e w7 ⟨rfl,hb7⟩;have x0:=HX0.out w7 (below_cut hbq hb7 (Nat.le_refl _))) | (go_at_call 200;with_reducible refine (HM2.out _ (below_cut hbw hb7 (Nat.le_refl _))).mono ?_;rintro e w8 ⟨rfl,rfl⟩))
       go_ret
       exact ⟨rfl,below_cut hbw hb7 (Nat.le_refl _)⟩
      | false =>
       have HK2:=Lib.hid (show ∀ i,i<j+1→(decide ((7:Int)=7)&&decide (mk (ix l i) k<0))=false from fun i hi=>by
        by_cases e:i=j
        ·rw [e,hd];rfl
        ·exact HK.out i (by omega))
       clear HK;generalize ix l j=y at *;go_wp2_with (first | (go_at_call 83;with_reducible refine hpw.mono ?_;rintro e w7 ⟨rfl,hb7⟩;have x0:=HX0.out w7 (below_cut hbq hb7 (Nat.le_refl _))) | (go_at_call 200;with_reducible refine (HM2.out _ (below_cut hbw hb7 (Nat.le_refl _))).mono ?_;rintro e w8 ⟨rfl,rfl⟩))
       go_roundg (l.length-(j+1))
       case measure=>omega
       case rel=>exact ⟨j+1,by omega,rfl,by go_num,below_cut hbq hb7 (Nat.le_refl _),HK2⟩
     ·have e7:(p==7)=false:=by simpa using h7
      have HK2:=Lib.hid (show ∀ i,i<j+1→(decide (p=7)&&decide (mk (ix l i) k<0))=false from fun i hi=>by
       rw [decide_eq_false h7];rfl)
      clear HK h7;go_wp2_with (go_at_call 83;with_reducible refine hpw.mono ?_;rintro e w7 ⟨rfl,hb7⟩)
      go_roundg (l.length-(j+1))
      case measure=>omega
      case rel=>exact ⟨j+1,by omega,rfl,by go_num,below_cut hbq hb7 (Nat.le_refl _),HK2⟩
    ·obtain rfl:j=l.length:=by omega
     obtain rfl:v=0:=by
      rw [HV3.out]
      by_cases h7:p=7
      ·have:l.any (fun id=>decide (mk id k<0))=false:=any_none (fun i hi=>by
        have:=HK.out i hi;rw [decide_eq_true h7,Bool.true_and] at this;exact this)
       rw [this,Bool.and_false];rfl
      ·rw [decide_eq_false h7,Bool.false_and];rfl
     clear HV3 HK;go_wp2_with fail;go_ret
     exact ⟨rfl,hbw⟩
end
end Go.Proofs.YteelmakkogdieaaGreatDoor
