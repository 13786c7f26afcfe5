/- Walks: the document's Check of ids. -/
import Derived.Test.YteelmakkogdieaaGreatDoorCRE
import Derived.Test.YteelmakkogdieaaGreatDoorCSB
import Derived.Test.YteelmakkogdieaaGreatDoorCSF
import Derived.Test.YteelmakkogdieaaGreatDoorCUM
import Derived.Test.YteelmakkogdieaaGreatDoorCSA
import Derived.Test.YteelmakkogdieaaGreatDoorCTQ
import Derived.Test.YteelmakkogdieaaGreatDoorCSE
import Derived.Test.YteelmakkogdieaaGreatDoorCUA
set_option maxRecDepth 100000
set_option maxHeartbeats 4000000
namespace Go.Proofs.YteelmakkogdieaaGreatDoor
section
open Go.RowKit
theorem idsR_step {made:Int→Option Nat} {p:Nat→Int} {l:List InstI} {k:Nat} {i:InstI} (h:l[k]?=some i):idsR made p (l.drop k) k=if idE1 made p k i≠0 then (idE1 made p k i,(k:Int)) else idsR made p (l.drop (k+1)) (k+1):=by
 obtain ⟨hk,rfl⟩:=List.getElem?_eq_some_iff.1 h;rw [List.drop_eq_getElem_cons hk];rfl
theorem refIds9_any (gen bound:Int) (ls:List InstA) (A:Option Addr) (n c:Nat) (w:World) (hM:ModS w w.heap.size A n ls) :
  Calls Tryz.prog 118 #[.agg (modC gen bound A n c)] w fun e w'=>e=.returned (.agg #[.int .i64 (idsM bound (ls.map (·.1))).1,.int .i64 (idsM bound (ls.map (·.1))).2])∧Below w.heap.size w w':=by
 have hlen:=hM.reads.insts_len;have hnb:=hM.len;have hL:(ls.map (·.1)).length=n:=by rw [List.length_map];exact hlen
 obtain ⟨v,hv⟩:∃ v,v=idsM bound (ls.map (·.1)):=⟨_,rfl⟩;rw [← hv];have hb0:=((Below.refl w.heap.size w).alloc (Nat.le_refl _) (.cells #[.int .u32 gen,.int .u32 bound,.slice A n c] 25)).alloc (by simp) (.cells #[.int .i64 0,.int .i64 0] 29)
 have k1:=(Blk.new w 25 #[.int .u32 gen,.int .u32 bound,.slice A n c]).alloc (.cells #[.int .i64 0,.int .i64 0] 29);have k2:=Blk.new (w.alloc (.cells #[.int .u32 gen,.int .u32 bound,.slice A n c] 25)) 29 #[.int .i64 0,.int .i64 0];rw [World.size_alloc] at k2;have hly:=fun (W:World) (hW:Below w.heap.size w W)=>refLay_any gen bound ls A n c W (hM.step hW)
 have hfl:=fun (k:Nat) (W:World) (hW:Below w.heap.size w W) (hk:k<n)=>refIdF_any ls A n c k W (hM.step hW) hk
 obtain ⟨lv,hlv⟩:∃ lv,lv=layM bound (ls.map (·.1)):=⟨_,rfl⟩;rw [← hlv] at hly;have hcase:(lv.1≠0∧v=lv)∨(lv.1=0∧v=idsR (madeR (ls.map (·.1)) 0) (cutR (ls.map (·.1))).2.2 ((ls.map (·.1)).drop 0) 0∧(cutR (ls.map (·.1))).1=true):=by
  by_cases h0:lv.1=0
  ·rw [hlv] at h0;have:=idsM_ok h0;exact .inr ⟨by rw [hlv];exact h0,hv.trans this.1,this.2⟩
  ·rw [hlv] at h0;exact .inl ⟨by rw [hlv];exact h0,by rw [hv,hlv];exact idsM_lay h0⟩
 have HFL:=Lib.hid hfl;have HC:=Lib.hid hcase;clear hv hlv hM hfl hcase;unfold modC;obtain ⟨s1,s2⟩:=lv;go_enter Tryz.func118,Tryz.ntmps118;go_upto_region 1 with fail
 generalize (w.alloc (.cells #[.int .u32 gen,.int .u32 bound,.slice A n c] 25)).alloc (.cells #[.int .i64 0,.int .i64 0] 29)=W at *;obtain ⟨y0,y1,y2⟩:=three_ k1;have hs1:=hly W hb0;unfold modC at hs1;go_upto_region 2 with (go_at_call 156;refine hs1.mono ?_;rintro e w1 ⟨rfl,hb1⟩)
 have hb2:=below_cut hb0 hb1 (Nat.le_refl _);have k12:=(k1.step hb1).alloc (.cells #[.int .i64 s1,.int .i64 s2] 29);have k22:=(k2.step hb1).alloc (.cells #[.int .i64 s1,.int .i64 s2] 29);have k3:=Blk.new w1 29 #[.int .i64 s1,.int .i64 s2];have hb3:=hb2.alloc hb2.size (.cells #[.int .i64 s1,.int .i64 s2] 29);clear hs1 hly k1 k2 hb0 hb1 hb2 y0 y1 y2;generalize w1.alloc (.cells #[.int .i64 s1,.int .i64 s2] 29)=W2 at *;generalize w1.heap.size=g3 at *;obtain ⟨x0,x1⟩:=two_ k3
 rcases HC.out with ⟨h0,rfl⟩ | ⟨h0,hv,hcut⟩
 ·have h0:s1≠0:=h0;have e1:(s1 != 0)=true:=by simpa using h0
  obtain ⟨z0,z1⟩:=two_ k22;have fz:=k22.frozen;clear HC;go_wp2_with fail;exact bodyPost_ret (spot_end1 rfl _ rfl (spot_put k22 _ _)) rfl ⟨rfl,below_spot hb3 (by omega) _ _⟩
 obtain rfl:s1=0:=h0;have HV:=Lib.hid hv;have HCUT:=Lib.hid hcut;clear hv hcut HC;go_wp2_with fail;clear x0 x1 k3;go_loopg [4,5] n (fun q i u wr=>∃ j:Nat,j+q=n∧i=.int .i64 (j:Nat)∧Hid (v=idsR (madeR (ls.map (·.1)) 0) (cutR (ls.map (·.1))).2.2 ((ls.map (·.1)).drop j) j)∧Below W2.heap.size W2 wr)
 case atStart=>exact ⟨0,by omega,rfl,HV,Below.refl _ _⟩
 case round =>
  obtain ⟨j,hq,rfl,HJ,hbr⟩:=hrel;have hbw:=below_cut hb3 hbr (Nat.le_refl _);have k12r:=k12.step hbr;have k22r:=k22.step hbr;obtain ⟨y0,y1,y2⟩:=three_ k12r
  by_cases hlt:j<n
  ·have hfj:=HFL.out j wr hbw hlt;have hat:(ls.map (·.1))[j]?=some (ig ls j).1:=ig_map (by omega)
   have hst:=HJ.out.trans (idsR_step hat);rw [← idD_eq hat (span7 HCUT.out j (by omega))] at hst
   have HST:=Lib.hid hst;clear hst hat HJ;generalize idD (ls.map (·.1)) j (ig ls j).1=er at *
   by_cases h1:er=0
   ·subst h1;have HJ2:=Lib.hid (HST.out.trans (if_neg (fun h=>h rfl)))
    clear HST;go_wp2_with fail;refine hfj.mono ?_;rintro e w3 ⟨rfl,hb4⟩;go_wp2_with fail;go_roundg (n-(j+1))
    case measure=>omega
    case rel=>exact ⟨j+1,by omega,by go_num,HJ2,below_cut hbr hb4 (Nat.le_refl _)⟩
   ·have e1:(er != 0)=true:=by simpa using h1
    obtain rfl:=HST.out.trans (if_pos h1);clear HST h1;go_wp2_with fail;refine hfj.mono ?_;rintro e w3 ⟨rfl,hb4⟩;have k23:=k22r.step hb4;obtain ⟨z0,z1⟩:=two_ k23;have fz:=k23.frozen;go_wp2_with fail;exact bodyPost_ret (spot_end1 rfl _ rfl (spot_put k23 _ _)) rfl ⟨rfl,below_spot (below_cut hbw hb4 (Nat.le_refl _)) (by omega) _ _⟩
  ·obtain rfl:j=n:=by omega
   obtain rfl:v=(0,0):=by
    rw [HJ.out,List.drop_of_length_le (by rw [hL];exact Nat.le_refl _)]
    rfl
   obtain ⟨z0,z1⟩:=two_ k22r;have fz:=k22r.frozen;clear HJ HV;go_wp2_with fail;exact bodyPost_ret (spot_end1 rfl _ rfl (spot_put k22r _ _)) rfl ⟨rfl,below_spot hbw (by omega) _ _⟩
end
section
def noneI:InstI:=(0,0,0,[])
def madI (L:List InstI) (id:Int) (k:Nat):InstI:=match frstD L id k with
 | none=>noneI
 | some j=>(L[j]?).getD noneI
structure NewI (L:List InstI) (k:Nat) (s:StN):Prop where
 well:WellS s
 ids:∀ id∈s.ord,id≠0∧∃ j i,j<k∧L[j]?=some i∧i.2.2.1=id
 mad:∀ id,id≠0→s.M id=madI L id k
 seen:∀ i,0≤s.R (keyB i)∧(0<s.R (keyB i) ↔ ∃ j o,j<k∧L[j]?=some o∧(oneT s.T s.M o).2.1=true∧¬ (o.1=28∨o.1=30)∧keyB o=keyB i)
theorem oneT_is (T T':Int→TyI) (M M':Int→InstI) (i:InstI):(oneT T M i).2.1=(oneT T' M' i).2.1:=by
 unfold oneT;dsimp only
 repeat' split
 all_goals rfl
theorem oneT_no {T:Int→TyI} {M:Int→InstI} {i:InstI} (h:(oneT T M i).2.1=false):(oneT T M i).2.2=0:=by
 unfold oneT at h ⊢;dsimp only at h ⊢
 by_cases h1:i.1=19
 ·rw [if_pos h1] at h;cases h
 rw [if_neg h1] at h ⊢
 by_cases h1:i.1=20
 ·rw [if_pos h1] at h;cases h
 rw [if_neg h1] at h ⊢
 by_cases h1:i.1=21
 ·rw [if_pos h1] at h;cases h
 rw [if_neg h1] at h ⊢
 by_cases h1:i.1=23
 ·rw [if_pos h1] at h;cases h
 rw [if_neg h1] at h ⊢
 by_cases h1:i.1=28
 ·rw [if_pos h1] at h;cases h
 rw [if_neg h1] at h ⊢
 by_cases h1:i.1=30
 ·rw [if_pos h1] at h;cases h
 rw [if_neg h1] at h ⊢
 by_cases h1:i.1=32
 ·rw [if_pos h1] at h;cases h
 rw [if_neg h1] at h ⊢
 by_cases h1:i.1=33
 ·rw [if_pos h1] at h;cases h
 rw [if_neg h1]
theorem errN_no {s:StN} {i:InstI} (h:(oneT s.T s.M i).2.1=false):errN s i=0:=by
 unfold errN;dsimp only;rw [if_neg (by rw [h];rintro ⟨h,-⟩;cases h)]
 exact oneT_no h
theorem NewI.st0 (L:List InstI):NewI L 0 st0 :=
 ⟨WellS.st0,fun id h=>(by cases h),fun id _=>rfl,fun i=>⟨Int.le_refl _,⟨fun h=>absurd h (by show ¬ (0:Int)<0;decide),fun ⟨j,_,h,_⟩=>absurd h (Nat.not_lt_zero j)⟩⟩⟩
theorem NewI.zero {L:List InstI} {k:Nat} {s:StN} (h:NewI L k s):s.T 0=ty0:=h.well.out 0 (fun hc=>(h.ids 0 hc).1 rfl)
theorem NewI.kind {L:List InstI} {k:Nat} {s:StN} (h:NewI L k s):∀ id,id∈s.ord→1≤(s.T id).kind∧(s.T id).kind≤8:=fun id hid=>by
 obtain ⟨j,hj,rfl⟩:=List.getElem_of_mem hid;exact (h.well.made j hj).kind
theorem NewI.next {L:List InstI} {bound:Int} (hs:∀ i∈L,(rawR i bound).1=0) (hu:Once L) {k:Nat} {s:StN} (h:NewI L k s) {i:InstI} (hi:L[k]?=some i) (hE:errN s i=0):NewI L (k+1) (nextN s i):=by
 have hmem:=List.mem_of_getElem? hi;obtain ⟨f,hf⟩:=rawR_ok (hs i hmem);have hla:=rawR_args (hs i hmem);have hnin:(oneT s.T s.M i).2.1=true→i.2.2.1≠0∧i.2.2.1 ∉ s.ord:=fun hb=>by
  have hn:=hf.res_ne (oneT_op hb);refine ⟨hn,fun hin=>?_⟩
  obtain ⟨-,j,i',hj,hji,he⟩:=h.ids _ hin;exact hu j k i' i hji hi hj hn he
 have hr:resD L k=i.2.2.1:=by unfold resD;rw [hi]
 refine ⟨?_,?_,?_,?_⟩
 ·by_cases hb:(oneT s.T s.M i).2.1=true
  ·exact nextN_well h.well hf (Nat.le_of_lt hla) hE (hnin hb).2
  ·have e1:(nextN s i).T=s.T:=by unfold nextN;dsimp only;rw [if_neg hb]
   have e2:(nextN s i).ord=s.ord:=by unfold nextN;dsimp only;rw [if_neg hb]
   exact ⟨by rw [e1,e2];exact h.well.out,by rw [e2];exact h.well.nodup,by rw [e1];exact h.well.deep,by rw [e1];simp only [e2];exact h.well.made⟩
 ·intro id hid;unfold nextN at hid;dsimp only at hid
  by_cases hb:(oneT s.T s.M i).2.1=true
  ·rw [if_pos hb,List.mem_append,List.mem_singleton] at hid
   rcases hid with hid | rfl
   ·obtain ⟨a,j,i',hj,hr⟩:=h.ids id hid;exact ⟨a,j,i',by omega,hr⟩
   ·exact ⟨(hnin hb).1,k,i,by omega,hi,rfl⟩
  ·rw [if_neg hb] at hid;obtain ⟨a,j,i',hj,hr⟩:=h.ids id hid;exact ⟨a,j,i',by omega,hr⟩
 ·intro id h0
  show (if id=i.2.2.1 then i else s.M id)=madI L id (k+1)
  by_cases e:id=i.2.2.1
  ·rw [if_pos e];have hno:∀ j,j<k→resD L j≠id:=fun j hj hc=>by
    have hjl:j<L.length:=by have:=(List.getElem?_eq_some_iff.1 hi).1;omega
    have hat:L[j]?=some L[j]:=List.getElem?_eq_getElem hjl;unfold resD at hc;rw [hat] at hc;exact hu j k _ i hat hi hj (by rw [← e];exact h0) (by rw [← e];exact hc)
   unfold madI;rw [frstD_at (by rw [hr];exact e.symm) hno (Nat.lt_succ_self k)]
   dsimp only;rw [hi];rfl
  ·rw [if_neg e,h.mad id h0];unfold madI;have e2:frstD L id (k+1)=frstD L id k:=by
    show (match frstD L id k with | some j=>some j | none=>if resD L k=id then some k else none)=_
    cases hc:frstD L id k with
    | some j=>rfl
    | none=>dsimp only;rw [if_neg (by rw [hr];exact fun hh=>e hh.symm)]
   rw [e2]
 ·intro j';obtain ⟨h1,h2⟩:=h.seen j';have hold:(∃ j o,j<k∧L[j]?=some o∧(oneT s.T s.M o).2.1=true∧¬ (o.1=28∨o.1=30)∧keyB o=keyB j')→∃ j o,j<k+1∧L[j]?=some o∧(oneT (nextN s i).T (nextN s i).M o).2.1=true∧¬ (o.1=28∨o.1=30)∧keyB o=keyB j' :=
   fun ⟨j,o,a1,a2,a3,a4⟩=>⟨j,o,by omega,a2,by rw [oneT_is _ s.T _ s.M];exact a3,a4⟩
  have hnew:(∃ j o,j<k+1∧L[j]?=some o∧(oneT (nextN s i).T (nextN s i).M o).2.1=true∧¬ (o.1=28∨o.1=30)∧keyB o=keyB j') →
    (∃ j o,j<k∧L[j]?=some o∧(oneT s.T s.M o).2.1=true∧¬ (o.1=28∨o.1=30)∧keyB o=keyB j')∨((oneT s.T s.M i).2.1=true∧¬ (i.1=28∨i.1=30)∧keyB i=keyB j') :=
   fun ⟨j,o,a1,a2,a3,a4⟩=>by
    rw [oneT_is _ s.T _ s.M] at a3
    by_cases e:j=k
    ·subst e;rw [hi] at a2;cases a2
     exact .inr ⟨a3,a4⟩
    ·exact .inl ⟨j,o,by omega,a2,a3,a4⟩
  have hRe:(nextN s i).R=if (oneT s.T s.M i).2.1=true∧(oneT s.T s.M i).2.2=0 then (againR s.R i).2 else s.R:=rfl
  have hE2:(oneT s.T s.M i).2.2=0:=by
   unfold errN at hE;dsimp only at hE
   split at hE
   ·cases hE
   ·exact hE
  rw [hRe]
  by_cases hb:(oneT s.T s.M i).2.1=true
  ·rw [if_pos ⟨hb,hE2⟩];unfold againR
   by_cases h28:i.1=28∨i.1=30
   ·rw [if_pos h28];refine ⟨h1,⟨fun hh=>hold (h2.1 hh),fun hh=>?_⟩⟩
    rcases hnew hh with hh | ⟨-,hn,-⟩
    ·exact h2.2 hh
    ·exact absurd h28 hn
   ·rw [if_neg h28]
    show 0≤bump s.R (keyB i) (keyB j')∧(0<bump s.R (keyB i) (keyB j') ↔ _)
    unfold bump
    by_cases hk:keyB j'=keyB i
    ·rw [if_pos hk];refine ⟨by omega,⟨fun _=>⟨k,i,by omega,hi,by rw [oneT_is _ s.T _ s.M];exact hb,h28,hk.symm⟩,fun _=>by omega⟩⟩
    ·rw [if_neg hk];refine ⟨h1,⟨fun hh=>hold (h2.1 hh),fun hh=>?_⟩⟩
     rcases hnew hh with hh | ⟨-,-,he⟩
     ·exact h2.2 hh
     ·exact absurd he.symm hk
  ·rw [if_neg (fun hh=>hb hh.1)]
   refine ⟨h1,⟨fun hh=>hold (h2.1 hh),fun hh=>?_⟩⟩
   rcases hnew hh with hh | ⟨hn,-⟩
   ·exact h2.2 hh
   ·exact absurd hn hb
theorem ty_texts:([19,20,21,23,32,33].all fun op=>match formOf op with | some f=>(f.fixed++f.rest).all (fun c=>decide (kindT (c.toNat:Int)≠3)) | none=>false)=true:=by decide +kernel
theorem InstW.no_text {i:InstI} {bound:Int} {f:FormI} (h:InstW i bound f) (ho:i.1∈[(19:Int),20,21,23,32,33]) {k:Nat} (hk:k<i.2.2.2.length):(ag i.2.2.2 k).1=kindT (letterOf i.1 k)∧(ag i.2.2.2 k).2.2=⟨#[]⟩:=by
 have h1:=argE_ok (h.args k hk);refine ⟨h1.2.1,?_⟩;have h2:=ty_texts;rw [List.all_eq_true] at h2;have h3:=h2 _ ho;rw [h.form] at h3;dsimp only at h3;rw [List.all_eq_true] at h3;have hne:(ag i.2.2.2 k).1≠3:=by
  rcases letter_in h.form k with h4 | ⟨c,hc,h4⟩
  ·exact absurd h4 h1.1
  ·have h5:=h3 c hc;rw [decide_eq_true_eq] at h5;rw [h1.2.1,h4];exact h5
 have h6:=h1.2.2.2.2.2 hne;rw [ByteArray.toList_eq] at h6;apply ByteArray.ext
 rw [List.isEmpty_iff] at h6;exact Array.toList_inj.1 h6
theorem args_same {i o:InstI} {bound:Int} {f g:FormI} (h:InstW i bound f) (h':InstW o bound g) (ho:i.1∈[(19:Int),20,21,23,32,33]) (he:o.1=i.1) (hn:nums o.2.2.2=nums i.2.2.2):o.2.2.2=i.2.2.2:=by
 have hl:o.2.2.2.length=i.2.2.2.length:=by
  have:=congrArg List.length hn;rwa [nums_len,nums_len] at this
 refine List.ext_getElem hl fun k h1 h2=>?_
 rw [← ag_of h1,← ag_of h2];have a1:=h.no_text ho h2;have a2:=h'.no_text (by rw [he];exact ho) h1
 have a3:(ag o.2.2.2 k).2.1=(ag i.2.2.2 k).2.1:=by rw [← nums_ix h1,← nums_ix h2,hn]
 refine Prod.ext ?_ (Prod.ext a3 ?_)
 ·rw [a1.1,a2.1,he]
 ·rw [a1.2,a2.2]
theorem NewI.again {L:List InstI} {bound:Int} (hs:∀ i∈L,(rawR i bound).1=0) (hu:∀ i∈L,(∀ a∈i.2.2.2,0≤a.2.1)∧0≤i.1) {k:Nat} {s:StN} (h:NewI L k s) {i:InstI} (hi:L[k]?=some i) (hb:(oneT s.T s.M i).2.1=true):(againR s.R i).1=againD L k i:=by
 unfold againR againD
 by_cases h28:i.1=28∨i.1=30
 ·rw [if_pos h28,if_pos h28]
 ·rw [if_neg h28,if_neg h28];have hmem:=List.mem_of_getElem? hi;obtain ⟨f,hf⟩:=rawR_ok (hs i hmem);have hop:i.1∈[(19:Int),20,21,23,32,33]:=by
   have:=oneT_op hb;simp only [List.mem_cons,List.not_mem_nil,or_false] at this ⊢;omega
  have hnn:∀ o∈L,∀ x∈nums o.2.2.2,0≤x:=fun o ho x hx=>by
   unfold nums at hx;obtain ⟨a,ha,rfl⟩:=List.mem_map.1 hx;exact (hu o ho).1 a ha
  show decide (0<s.R (keyB i))=_
  rw [Bool.eq_iff_iff,decide_eq_true_eq,(h.seen i).2,List.any_eq_true]
  constructor
  ·rintro ⟨j,o,hj,ho,hob,-,hk⟩;have hom:=List.mem_of_getElem? ho;obtain ⟨g,hg⟩:=rawR_ok (hs o hom);obtain ⟨e1,e2⟩:=(keyB_iff (hu o hom).2 (hu i hmem).2 (hnn o hom) (hnn i hmem)).1 hk;refine ⟨o,List.mem_of_getElem? (by rw [List.getElem?_take_of_lt hj];exact ho),?_⟩
   unfold sameI;rw [decide_eq_true e1,decide_eq_true (args_same hf hg hop e1 e2)];rfl
  ·rintro ⟨o,ho,hs2⟩;obtain ⟨j,hj⟩:=List.getElem?_of_mem ho;have hlt:j<k:=by
    rcases Nat.lt_or_ge j k with h1 | h1
    ·exact h1
    ·rw [List.getElem?_eq_none (by rw [List.length_take];omega)] at hj;cases hj
   rw [List.getElem?_take_of_lt hlt] at hj;unfold sameI at hs2;rw [Bool.and_eq_true,decide_eq_true_eq,decide_eq_true_eq] at hs2;obtain ⟨e1,e2⟩:=hs2;refine ⟨j,o,hlt,hj,?_,by rw [e1];exact h28,?_⟩
   ·unfold oneT at hb ⊢;rw [e1,e2];dsimp only at hb ⊢
    repeat' split at hb
    all_goals first | (cases hb;done) | simp_all
   ·unfold keyB;rw [e1,e2]
theorem const_form:(match formOf 43 with | some f=>f.ty | none=>false)=true:=by decide +kernel
theorem const_part:partOf 43=7:=by decide +kernel
theorem const_ahead {L:List InstI} {bound:Int} (hs:∀ i∈L,(rawR i bound).1=0) (hid:∀ j i,L[j]?=some i→idD L j i=0) {j:Nat} {i:InstI} (hi:L[j]?=some i) (ho:i.1=43):∃ m,m<j∧resD L m=i.2.1:=by
 have hmem:=List.mem_of_getElem? hi;obtain ⟨f,hf⟩:=rawR_ok (hs i hmem);have hty:i.2.1≠0:=by
  have h1:=const_form;rw [← ho,hf.form] at h1;have h2:=hf.ty;rw [show f.ty=true from h1] at h2
  simpa using h2.symm
 have h1:=hid j i hi;unfold idD at h1
 split at h1
 ·cases h1
 split at h1
 ·cases h1
 split at h1
 ·cases h1
 rename_i _ _ h3
 have hp:partAt L j=7:=by
  rw [partAt_at hi];unfold partI variableB;rw [ho];exact const_part
 rw [decide_eq_true hp,Bool.true_and,List.any_eq_true] at h3;have h4:¬ makD L i.2.1 j<0:=fun hc=>h3 ⟨i.2.1,by unfold idsOf;rw [if_neg hty];exact List.mem_append_left _ List.mem_cons_self,decide_eq_true hc⟩
 unfold makD at h4;cases hm:madeR L 0 i.2.1 with
 | none=>rw [hm] at h4;exact absurd (show (-1:Int)<0 by decide) h4
 | some m =>
  rw [hm] at h4;dsimp only at h4
  by_cases hlt:m<j
  ·obtain ⟨k,e,-,hh⟩:=madeR_hit hm;unfold hitD at hh;rw [Bool.and_eq_true,decide_eq_true_eq] at hh;exact ⟨m,hlt,by rw [e,Nat.zero_add];exact hh.1⟩
  ·rw [if_neg hlt] at h4;exact absurd (show (-1:Int)<0 by decide) h4
theorem frstD_found {L:List InstI} {id:Int}:∀ {n m:Nat},m<n→resD L m=id→∃ j,frstD L id n=some j
 | 0,m,h,_=>absurd h (Nat.not_lt_zero m)
 | n+1,m,h,hm=>by
  show ∃ j,(match frstD L id n with | some j=>some j | none=>if resD L n=id then some n else none)=some j
  cases hf:frstD L id n with
  | some j=>exact ⟨j,rfl⟩
  | none =>
   by_cases e:m=n
   ·subst e;exact ⟨m,by dsimp only;rw [if_pos hm]⟩
   ·obtain ⟨j,hj⟩:=frstD_found (n:=n) (show m<n by omega) hm
    rw [hf] at hj;cases hj
theorem NewI.length {L:List InstI} {bound:Int} (hs:∀ i∈L,(rawR i bound).1=0) (hid:∀ j i,L[j]?=some i→idD L j i=0) (hu:∀ i∈L,0≤firstN i) {k:Nat} {s:StN} (h:NewI L k s) {y:Int} (hy:y≠0) :
  lenD s.T L y k=if (s.M y).1≠43∨(s.T (s.M y).2.1).kind≠3∨firstN (s.M y)<1∨4096<firstN (s.M y) then 0 else firstN (s.M y):=by
 rw [h.mad y hy];unfold lenD madI;cases hf:frstD L y k with
 | none=>exact (if_pos (.inl (show (0:Int)≠43 by decide))).symm
 | some j =>
  dsimp only;obtain ⟨hj,-,-⟩:=frstD_some hf
  rcases Option.eq_none_or_eq_some L[j]? with hat | ⟨i,hat⟩
  ·simp only [hat,Option.getD_none];exact (if_pos (.inl (show (0:Int)≠43 by decide))).symm
  ·simp only [hat,Option.getD_some];unfold lenI
   by_cases h43:i.1=43
   ·obtain ⟨m,hm,hr⟩:=const_ahead hs hid hat h43;obtain ⟨j',hj'⟩:=frstD_found hm hr;have hk:kindA s.T L i.2.1 j=(s.T i.2.1).kind:=by unfold kindA;rw [hj']
    rw [hk];have h0:=hu i (List.mem_of_getElem? hat)
    by_cases h3:(s.T i.2.1).kind=3
    ·by_cases h4:4096<firstN i
     ·rw [if_pos (.inr (.inr h4)),if_pos (.inr (.inr (.inr h4)))]
     ·rw [if_neg (by rintro (hh | hh | hh);exact hh h43;exact hh h3;exact h4 hh)]
      by_cases h1:firstN i<1
      ·rw [if_pos (.inr (.inr (.inl h1)))];omega
      ·rw [if_neg (by rintro (hh | hh | hh | hh);exact hh h43;exact hh h3;exact h1 hh;exact h4 hh)]
    ·rw [if_pos (.inr (.inl h3)),if_pos (.inr (.inl h3))]
   ·rw [if_pos (.inl h43),if_pos (.inl h43)]
theorem no_types:([22,24,25,26,27,29,31].all fun op=>(formOf op).isNone)=true:=by decide +kernel
theorem is_type {i:InstI} {bound:Int} (h:(rawR i bound).1=0) (T:Int→TyI) (M:Int→InstI):(oneT T M i).2.1=(decide (19≤i.1)&&decide (i.1≤33)):=by
 obtain ⟨f,hf⟩:=rawR_ok h;have h1:=no_types;rw [List.all_eq_true] at h1;have hno:∀ op∈[(22:Int),24,25,26,27,29,31],i.1≠op:=fun op ho e=>by
  have:=h1 op ho;rw [← e,hf.form] at this;cases this
 rw [Bool.eq_iff_iff,Bool.and_eq_true,decide_eq_true_eq,decide_eq_true_eq]
 constructor
 ·intro hb;have:=oneT_op hb;simp only [List.mem_cons,List.not_mem_nil,or_false] at this;omega
 ·rintro ⟨h2,h3⟩;have a1:=hno 22 (by simp)
  have a2:=hno 24 (by simp)
  have a3:=hno 25 (by simp)
  have a4:=hno 26 (by simp)
  have a5:=hno 27 (by simp)
  have a6:=hno 29 (by simp)
  have a7:=hno 31 (by simp)
  have hc:i.1=19∨i.1=20∨i.1=21∨i.1=23∨i.1=28∨i.1=30∨i.1=32∨i.1=33:=by omega
  unfold oneT;dsimp only
  rcases hc with h | h | h | h | h | h | h | h <;> rw [h] <;> rfl
end
section
open Go.RowKit
theorem slRt:SliceOf Tryz.prog 184 188 (.agg #[.int .u32 0,.int .u8 0,.bool false,.int .u32 0,.slice none 0 0]) 5 40:=⟨Tryz.underlying184,by kernel_rfl,rfl,by decide⟩
theorem own_two_ne {w:World} {b1 b2 s1 s2 n1 n2:Nat} {e1 e2:TypeId} {v1 v2:Value} {xs1 xs2:List Value} (h1:w.ownsRow b1 e1 s1 v1 n1 xs1) (h2:w.ownsRow b2 e2 s2 v2 n2 xs2) (hne:e1≠e2):∀ g,v2.ownBlock=some g→v1.ownBlock≠some g:=by
 intro g hg
 rcases h2.2 with ⟨rfl,_⟩ | ⟨g',cap,cur,rfl,_,hh,_⟩
 ·simp [Value.ownBlock] at hg
 ·have e:g'=g:=by simpa [Value.ownBlock] using hg
  subst e;exact own_blk_ne (t:=e2) h1 hh hne
structure RtG (wx W:World) (T:Int→TyI) (ord:List Int) (A:Option Addr) (n c:Nat) (es:List RtE):Prop where
 blk:Blk W wx.heap.size 186 #[.slice A n c]
 own:W.ownsRow (wx.heap.size+1) 188 5 (.slice A n c) n (RtC T es)
 ids:es.map (·.1)=ord
 parts:∀ e∈es,W.ownsRow (wx.heap.size+1) 22 1 (.slice e.2.1 e.2.2.1 e.2.2.2) e.2.2.1 (Ints .u32 (rparts (T e.1)))
 below:Below wx.heap.size wx W
 size:wx.heap.size+1≤W.heap.size
section
variable {wx W W' w3:World} {T T':Int→TyI} {ord:List Int} {A A':Option Addr} {n c c':Nat} {es:List RtE}
theorem RtG.new (wx:World) (T:Int→TyI):RtG wx (wx.alloc (.cells #[.slice none 0 0] 186)) T [] none 0 0 [] :=
 ⟨Blk.new wx _ _,World.ownsRow_nil _ _ _ _,rfl,fun e he=>(by cases he),(Below.refl _ _).alloc (Nat.le_refl _) _,by simp⟩
theorem RtG.step (h:RtG wx W T ord A n c es) (hb:Below W.heap.size W W'):RtG wx W' T ord A n c es :=
 ⟨h.blk.step hb,own_below h.own hb,h.ids,fun e he=>own_below (h.parts e he) hb,below_cut h.below hb (Nat.le_refl _),Nat.le_trans h.size hb.size⟩
theorem RtG.tabA (h:RtG wx W T ord A n c es) (hn:n≤7100000000000):RTabA W wx.heap.size T ord A n c es :=
 ⟨h.blk.cell 0,Reads.of_own h.own,h.ids,hn,fun e he=>⟨Reads.of_own (h.parts e he),own_cap (h.parts e he)⟩⟩
theorem RtG.tab (h:RtG wx W T ord A n c es) (hn:n≤7100000000000):RTab W (some ⟨wx.heap.size,0,none⟩) T ord:=.inr ⟨_,_,_,_,_,rfl,h.tabA hn⟩
theorem RtG.mid (h:RtG wx W T ord A n c es) {o:Obj} (hg:(W.alloc o).grownBy w3 (Value.slice A n c).ownBlock):w3.cell? ⟨wx.heap.size,0,none⟩=some (.slice A n c)∧w3.frozen? ⟨wx.heap.size,0,none⟩=false:=by
 have k:=(h.blk.alloc o).grown hg (Ne.symm (own_ne_low h.own (by omega)))
 exact ⟨k.cell 0,k.frozen 0⟩
theorem RtG.put (h:RtG wx W T ord A n c es) {o:Obj} (hg:(W.alloc o).grownBy w3 (Value.slice A n c).ownBlock) {id:Int} {s:SlI} {x:TyI} (hid:id ∉ ord) (hT:∀ y,T' y=if y=id then x else T y) (hp:W.ownsRow (wx.heap.size+1) 22 1 (.slice s.1 s.2.1 s.2.2) s.2.1 (Ints .u32 (rparts x)))
  (ho:w3.ownsRow (wx.heap.size+1) 188 5 (.slice A' (n+1) c') (n+1) (RtC T es++[.int .u32 id,.int .u8 x.kind,.bool x.signed,.int .u32 x.cls,.slice s.1 s.2.1 s.2.2])) :
  RtG wx (w3.setCell ⟨wx.heap.size,0,none⟩ (.slice A' (n+1) c')) T' (ord++[id]) A' (n+1) c' (es++[(id,s)]):=by
 have hs:=h.size;have k:=(h.blk.alloc o).grown hg (Ne.symm (own_ne_low h.own (by omega)))
 have hTe:∀ e∈es,T' e.1=T e.1:=fun e he=>by
  rw [hT,if_neg];rintro rfl;exact hid (by rw [← h.ids];exact List.mem_map_of_mem he)
 have hTi:T' id=x:=by rw [hT,if_pos rfl]
 have hkeep:∀ {v:Value} {m:Nat} {l:List Value},W.ownsRow (wx.heap.size+1) 22 1 v m l→(w3.setCell ⟨wx.heap.size,0,none⟩ (.slice A' (n+1) c')).ownsRow (wx.heap.size+1) 22 1 v m l:=fun {v m l} hv=>by
  have h1:=hv.alloc o;have h2:w3.ownsRow (wx.heap.size+1) 22 1 v m l:=by
   cases hb:(Value.slice A n c).ownBlock with
   | none=>rw [hb] at hg;exact h1.kept hg (by cases hvb:v.ownBlock <;> simp)
   | some g=>rw [hb] at hg;exact h1.kept hg (.inr (own_two_ne hv h.own (by decide) g hb))
  exact own_set_other h2 (p:=⟨wx.heap.size,0,none⟩) (own_ne_low h2 (by show wx.heap.size<_;omega)) _
 refine ⟨by simpa using k.set_ 0 (.slice A' (n+1) c'),?_,by rw [List.map_append,h.ids];rfl,fun e he=>?_,?_,?_⟩
 ·rw [RtC_append];dsimp only;rw [RtC_congr hTe,hTi];exact own_set_other ho (p:=⟨wx.heap.size,0,none⟩) (own_ne_low ho (by show wx.heap.size<_;omega)) _
 ·rcases List.mem_append.1 he with he | he
  ·rw [hTe e he];exact hkeep (h.parts e he)
  ·rw [List.mem_singleton] at he;subst he;dsimp only;rw [hTi];exact hkeep hp
 ·exact ((h.below.alloc (by omega) o).grown hg (by rw [World.size_alloc];omega) (fun j hj=>by have:=(h.own.lt j hj).1;omega)).setCell (p:=⟨wx.heap.size,0,none⟩) (Nat.le_refl _) _
 ·have:=hg.size;rw [World.size_alloc] at this
  show _≤(w3.setCell ⟨wx.heap.size,0,none⟩ (.slice A' (n+1) c')).heap.size
  simp
  omega
end
theorem RtG.tab_set {wx W:World} {T:Int→TyI} {ord:List Int} {A:Option Addr} {n c g:Nat} {es:List RtE} (h:RtG wx W T ord A n c es) (hn:n≤7100000000000) (hg:g<wx.heap.size) (u v:Value) :
  RTab ((W.setCell ⟨g,0,none⟩ u).setCell ⟨g,1,none⟩ v) (some ⟨wx.heap.size,0,none⟩) T ord:=by
 have hk:∀ {t:TypeId} {s m:Nat} {x:Value} {l:List Value},W.ownsRow (wx.heap.size+1) t s x m l→((W.setCell ⟨g,0,none⟩ u).setCell ⟨g,1,none⟩ v).ownsRow (wx.heap.size+1) t s x m l:=fun ho =>
  own_set_other (p:=⟨g,1,none⟩) (own_set_other (p:=⟨g,0,none⟩) ho (own_ne_low ho (show g<wx.heap.size+1 by omega)) u) (own_ne_low ho (show g<wx.heap.size+1 by omega)) v
 have kb:=(h.blk.far (p:=⟨g,0,none⟩) (show wx.heap.size≠g by omega) u).far (p:=⟨g,1,none⟩) (show wx.heap.size≠g by omega) v
 exact .inr ⟨_,_,_,_,_,rfl,kb.cell 0,Reads.of_own (hk h.own),h.ids,hn,fun e he=>⟨Reads.of_own (hk (h.parts e he)),own_cap (h.parts e he)⟩⟩
theorem RtG.far {wx W:World} {T:Int→TyI} {ord:List Int} {A:Option Addr} {n c gx:Nat} {es:List RtE} {cs:Array Value} (h:RtG wx W T ord A n c es) (kX:Blk W gx 188 cs) (hne:(Value.slice A n c).ownBlock≠some gx) (hgx:wx.heap.size<gx) (i:Nat) (u:Value) :
  RtG wx (W.setCell ⟨gx,i,none⟩ u) T ord A n c es :=
 ⟨h.blk.far (p:=⟨gx,i,none⟩) (show wx.heap.size≠gx by omega) u,own_set_other h.own (p:=⟨gx,i,none⟩) hne u,h.ids,fun e he=>own_set_other (h.parts e he) (p:=⟨gx,i,none⟩) (own_blk_ne (h.parts e he) kX (by decide)) u,
  h.below.setCell (p:=⟨gx,i,none⟩) (show wx.heap.size≤gx by omega) u,by simpa using h.size⟩
theorem shapeR_few {bound:Int}:∀ {l:List InstI} {k:Nat} {left:Int},0≤left→(shapeR bound l k left).1=0→(l.length:Int)≤left
 | [],_,left,h0,_=>h0
 | i :: r,k,left,h0,h=>by
  unfold shapeR at h
  by_cases h1:(rawR i bound).1≠0
  ·rw [if_pos h1] at h;exact absurd h h1
  ·rw [if_neg h1] at h
   by_cases h2:left-(1+(rawR i bound).2.length)<0
   ·rw [if_pos h2] at h;cases h
   ·rw [if_neg h2] at h;have:=shapeR_few (by omega) h
    rw [List.length_cons];omega
theorem ids_few {bound:Int} {l:List InstI} (h:(idsM bound l).1=0):l.length≤1048571:=by
 have h1:(shapeM bound l).1=0:=by
  unfold idsM layM at h
  by_cases hs:(shapeM bound l).1=0
  ·exact hs
  ·rw [if_pos hs,if_pos hs] at h;exact h
 unfold shapeM at h1
 split at h1
 ·cases h1
 ·have:=shapeR_few (by decide) h1
  omega
def RnewG (r:Int × Int × StN) (w:World) (e:Ending) (w':World):Prop :=
 Below w.heap.size w w'∧((r.1=0∧∃ g,e=.returned (.tuple #[.pointer (some ⟨g,0,none⟩),.agg #[.int .i64 0,.int .i64 0]])∧RTab w' (some ⟨g,0,none⟩) r.2.2.T r.2.2.ord) ∨
  (r.1≠0∧e=.returned (.tuple #[.pointer none,.agg #[.int .i64 r.1,.int .i64 r.2.1]])))
theorem rtype_any (op:Int) (w:World):Calls Tryz.prog 119 #[.int .u16 op] w fun e w'=>e=.returned (.bool (decide (19≤op)&&decide (op≤33)))∧w=w':=by
 by_cases h1:19≤op
 ·have d1:decide (op≥19)=true:=decide_eq_true h1;have d2:decide (19≤op)=true:=d1;rw [d2];go_enter Tryz.func119,Tryz.ntmps119;go_wp2_with fail;go_ret
  exact ⟨rfl,rfl⟩
 ·have d1:decide (op≥19)=false:=decide_eq_false h1;have d2:decide (19≤op)=false:=d1;rw [d2];clear d2 h1;go_enter Tryz.func119,Tryz.ntmps119;go_wp2_with fail;go_ret
  exact ⟨rfl,rfl⟩
theorem rnew_bad (gen bound:Int) (ls:List InstA) (A:Option Addr) (n c:Nat) (w:World) (hM:ModS w w.heap.size A n ls) (h0:(idsM bound (ls.map (·.1))).1≠0) :
  Calls Tryz.prog 60 #[.agg (modC gen bound A n c)] w (RnewG (newM bound (ls.map (·.1))) w):=by
 have hv:newM bound (ls.map (·.1))=((idsM bound (ls.map (·.1))).1,(idsM bound (ls.map (·.1))).2,st0):=if_pos h0;rw [hv];clear hv;have hb1:=((Below.refl w.heap.size w).alloc (Nat.le_refl _) (.cells (modC gen bound A n c) 25)).alloc (by simp) (.cells #[.int .i64 0,.int .i64 0] 29)
 have hck:=refIds9_any gen bound ls A n c ((w.alloc (.cells (modC gen bound A n c) 25)).alloc (.cells #[.int .i64 0,.int .i64 0] 29)) (hM.step hb1);have kR:=Blk.new (w.alloc (.cells (modC gen bound A n c) 25)) 29 #[.int .i64 0,.int .i64 0];rw [World.size_alloc] at kR;generalize idsM bound (ls.map (·.1))=r at *;obtain ⟨r1,r2⟩:=r;dsimp only at *;have d0:(r1 != 0)=true:=by simpa using h0
 have k0:=(Blk.new w 25 (modC gen bound A n c)).alloc (.cells #[.int .i64 0,.int .i64 0] 29);unfold modC at *;obtain ⟨j0,j1,j2⟩:=three_ k0;go_enter Tryz.func60,Tryz.ntmps60;go_wp2_with (go_at_call 118;refine hck.mono ?_;rintro e w2 ⟨rfl,hb2⟩;have hb3:=below_cut hb1 hb2 (Nat.le_refl _);have hb4:=hb3.alloc hb3.size (.cells #[.int .i64 r1,.int .i64 r2] 29);have kR2:=kR.step hb2;have kR3:=kR2.alloc (.cells #[.int .i64 r1,.int .i64 r2] 29);have kS:=Blk.new w2 29 #[.int .i64 r1,.int .i64 r2])
 obtain ⟨z0,z1⟩:=two_ kR3;obtain ⟨s0,s1⟩:=two_ kS;have fz:=kR3.frozen;clear hck kR kR2 hb1 hb2 hb3 k0 j0 j1 j2;go_region
 all_goals
  go_wp2_with fail;exact bodyPost_ret (spot_end rfl _ rfl rfl ((spot_put kR3 (.int .i64 r1) (.int .i64 r2)).drew)) rfl ⟨((hb4.setCell (p:=⟨w.heap.size+1,0,none⟩) (Nat.le_succ _) _).setCell (p:=⟨w.heap.size+1,1,none⟩) (Nat.le_succ _) _).drew,.inr ⟨h0,rfl⟩⟩
theorem rnew_ok (gen bound:Int) (ls:List InstA) (A:Option Addr) (n c:Nat) (w:World) (hM:ModS w w.heap.size A n ls) (h0:(idsM bound (ls.map (·.1))).1=0)
  (hu:∀ x∈ls,∀ a∈x.1.2.2.2,0≤a.2.1∧a.2.1<4294967296) (hop:∀ x∈ls,0≤x.1.1∧x.1.1<65536) :
  Calls Tryz.prog 60 #[.agg (modC gen bound A n c)] w (RnewG (newM bound (ls.map (·.1))) w):=by
 have hv:newM bound (ls.map (·.1))=newL st0 ((ls.map (·.1)).drop 0) 0:=if_neg (fun h=>h h0)
 have hlen:=hM.reads.insts_len;have hnb:=hM.len;have hL:(ls.map (·.1)).length=n:=by rw [List.length_map];exact hlen
 have hfew:=ids_few h0;rw [hL] at hfew;have hshape:=ids_shape h0;have honce:=ids_once h0;have hlay:(layM bound (ls.map (·.1))).1=0:=Decidable.byContradiction fun hc=>by rw [idsM_lay hc] at h0;exact hc h0
 have hidD:∀ j i,(ls.map (·.1))[j]?=some i→idD (ls.map (·.1)) j i=0:=fun j i hi=>by
  have h1:=idsM_ok hlay;rw [h1.1] at h0;have h2:=idsR_at h0 j i hi;rw [Nat.zero_add] at h2;rw [idD_eq hi (span7 h1.2 j (List.getElem?_eq_some_iff.1 hi).1)];exact h2
 have hmemL:∀ i∈ls.map (·.1),∃ x∈ls,x.1=i:=fun i hi=>by
  obtain ⟨x,hx,rfl⟩:=List.mem_map.1 hi;exact ⟨x,hx,rfl⟩
 have hun:∀ i∈ls.map (·.1),(∀ a∈i.2.2.2,0≤a.2.1)∧0≤i.1:=fun i hi=>by
  obtain ⟨x,hx,rfl⟩:=hmemL i hi;exact ⟨fun a ha=>(hu x hx a ha).1,(hop x hx).1⟩
 have hfn:∀ x∈ls,0≤firstN x.1∧firstN x.1<4294967296:=fun x hx=>by
  unfold firstN
  rcases Nat.eq_zero_or_pos x.1.2.2.2.length with h | h
  ·have:x.1.2.2.2=[]:=List.eq_nil_of_length_eq_zero h;rw [this];exact ⟨by decide,by decide⟩
  ·exact hu x hx _ (ag_mem h)
 have hfnL:∀ i∈ls.map (·.1),0≤firstN i:=fun i hi=>by
  obtain ⟨x,hx,rfl⟩:=hmemL i hi;exact (hfn x hx).1
 have h43:∀ x∈ls,x.1.1=43→0<x.1.2.2.2.length:=fun x hx ho=>args_one (hshape x.1 (List.mem_map_of_mem hx)) ho
 obtain ⟨v,hvv⟩:∃ v,v=newM bound (ls.map (·.1)):=⟨_,rfl⟩;rw [← hvv] at hv ⊢;have HV:=Lib.hid hv;have HSH:=Lib.hid hshape;have HON:=Lib.hid honce;have HID:=Lib.hid hidD;have HUN:=Lib.hid hun;have HFN:=Lib.hid hfn;have HFL:=Lib.hid hfnL;have H43:=Lib.hid h43;have HM:=Lib.hid hM;have HU:=Lib.hid hu;have HL:=Lib.hid hL;have hb1:=((Below.refl w.heap.size w).alloc (Nat.le_refl _) (.cells (modC gen bound A n c) 25)).alloc (by simp) (.cells #[.int .i64 0,.int .i64 0] 29)
 have hck:=refIds9_any gen bound ls A n c ((w.alloc (.cells (modC gen bound A n c) 25)).alloc (.cells #[.int .i64 0,.int .i64 0] 29)) (hM.step hb1);rw [h0] at hck;have kR:=Blk.new (w.alloc (.cells (modC gen bound A n c) 25)) 29 #[.int .i64 0,.int .i64 0];rw [World.size_alloc] at kR;generalize (idsM bound (ls.map (·.1))).2=r2 at *;have k0:=(Blk.new w 25 (modC gen bound A n c)).alloc (.cells #[.int .i64 0,.int .i64 0] 29);clear hv hshape honce hidD hun hfn hfnL h43 hM hu hop hlay hmemL h0 hvv hL;unfold modC at *;obtain ⟨j0,j1,j2⟩:=three_ k0;go_enter Tryz.func60,Tryz.ntmps60;go_upto_region 2 with (go_at_call 118;refine hck.mono ?_;rintro e w2 ⟨rfl,hb2⟩)
 have hb3:=below_cut hb1 hb2 (Nat.le_refl _);have hb4:=hb3.alloc hb3.size (.cells #[.int .i64 0,.int .i64 r2] 29);have kR2:=(kR.step hb2).alloc (.cells #[.int .i64 0,.int .i64 r2] 29);have k02:=(k0.step hb2).alloc (.cells #[.int .i64 0,.int .i64 r2] 29);have kS:=Blk.new w2 29 #[.int .i64 0,.int .i64 r2];obtain ⟨s0,s1⟩:=two_ kS;clear hck kR hb1 hb2 hb3 k0 j0 j1 j2;generalize (w2.alloc (.cells #[.int .i64 0,.int .i64 r2] 29))=WX at *;generalize w2.heap.size=gs at *;have hG:=RtG.new WX st0.T;go_wp2_with fail;clear s0 s1 kS;go_loopg [6,7,8] n (fun q i u e wr=>∃ (k m:Nat) (s:StN) (A':Option Addr) (c':Nat) (es:List RtE),k+q=n∧i=.int .i64 (k:Nat)∧m≤k∧Hid (NewI (ls.map (·.1)) k s)∧Hid (v=newL s ((ls.map (·.1)).drop k) k)∧RtG WX wr s.T s.ord A' m c' es)
 case atStart=>exact ⟨0,0,st0,none,0,[],by omega,rfl,Nat.le_refl _,Lib.hid (NewI.st0 _),HV,hG⟩
 case round =>
  obtain ⟨k,m,s,A',c',es,hq,rfl,hmk,HI,HS,hg⟩:=hrel;have hbg:=hg.below;have hbw:=below_cut hb4 hbg (Nat.le_refl _);have k0r:=k02.step hbg;have kRr:=kR2.step hbg;obtain ⟨j0,j1,j2⟩:=three_ k0r
  by_cases hlt:k<n
  ·have hMr:=HM.out.step hbw;have hat:(ls.map (·.1))[k]?=some (ig ls k).1:=ig_map (by omega)
   have hmem:=ig_mem (l:=ls) (k:=k) (by omega)
   have hmemL:=List.mem_of_getElem? hat;have hrw:=HSH.out _ hmemL;have his:=is_type hrw s.T s.M;have hst:=HS.out.trans (newL_step hat);have hnx:=fun hE=>HI.out.next HSH.out HON.out hat hE
   have hY:=HI.out.well.typed;have htab:=hg.tab (show m≤7100000000000 by omega)
   obtain ⟨mb,mo,hMA,hmb,hcc⟩:=hMr.reads.insts (by omega)
   obtain ⟨c0,c1,c2,c3⟩:=hcc k hlt;have hlt2:((k:Nat):Int)<(n:Int):=by omega
   subst hMA;have HST:=Lib.hid hst;have HNX:=Lib.hid hnx;clear hcc hst hnx HS
   by_cases hb:(oneT s.T s.M (ig ls k).1).2.1=true
   case neg =>
    have hb:(oneT s.T s.M (ig ls k).1).2.1=false:=by simpa using hb
    have hE:errN s (ig ls k).1=0:=errN_no hb;have hg2:RtG WX wr (nextN s (ig ls k).1).T (nextN s (ig ls k).1).ord A' m c' es:=by
     have e1:(nextN s (ig ls k).1).T=s.T:=by unfold nextN;dsimp only;rw [if_neg (by rw [hb];decide)]
     have e2:(nextN s (ig ls k).1).ord=s.ord:=by unfold nextN;dsimp only;rw [if_neg (by rw [hb];decide)]
     rw [e1,e2];exact hg
    have HS2:=Lib.hid (HST.out.trans (if_neg (fun h=>h hE)))
    have HI2:=Lib.hid (HNX.out hE);have HG2:=Lib.hid hg2;rw [hb] at his;clear hE hb HST HNX HI hg hg2 hY htab hrw hMr hmem hmemL hat;have hisT:=fun (w':World)=>rtype_any (ig ls k).1.1 w'
    rw [← his] at hisT;clear his;generalize (ig ls k).1.1=op at *;go_wp2_with (go_at_call 119;refine (hisT _).mono ?_;rintro e w3 ⟨rfl,rfl⟩)
    go_roundg (n-(k+1))
    case measure=>omega
    case rel=>exact ⟨k+1,m,_,A',c',es,by omega,by go_num,by omega,HI2,HS2,HG2.out⟩
   have hal:=(hMr.ok _ hmem).reads.args_len;have hone:=fun w' (hbx:Below wr.heap.size wr w') (hkw:(k:Nat)<n)=>rone_any (some ⟨WX.heap.size,0,none⟩) s.T s.ord hY HI.out.zero HI.out.well.out gen bound ls (some ⟨mb,mo,none⟩) n c k s.M w' (htab.step hbx) (hMr.step hbx) hkw H43.out HFN.out hb (fun ho=>args_two hrw ho) (Nat.le_of_lt (rawR_args hrw)) (fun j=>by
    unfold ixn
    rcases Nat.lt_or_ge j (nums (ig ls k).1.2.2.2).length with h | h
    ·have h1:j<(ig ls k).1.2.2.2.length:=by rw [nums_len] at h;exact h
     have h2:=HU.out _ hmem _ (ag_mem h1);have h3:=nums_getD h1;unfold ixn at h3;rw [h3];exact h2
    ·rw [List.getD_eq_getElem?_getD,List.getElem?_eq_none h];exact ⟨by decide,by decide⟩) (fun ho=>by
    obtain ⟨f,hf⟩:=rawR_ok hrw;have h2:=ptr_form;have h3:=hf.form;rw [ho] at h3;rw [h3] at h2;simp only [Bool.and_eq_true,decide_eq_true_eq] at h2;rw [hf.len_eq h2.1.1.2];exact h2.1.1.1) (fun ho=>by
    obtain ⟨f,hf⟩:=rawR_ok hrw;have h2:2≤(ig ls k).1.2.2.2.length:=args_two hrw (.inr (.inr (.inl ho)));have h3:=hf.all_ids (by rw [ho];decide) _ (ag_mem (show 1<(ig ls k).1.2.2.2.length by omega))
    have h4:=(argE_ok (hf.args 1 (by omega))).2.2.2.1 h3
    refine HI.out.length HSH.out HID.out HFL.out ?_;rw [nums_getD (show 1<(ig ls k).1.2.2.2.length by omega)]
    exact h4.1)
   have hag:=fun w' (hbx:Below wr.heap.size wr w')=>ragain_any gen bound ls (some ⟨mb,mo,none⟩) n c k w' (hMr.step hbx) hlt
   rw [← HI.out.again HSH.out HUN.out hat hb] at hag;have hres:(ig ls k).1.2.2.1 ∉ s.ord:=fun hin=>by
    obtain ⟨f,hf⟩:=rawR_ok hrw;obtain ⟨-,j,i',hj,hji,he⟩:=HI.out.ids _ hin;exact HON.out j k i' _ hji hat hj (hf.res_ne (oneT_op hb)) he
   rw [hb] at his;have hisT:=fun (w':World)=>rtype_any (ig ls k).1.1 w'
   rw [← his] at hisT;have hEr:errN s (ig ls k).1=if (oneT s.T s.M (ig ls k).1).2.2=0∧(againR s.R (ig ls k).1).1=true then 101 else (oneT s.T s.M (ig ls k).1).2.2:=by
    unfold errN;dsimp only
    by_cases h1:(oneT s.T s.M (ig ls k).1).2.2=0∧(againR s.R (ig ls k).1).1=true
    ·rw [if_pos ⟨hb,h1⟩,if_pos h1]
    ·rw [if_neg (fun h=>h1 h.2),if_neg h1]
   have hnT:∀ y,(nextN s (ig ls k).1).T y=if y=(ig ls k).1.2.2.1 then (oneT s.T s.M (ig ls k).1).1 else s.T y:=fun y=>by
    unfold nextN;dsimp only;rw [if_pos hb]
   have hnO:(nextN s (ig ls k).1).ord=s.ord++[(ig ls k).1.2.2.1]:=by
    unfold nextN;dsimp only;rw [if_pos hb]
   generalize errN s (ig ls k).1=er at *;have HER:=Lib.hid hEr;have HNT:=Lib.hid hnT;have HNO:=Lib.hid hnO;have HHAG:=Lib.hid hag;have HONE:=Lib.hid hone;clear hEr hnT hnO hag hone hb his hrw hMr hmem hmemL hat hY htab HI;generalize nextN s (ig ls k).1=s2 at *;generalize (oneT s.T s.M (ig ls k).1).2.2=e1 at *;generalize (oneT s.T s.M (ig ls k).1).1=x at *;generalize (againR s.R (ig ls k).1).1=ag1 at *;generalize (ig ls k).1.1=op at *;generalize hre:(ig ls k).1.2.2.1=res at *;have HRE:=Lib.hid hre;clear hre;generalize (ig ls k).1.2.1=ty at *;have h1:=HONE.out wr (Below.refl _ _) hlt;unfold RoneIs rtV modC at h1;go_upto_region 10 with (first | (go_at_call 119;refine (hisT _).mono ?_;rintro e w3 ⟨rfl,rfl⟩) | (go_at_call 120;refine h1.mono ?_;rintro e w4 ⟨y,sl,rfl,ho,hb5⟩))
   have hs4:=hb5.size;have hbx:=(Below.refl w4.heap.size w4).alloc (Nat.le_refl _) (.cells #[.int .u32 0,.int .u8 y.kind,.bool y.signed,.int .u32 y.cls,.slice sl.1 sl.2.1 sl.2.2] 188);have kX:=Blk.new w4 188 #[.int .u32 0,.int .u8 y.kind,.bool y.signed,.int .u32 y.cls,.slice sl.1 sl.2.1 sl.2.2];have hb6:=below_cut hb5 hbx (Nat.le_refl _);have k06:=k0r.step hb6;have kR6:=kRr.step hb6;have hg6:=hg.step hb6;have hbw6:=below_cut hbw hb6 (Nat.le_refl _);have hsx:w4.heap.size<(w4.alloc (.cells #[.int .u32 0,.int .u8 y.kind,.bool y.signed,.int .u32 y.cls,.slice sl.1 sl.2.1 sl.2.2] 188)).heap.size:=by simp
   have hox:e1=0→y.kind=x.kind∧y.signed=x.signed∧y.cls=x.cls∧(w4.alloc (.cells #[.int .u32 0,.int .u8 y.kind,.bool y.signed,.int .u32 y.cls,.slice sl.1 sl.2.1 sl.2.2] 188)).ownsRow (WX.heap.size+1) 22 1 (.slice sl.1 sl.2.1 sl.2.2) sl.2.1 (Ints .u32 (rparts x)):=fun h=>by
    obtain ⟨a1,a2,a3,a4⟩:=ho h;exact ⟨a1,a2,a3,own_base (own_below a4 hbx) hg.size⟩
   have HOX:=Lib.hid hox;have hnr:=fun g' (hg':wr.heap.size≤g')=>own_ne_high hg.own hg'
   have hsz0:=hg.size;clear ho hox h1 hisT j0 j1 j2 c0 c1 c2 c3 HONE hg kRr k0r;generalize (w4.alloc (.cells #[.int .u32 0,.int .u8 y.kind,.bool y.signed,.int .u32 y.cls,.slice sl.1 sl.2.1 sl.2.2] 188))=W6 at *;generalize w4.heap.size=gx at *
   by_cases he:e1=0
   case neg =>
    have d1:(e1==0)=false:=by simpa using he
    have d2:(e1 != 0)=true:=by simpa using he
    have hve:=HER.out.trans (if_neg (fun h=>he h.1))
    obtain rfl:=HST.out.trans (if_pos (by rw [hve];exact he))
    subst hve;obtain ⟨r0,r1⟩:=two_ kR6;have fz:=kR6.frozen;clear HER HST HNX HOX HHAG HV;go_wp2_with fail;exact bodyPost_ret (spot_end rfl _ rfl rfl (spot_put kR6 _ _)) rfl ⟨below_spot hbw6 (by omega) _ _,.inr ⟨he,rfl⟩⟩
   subst he;obtain ⟨a1,a2,a3,a4⟩:=HOX.out rfl;rw [a1,a2,a3] at kX;have h2:=HHAG.out W6 hb6;unfold modC at h2;obtain ⟨j0,j1,j2⟩:=three_ k06;have HA4:=Lib.hid a4;clear a1 a2 a3 a4 HOX HHAG;cases ag1 with
   | true =>
    have hve:er=101:=HER.out.trans (if_pos ⟨rfl,rfl⟩);subst hve;obtain rfl:=HST.out.trans (if_pos (by decide))
    clear HER HST HNX HV HA4;go_upto_region 12 with (go_at_call 121;refine h2.mono ?_;rintro e w7 ⟨rfl,hb7⟩)
    have kR7:=kR6.step hb7;have hbw7:=below_cut hbw6 hb7 (Nat.le_refl _);obtain ⟨r0,r1⟩:=two_ kR7;have fz:=kR7.frozen;go_wp2_with fail;exact bodyPost_ret (spot_end rfl _ rfl rfl (spot_put kR7 _ _)) rfl ⟨below_spot hbw7 (by omega) _ _,.inr ⟨(by show (101:Int)≠0;decide),rfl⟩⟩
   | false =>
    have hve:er=0:=HER.out.trans (if_neg (fun h=>by cases h.2))
    subst hve;have HI2:=Lib.hid (HNX.out rfl);have HS2:=Lib.hid (HST.out.trans (if_neg (fun h=>h rfl)))
    clear HER HST HNX;go_upto_region 12 with (go_at_call 121;refine h2.mono ?_;rintro e w7 ⟨rfl,hb7⟩)
    have k07:=k06.step hb7;have kX7:=kX.step hb7;have hg7:=hg6.step hb7;have ha7:=own_below HA4.out hb7;have hbw7:=below_cut hbw6 hb7 (Nat.le_refl _);obtain ⟨mb',mo',hMA,-,hcc⟩:=(HM.out.step hbw7).reads.insts (by omega)
    cases hMA
    obtain ⟨-,-,c2,-⟩:=hcc k hlt;rw [HRE.out] at c2;have hgx1:wr.heap.size≤gx:=hs4;have hgx2:WX.heap.size<gx:=by omega
    have hnx:(Value.slice A' m c').ownBlock≠some gx:=hnr gx hgx1;clear hcc j0 j1 j2 h2 HA4 k06 kX hg6;obtain ⟨j0,j1,j2⟩:=three_ k07;obtain ⟨x0,x1,x2,x3,x4⟩:=five_ kX7;have fx:=kX7.frozen;have hg8:=hg7.far kX7 hnx hgx2 0 (.int .u32 res);have ha8:=own_set_other ha7 (p:=⟨gx,0,none⟩) (own_blk_ne ha7 kX7 (by decide)) (.int .u32 res)
    have kX8:Blk (w7.setCell ⟨gx,0,none⟩ (.int .u32 res)) gx 188 #[.int .u32 res,.int .u8 x.kind,.bool x.signed,.int .u32 x.cls,.slice sl.1 sl.2.1 sl.2.2]:=by simpa using kX7.set_ 0 (.int .u32 res)
    go_upto_region 15 with fail
    clear x0 x1 x2 x3 x4 fx kX7 hg7 ha7 j0 j1 j2 k07 hbw7 c2 hb7;generalize (w7.setCell ⟨gx,0,none⟩ (.int .u32 res))=W8 at *;obtain ⟨x0,x1,x2,x3,x4⟩:=five_ kX8;have t0:W8.cell? ⟨WX.heap.size,0,none⟩=some (.slice A' m c'):=hg8.blk.cell 0;have b0:=fun o=>(five_ (kX8.alloc o)).1
    have b1:=fun o=>(five_ (kX8.alloc o)).2.1
    have b2:=fun o=>(five_ (kX8.alloc o)).2.2.1
    have b3:=fun o=>(five_ (kX8.alloc o)).2.2.2.1
    have b4:=fun o=>(five_ (kX8.alloc o)).2.2.2.2
    have bt:=fun o=>(hg8.blk.alloc o).cell 0
    simp at bt;have hs8:=hg8.size;have ho:=hg8.own;have hgd:=hg8.step (Below.refl W8.heap.size W8).drew;have hlit:=Reads.litN W8.drew #[.int .u32 res,.int .u8 x.kind,.bool x.signed,.int .u32 x.cls,.slice sl.1 sl.2.1 sl.2.2] 188 5 1 5 rfl rfl (by omega)
    go_region_law (first
     | (refine step_ap_any slRt (W8.drew.alloc (.cells #[.int .u32 res,.int .u8 x.kind,.bool x.signed,.int .u32 x.cls,.slice sl.1 sl.2.1 sl.2.2] 188)) rfl _ _ rfl (WX.heap.size+1) _ _ _ rfl (ho.drew.alloc _) _ _ 1 1 [.int .u32 res,.int .u8 x.kind,.bool x.signed,.int .u32 x.cls,.slice sl.1 sl.2.1 sl.2.2] rfl hlit (by simp [Value.oneCell']) (by omega) (by omega) (by rw [World.size_alloc];exact Nat.le_succ_of_le hs8) ?_;intro A9 c9 w9 ho9 hg9;obtain ⟨p4,f4⟩:=hgd.mid hg9))
    all_goals
     have hgn:=hgd.put hg9 hres HNT.out ha8.drew ho9;rw [← HNO.out] at hgn;go_wp2_with fail;go_roundg (n-(k+1))
     case measure=>omega
     case rel=>exact ⟨k+1,m+1,s2,A9,c9,_,by omega,by go_num,by omega,HI2,HS2,hgn⟩
  ·obtain rfl:k=n:=by omega
   have hv1:=HS.out;rw [List.drop_of_length_le (by rw [HL.out];exact Nat.le_refl _)] at hv1
   obtain rfl:v=(0,0,s):=hv1;obtain ⟨r0,r1⟩:=two_ kRr;have fz:=kRr.frozen;have hgl:w.heap.size+1<WX.heap.size:=kR2.lt;clear HS HV HI;go_wp2_with fail;refine bodyPost_ret (spot_end rfl _ rfl rfl (spot_put kRr (.int .i64 0) (.int .i64 0))) rfl ⟨below_spot hbw (by omega) _ _,.inl ⟨rfl,WX.heap.size,rfl,hg.tab_set (by omega) hgl _ _⟩⟩
theorem rnew_any (gen bound:Int) (ls:List InstA) (A:Option Addr) (n c:Nat) (w:World) (hM:ModS w w.heap.size A n ls)
  (hu:∀ x∈ls,∀ a∈x.1.2.2.2,0≤a.2.1∧a.2.1<4294967296) (hop:∀ x∈ls,0≤x.1.1∧x.1.1<65536) :
  Calls Tryz.prog 60 #[.agg (modC gen bound A n c)] w (RnewG (newM bound (ls.map (·.1))) w):=by
 by_cases h0:(idsM bound (ls.map (·.1))).1=0
 ·exact rnew_ok gen bound ls A n c w hM h0 hu hop
 ·exact rnew_bad gen bound ls A n c w hM h0
end
section
open Go.RowKit
noncomputable def tT (r:Int × Int × StN):Int→TyI:=if r.1=0 then r.2.2.T else fun _=>ty0
noncomputable def tO (r:Int × Int × StN):List Int:=if r.1=0 then r.2.2.ord else []
structure TabsOk (T:Int→TyI) (ord:List Int):Prop where
 ty:Typed T
 zero:T 0=ty0
 out:∀ id,id ∉ ord→T id=ty0
 kind:∀ id,id∈ord→1≤(T id).kind∧(T id).kind≤8
 few:ord.length≤7100000000000
theorem newL_zero:∀ {l:List InstI} {s:StN} {k:Nat},(newL s l k).1=0→(newL s l k).2.1=0
 | [],_,_,_=>rfl
 | i :: r,s,k,h=>by
  unfold newL at h ⊢
  by_cases h0:errN s i≠0
  ·rw [if_pos h0] at h;exact absurd h h0
  ·rw [if_neg h0] at h ⊢;exact newL_zero h
theorem newM_zero {bound:Int} {l:List InstI} (h:(newM bound l).1=0):(newM bound l).2.1=0:=by
 unfold newM at h ⊢
 by_cases h0:(idsM bound l).1≠0
 ·rw [if_pos h0] at h;exact absurd h h0
 ·rw [if_neg h0] at h ⊢;exact newL_zero h
theorem newM_ids {bound:Int} {l:List InstI} (h:(newM bound l).1=0):(idsM bound l).1=0:=by
 unfold newM at h
 by_cases h0:(idsM bound l).1≠0
 ·rw [if_pos h0] at h;exact absurd h h0
 ·exact Decidable.not_not.1 h0
theorem nodup_few:∀ {o:List Int} {l:List Int},o.Nodup→(∀ x∈o,x∈l)→o.length≤l.length
 | [],_,_,_=>Nat.zero_le _
 | a :: o,l,h1,h2=>by
  have ha:=h2 a List.mem_cons_self;rw [List.nodup_cons] at h1;have ih:=nodup_few (l:=l.erase a) h1.2 (fun x hx=>(List.mem_erase_of_ne (show x≠a from fun e=>h1.1 (by rw [← e];exact hx))).2 (h2 x (List.mem_cons_of_mem _ hx)))
  rw [List.length_erase_of_mem ha] at ih;have:=List.length_pos_of_mem ha;rw [List.length_cons];omega
theorem tabs_ok (bound:Int) (l:List InstI) (hl:l.length≤7100000000000):TabsOk (tT (newM bound l)) (tO (newM bound l)):=by
 unfold tT tO
 by_cases h0:(newM bound l).1=0
 ·rw [if_pos h0,if_pos h0];have hw:=newM_well (bound:=bound) (l:=l) (at_:=(newM bound l).2.1) (s:=(newM bound l).2.2) (by rw [← h0])
  have hi:=newM_ids h0;generalize hs:(newM bound l).2.2=s at *;refine ⟨hw.1.typed,hw.1.out 0 (fun hc=>hw.2 0 hc rfl),hw.1.out,fun id hid=>?_,?_⟩
  ·obtain ⟨j,hj,rfl⟩:=List.getElem_of_mem hid;exact (hw.1.made j hj).kind
  ·have hm:newM bound l=newL st0 l 0:=if_neg (fun h=>h hi)
   have hres:∀ id∈s.ord,id∈l.map (·.2.2.1):=fun id hid=>by
    have h2:=(newL_well (ids_shape hi) (ids_once hi) (l.length) 0 st0 s ((newM bound l).2.1) (by omega) (Nat.zero_le _) WellS.st0 (fun id hid=>by cases hid) (by rw [List.drop_zero,← hm,← hs,← h0])).2 id hid
    obtain ⟨-,j,i,-,hji,rfl⟩:=h2;exact List.mem_map_of_mem (List.mem_of_getElem? hji)
   have:=nodup_few hw.1.nodup hres;rw [List.length_map] at this;omega
 ·rw [if_neg h0,if_neg h0];exact ⟨⟨fun _=>.inl rfl,fun _=>⟨Int.le_refl _,(by show (0:Int)≤16;decide)⟩⟩,rfl,fun _ _=>rfl,fun id h=>(by cases h),(by show 0≤7100000000000;decide)⟩
def NewU (T:Int→TyI) (ord:List Int) (a b:Int) (w:World) (e:Ending) (w':World):Prop :=
 Below w.heap.size w w'∧∃ p S,e=.returned (.tuple #[.pointer p,.agg #[.int .i64 a,.int .i64 b]])∧TabW w' p T S∧TabI w' p ord∧((p=none∧a≠0)∨(∃ g,p=some ⟨g,0,none⟩∧a=0))
def RnewU (T:Int→TyI) (ord:List Int) (a b:Int) (w:World) (e:Ending) (w':World):Prop :=
 Below w.heap.size w w'∧∃ p,e=.returned (.tuple #[.pointer p,.agg #[.int .i64 a,.int .i64 b]])∧RTab w' p T ord∧((p=none∧a≠0)∨(∃ g,p=some ⟨g,0,none⟩∧a=0))
theorem newG_u {bound:Int} {l:List InstI} {w w':World} {e:Ending} (h:NewG (newM bound l) w e w'):NewU (tT (newM bound l)) (tO (newM bound l)) (newM bound l).1 (newM bound l).2.1 w e w':=by
 obtain ⟨hb,⟨h0,-,gt,he,S,h1,h2⟩ | ⟨h0,he⟩⟩:=h
 ·have h3:=newM_zero h0;unfold tT tO;rw [if_pos h0,if_pos h0,h0,h3];exact ⟨hb,_,S,he,h1,h2,.inr ⟨gt,rfl,rfl⟩⟩
 ·unfold tT tO;rw [if_neg h0,if_neg h0];exact ⟨hb,none,_,he,TabW.nil _,.inl ⟨rfl,rfl⟩,.inl ⟨rfl,h0⟩⟩
theorem rnewG_u {bound:Int} {l:List InstI} {w w':World} {e:Ending} (h:RnewG (newM bound l) w e w'):RnewU (tT (newM bound l)) (tO (newM bound l)) (newM bound l).1 (newM bound l).2.1 w e w':=by
 obtain ⟨hb,⟨h0,g,he,h1⟩ | ⟨h0,he⟩⟩:=h
 ·have h3:=newM_zero h0;unfold tT tO;rw [if_pos h0,if_pos h0,h0,h3];exact ⟨hb,_,he,h1,.inr ⟨g,rfl,rfl⟩⟩
 ·unfold tT tO;rw [if_neg h0,if_neg h0];exact ⟨hb,none,he,.inl ⟨rfl,rfl⟩,.inl ⟨rfl,h0⟩⟩
theorem spot_eq (a b:Int) (w:World):(Op.equalIn 10000 29 (.agg #[.int .i64 a,.int .i64 b]) (.agg #[.int .i64 a,.int .i64 b])).run Tryz.prog w=.ok true w:=by
 have ub:=Tryz.underlying27;have ui:=Tryz.underlying3;have ab:=Tryz.isAgg27;have ai:=Tryz.isAgg3;have zb:=Tryz.sizeOf27;have zi:=Tryz.sizeOf3;have hS:Tryz.prog.underlying 29=some (.struct (Tryz.prog.fieldsOf 29)):=by kernel_rfl
 have hp:Tryz.prog.stoodInHeld 29=false:=by kernel_rfl
 rw [show (10000:Nat)=9999+1 from rfl,run_equalIn_agg w 9999 29 _ _ hS hp]
 simp only [Program.fieldsOf,Tryz.underlying29];go_simp
theorem spot_guard (op:BinOp) (x y:Operand) (xs ys:Array Value) (w:World):(eqGuard op 29 x y (.agg xs) (.agg ys)).run Tryz.prog w=.ok () w:=run_eqGuard_agg w op 29 x y xs ys (by kernel_rfl)
end
end Go.Proofs.YteelmakkogdieaaGreatDoor
