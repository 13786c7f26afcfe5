/- Words for maps: a map keyed by plain values (numbers, strings), whatever its elements; no program is named. -/
import Derived.Maps.OwnOps
import Derived.Test.YtdebjkiilnhgpaaGreatDoorCTB
import Derived.Test.YtdebjkiilnhgpaaGreatDoorCTH
set_option maxRecDepth 100000
set_option maxHeartbeats 4000000
namespace Go.Proofs.YtdebjkiilnhgpaaGreatDoor
section
open Go.RowKit Go.MapKept
def MapIs (w:World) (d:TypeDesc) (b n:Nat) (D:Value→Option Value):Prop :=
 ∃ es clock,w.heap[b]?=some (.map es clock)∧es.size=n∧(∀ x∈es.toList,IsKey d x.key)∧(es.toList.Pairwise fun x y=>x.key≠y.key) ∧
  ∀ key v,D key=some v ↔ ∃ x∈es.toList,x.key=key∧x.val=v
section
variable {P:Program} {w w':World} {d:TypeDesc} {b n:Nat} {D:Value→Option Value} {t kt et:TypeId}
theorem MapIs.made (w:World) (d:TypeDesc):MapIs (w.alloc (.map #[] 0)) d w.heap.size 0 (fun _=>none) :=
 ⟨#[],0,(MapKept.heap_alloc w _).1,rfl,by simp,by simp,by simp⟩
theorem MapIs.lt (h:MapIs w d b n D):b<w.heap.size:=by
 obtain ⟨es,clock,hb,_⟩:=h;exact (Array.getElem?_eq_some_iff.1 hb).1
theorem MapIs.same (h:MapIs w d b n D) (he:w'.heap[b]?=w.heap[b]?):MapIs w' d b n D:=by
 obtain ⟨es,clock,hb,r⟩:=h;exact ⟨es,clock,he.trans hb,r⟩
theorem MapIs.alloc (h:MapIs w d b n D) (o:Obj):MapIs (w.alloc o) d b n D:=h.same (Below.heap_alloc w o b h.lt)
theorem MapIs.drew (h:MapIs w d b n D):MapIs w.drew d b n D:=h
theorem MapIs.drewN (h:MapIs w d b n D) (k:Nat):MapIs (w.drewN k) d b n D:=h
theorem MapIs.grown {row:Option Nat} (h:MapIs w d b n D) (hg:w.grownBy w' row) (hne:some b≠row):MapIs w' d b n D:=h.same (hg.block b h.lt hne)
theorem MapIs.below {B:Nat} (h:MapIs w d b n D) (hb:Below B w w') (hg:b<B):MapIs w' d b n D:=h.same (hb.block b hg)
theorem MapIs.step (h:MapIs w d b n D) (hb:Below w.heap.size w w'):MapIs w' d b n D:=h.below hb h.lt
theorem MapIs.far (h:MapIs w d b n D) {p:Addr} (hp:b≠p.block) (u:Value):MapIs (w.setCell p u) d b n D:=h.same (Below.heap_setCell w p u b hp)
theorem MapIs.ext {D':Value→Option Value} (h:MapIs w d b n D) (e:∀ k,D' k=D k):MapIs w d b n D':=by
 obtain ⟨es,clock,hb,h1,h2,h3,h4⟩:=h;exact ⟨es,clock,hb,h1,h2,h3,fun key v=>by rw [e];exact h4 key v⟩
theorem MapIs.ne_blk {g:Nat} {tc:TypeId} {cs:Array Value} (h:MapIs w d b n D) (k:Blk w g tc cs):b≠g:=by
 rintro rfl;obtain ⟨es,clock,hb,_⟩:=h;unfold Blk at k;rw [hb] at k;cases k
theorem MapIs.ne_own {base size m:Nat} {e:TypeId} {v:Value} {xs:List Value} (h:MapIs w d b n D) (ho:w.ownsRow base e size v m xs):some b≠v.ownBlock:=by
 intro he
 rcases ho.2 with ⟨rfl,_⟩ | ⟨g,cap,cur,rfl,_,hh,_⟩
 ·simp [Value.ownBlock] at he
 ·have:b=g:=by simpa [Value.ownBlock] using he
  subst this;exact h.ne_blk (k:=hh) rfl
theorem MapIs.look (h:MapIs w d b n D) (hm:P.underlying t=some (.map kt et)) (hd:P.underlying kt=some d) {z:Value} (hz:(zeroValue et).run P w=.ok z w) {key:Value} (hk:IsKey d key) (c:Bool) :
  (Instr.lookup t (.map (some b)) key c).run P w=.ok (if c then .tuple #[(D key).getD z,.bool (D key).isSome] else (D key).getD z) w:=by
 obtain ⟨es,clock,hb,-,h2,-,h4⟩:=h
 rcases findNow_spec hk es.toList 0 h2 with ⟨g1,g2⟩ | ⟨j,e,g1,g2,g3⟩
 ·have hD:D key=none:=by
   cases hD:D key with
   | none=>rfl
   | some v =>
    obtain ⟨x,hx,he,-⟩:=(h4 key v).1 hD;exact absurd he (g2 x hx)
  rw [hD];simp [Instr.lookup,run_underlying hm,MapKept.run_getObj_map hb,run_checkKey hd hk,run_findKey hd g1,hz,Result.andThen]
 ·have hD:D key=some e.val:=(h4 key e.val).2 ⟨e,List.mem_of_getElem? g2,g3,rfl⟩;rw [hD];simp [Instr.lookup,run_underlying hm,MapKept.run_getObj_map hb,run_checkKey hd hk,run_findKey hd g1,Result.andThen]
theorem MapIs.put (h:MapIs w d b n D) (hm:P.underlying t=some (.map kt et)) (hd:P.underlying kt=some d) {key val:Value} (hk:IsKey d key) [DecidableEq Value] :
  ∃ w',(Instr.mapUpdate t (.map (some b)) key val).run P w=.ok () w'∧MapIs w' d b (if (D key).isSome then n else n+1) (fun k=>if k=key then some val else D k)∧w.grownBy w' (some b):=by
 have hlt:=h.lt;obtain ⟨es,clock,hb,h1,h2,h3,h4⟩:=h;have hgr:∀ o,w.grownBy { w with heap:=w.heap.setIfInBounds b o } (some b):=fun o=>⟨rfl,rfl,rfl,by simp,fun i _ hi=>(MapKept.heap_set hb).2 i (fun e=>hi (by rw [e]))⟩
 rcases findNow_spec hk es.toList 0 h2 with ⟨g1,g2⟩ | ⟨j,e,g1,g2,g3⟩
 ·have hD:D key=none:=by
   cases hD:D key with
   | none=>rfl
   | some v =>
    obtain ⟨x,hx,he,-⟩:=(h4 key v).1 hD;exact absurd he (g2 x hx)
  refine ⟨_,by simp [Instr.mapUpdate,run_underlying hm,MapKept.run_getObj_map hb,run_checkKey hd hk,run_findKey hd g1,MapKept.run_setObj_map _ hb,Result.andThen];rfl,⟨_,_,(MapKept.heap_set hb).1,?_,?_,?_,?_⟩,hgr _⟩
  ·rw [hD];simp [h1]
  ·intro x hx;simp only [Array.toList_push,List.mem_append,List.mem_singleton] at hx
   rcases hx with hx | rfl
   ·exact h2 x hx
   ·exact hk
  ·rw [Array.toList_push,List.pairwise_append];exact ⟨h3,by simp,fun x hx y hy=>by simp at hy;subst hy;exact g2 x hx⟩
  ·intro k v;simp only [Array.toList_push,List.mem_append,List.mem_singleton]
   by_cases hkk:k=key
   ·subst hkk;rw [if_pos rfl]
    constructor
    ·intro he;cases he;exact ⟨_,.inr rfl,rfl,rfl⟩
    ·rintro ⟨x,hx | rfl,he,hv⟩
     ·exact absurd he (g2 x hx)
     ·rw [← hv]
   ·rw [if_neg hkk,h4]
    constructor
    ·rintro ⟨x,hx,r⟩;exact ⟨x,.inl hx,r⟩
    ·rintro ⟨x,hx | rfl,he,hv⟩
     ·exact ⟨x,hx,he,hv⟩
     ·exact absurd he.symm hkk
 ·have hj:es[j]?=some e:=by simpa using g2
  have hm0:e∈es.toList:=List.mem_of_getElem? g2;have hD:D key=some e.val:=(h4 key e.val).2 ⟨e,hm0,g3,rfl⟩;have hjl:j<es.toList.length:=(List.getElem?_eq_some_iff.1 g2).1;refine ⟨_,by simp [Instr.mapUpdate,run_underlying hm,MapKept.run_getObj_map hb,run_checkKey hd hk,run_findKey hd g1,hj,g3,run_keyThatStays hk,MapKept.run_setObj_map _ hb,Result.andThen];rfl,⟨_,_,(MapKept.heap_set hb).1,?_,?_,?_,?_⟩,hgr _⟩
  ·rw [hD];simp [h1]
  ·exact isKey_modify h2 _ _ (fun e' he'=>by rw [hj] at he';cases he';exact g3.symm)
  ·have hkeys:=modify_keys (es:=es) j (fun x=>({ x with key:=key,val:=val }:MapEntry)) (fun e' he'=>by rw [hj] at he';cases he';exact g3.symm)
   have hp:(es.toList.map (·.key)).Pairwise (·≠·):=by rw [List.pairwise_map];exact h3
   rw [← hkeys,List.pairwise_map] at hp;exact hp
  ·intro k v;have hmod:(es.modify j fun x=>({ x with key:=key,val:=val }:MapEntry)).toList=es.toList.set j { e with key:=key,val:=val }:=by
    apply List.ext_getElem?
    intro i;rw [Array.getElem?_toList,Array.getElem?_modify,List.getElem?_set]
    by_cases hij:j=i
    ·subst hij;simp only [if_true,hj,Option.map_some];rw [if_pos hjl]
    ·simp [hij]
   rw [hmod];have hset:∀ x,x∈es.toList.set j { e with key:=key,val:=val } ↔ (x={ e with key:=key,val:=val }∨(x∈es.toList∧x.key≠key)):=by
    intro x;rw [List.mem_iff_getElem?]
    constructor
    ·rintro ⟨i,hi⟩;rw [List.getElem?_set] at hi
     by_cases hij:j=i
     ·rw [if_pos hij,if_pos hjl] at hi;cases hi
      exact .inl rfl
     ·rw [if_neg hij] at hi;have hil:=(List.getElem?_eq_some_iff.1 hi).1;refine .inr ⟨List.mem_of_getElem? hi,fun hk'=>?_⟩
      have ge:es.toList[j]=e:=(List.getElem?_eq_some_iff.1 g2).2;have gi:es.toList[i]=x:=(List.getElem?_eq_some_iff.1 hi).2
      rcases Nat.lt_or_gt_of_ne hij with hl | hl
      ·exact List.pairwise_iff_getElem.1 h3 j i hjl hil hl (by rw [ge,gi,g3,hk'])
      ·exact List.pairwise_iff_getElem.1 h3 i j hil hjl hl (by rw [ge,gi,g3,hk'])
    ·rintro (rfl | ⟨hx,hne⟩)
     ·exact ⟨j,by rw [List.getElem?_set,if_pos rfl,if_pos hjl]⟩
     ·obtain ⟨i,hi⟩:=List.mem_iff_getElem?.1 hx;refine ⟨i,?_⟩;rw [List.getElem?_set,if_neg,hi];rintro rfl;rw [g2] at hi;cases hi
      exact hne g3
   show (if k=key then some val else D k)=some v ↔ _
   by_cases hkk:k=key
   ·subst hkk;rw [if_pos rfl]
    constructor
    ·intro he;cases he;exact ⟨_,(hset _).2 (.inl rfl),rfl,rfl⟩
    ·rintro ⟨x,hx,he,hv⟩
     rcases (hset x).1 hx with rfl | ⟨-,hne⟩
     ·rw [← hv]
     ·exact absurd he hne
   ·rw [if_neg hkk,h4]
    constructor
    ·rintro ⟨x,hx,he,hv⟩;exact ⟨x,(hset x).2 (.inr ⟨hx,by rw [he];exact hkk⟩),he,hv⟩
    ·rintro ⟨x,hx,he,hv⟩
     rcases (hset x).1 hx with rfl | ⟨hx,-⟩
     ·exact absurd he.symm hkk
     ·exact ⟨x,hx,he,hv⟩
end
def keyU (D:Int→Option Value) (k:Value):Option Value:=match k with
 | .int .u32 i=>D i
 | _=>none
def keyS (D:ByteArray→Option Value) (k:Value):Option Value:=match k with
 | .string s=>D s
 | _=>none
def setU {α:Type} (D:Int→Option α) (i:Int) (v:α):Int→Option α:=fun j=>if j=i then some v else D j
def setS {α:Type} (D:ByteArray→Option α) (i:ByteArray) (v:α):ByteArray→Option α:=fun j=>if j=i then some v else D j
abbrev MapU (w:World) (b n:Nat) (D:Int→Option Value):Prop:=MapIs w (.int .u32) b n (keyU D)
abbrev MapS (w:World) (b n:Nat) (D:ByteArray→Option Value):Prop:=MapIs w .string b n (keyS D)
theorem keyU_none:keyU (fun _=>none)=fun _=>none:=by
 funext k
 unfold keyU
 split <;> rfl
theorem keyS_none:keyS (fun _=>none)=fun _=>none:=by
 funext k
 unfold keyS
 split <;> rfl
theorem MapU.made (w:World):MapU (w.alloc (.map #[] 0)) w.heap.size 0 (fun _=>none):=by
 unfold MapU;rw [keyU_none];exact MapIs.made w _
theorem MapS.made (w:World):MapS (w.alloc (.map #[] 0)) w.heap.size 0 (fun _=>none):=by
 unfold MapS;rw [keyS_none];exact MapIs.made w _
theorem keyU_set (D:Int→Option Value) (i:Int) (v:Value) [DecidableEq Value] (k:Value):keyU (setU D i v) k=if k=.int .u32 i then some v else keyU D k:=by
 unfold keyU setU
 split
 ·rename_i j
  by_cases h:j=i
  ·subst h;simp
  ·rw [if_neg h,if_neg];intro e;injection e with _ e
   exact h e
 ·rename_i h
  rw [if_neg (h i)]
theorem keyS_set (D:ByteArray→Option Value) (i:ByteArray) (v:Value) [DecidableEq Value] (k:Value):keyS (setS D i v) k=if k=.string i then some v else keyS D k:=by
 unfold keyS setS
 split
 ·rename_i j
  by_cases h:j=i
  ·subst h;simp
  ·rw [if_neg h,if_neg];intro e;injection e with e
   exact h e
 ·rename_i h
  rw [if_neg (h i)]
theorem MapU.put {P:Program} {w:World} {b n:Nat} {D:Int→Option Value} {t kt et:TypeId} (h:MapU w b n D) (hm:P.underlying t=some (.map kt et)) (hd:P.underlying kt=some (.int .u32)) (i:Int) (val:Value) :
  ∃ w',(Instr.mapUpdate t (.map (some b)) (.int .u32 i) val).run P w=.ok () w'∧MapU w' b (if (D i).isSome then n else n+1) (setU D i val)∧w.grownBy w' (some b):=by
 classical
 obtain ⟨w',h1,h2,h3⟩:=MapIs.put (P:=P) h hm hd (key:=.int .u32 i) (val:=val) rfl;exact ⟨w',h1,h2.ext (keyU_set D i val),h3⟩
theorem MapU.look {P:Program} {w:World} {b n:Nat} {D:Int→Option Value} {t kt et:TypeId} (h:MapU w b n D) (hm:P.underlying t=some (.map kt et)) (hd:P.underlying kt=some (.int .u32)) {z:Value} (hz:(zeroValue et).run P w=.ok z w) (i:Int) (c:Bool) :
  (Instr.lookup t (.map (some b)) (.int .u32 i) c).run P w=.ok (if c then .tuple #[(D i).getD z,.bool (D i).isSome] else (D i).getD z) w:=MapIs.look h hm hd hz (key:=.int .u32 i) rfl c
theorem MapS.put {P:Program} {w:World} {b n:Nat} {D:ByteArray→Option Value} {t kt et:TypeId} (h:MapS w b n D) (hm:P.underlying t=some (.map kt et)) (hd:P.underlying kt=some .string) (i:ByteArray) (val:Value) :
  ∃ w',(Instr.mapUpdate t (.map (some b)) (.string i) val).run P w=.ok () w'∧MapS w' b (if (D i).isSome then n else n+1) (setS D i val)∧w.grownBy w' (some b):=by
 classical
 obtain ⟨w',h1,h2,h3⟩:=MapIs.put (P:=P) h hm hd (key:=.string i) (val:=val) trivial;exact ⟨w',h1,h2.ext (keyS_set D i val),h3⟩
theorem MapS.look {P:Program} {w:World} {b n:Nat} {D:ByteArray→Option Value} {t kt et:TypeId} (h:MapS w b n D) (hm:P.underlying t=some (.map kt et)) (hd:P.underlying kt=some .string) {z:Value} (hz:(zeroValue et).run P w=.ok z w) (i:ByteArray) (c:Bool) :
  (Instr.lookup t (.map (some b)) (.string i) c).run P w=.ok (if c then .tuple #[(D i).getD z,.bool (D i).isSome] else (D i).getD z) w:=MapIs.look h hm hd hz (key:=.string i) trivial c
section
variable {P:Program} (w:World) {ops:Array Oper} {rest:List Oper} {o:Oper} {a:Act} {Q:Exit→Act→World→Prop} {kt et:TypeId} {b n:Nat}
end
end
section
def partOf (op:Int):Int:=match formOf op with
 | none=>0
 | some f=>f.part
def variableB (i:InstI):Bool:=i.1==59&&(decide (0<i.2.2.2.length)&&(ag i.2.2.2 0).2.1==7)
def partI (i:InstI):Int:=if variableB i=true then 8 else partOf i.1
def endsB (op:Int):Bool:=decide (249≤op)&&decide (op≤255)
def mayB (m e:Int):Bool:=if e=251 then m==247 else if e=249 then m==246 else e==250
def kindO (op:Int):Int :=
 if op=54 then 1 else if op=55 then 2 else if op=56 then 8 else if op=248 then 3 else if op=245 then 4 else if op=59 then 5 else if op=246 then 6 else if op=247 then 6 else if endsB op=true then 7 else 0
def kindI (i:InstI):Int:=if partI i=8 then kindO i.1 else 9
theorem kindO_wf (op:Int):0≤kindO op∧kindO op≤8:=by
 unfold kindO
 repeat' split
 all_goals decide
theorem kindI_wf (i:InstI):0≤kindI i∧kindI i≤9:=by
 have:=kindO_wf i.1;unfold kindI
 split <;> omega
def nx (l:List InstI) (k:Nat):Int:=match l[k]? with
 | none=>-1
 | some i=>kindI i
def opAt (l:List InstI) (k:Nat):Int:=match l[k]? with
 | none=>0
 | some i=>i.1
def partAt (l:List InstI) (k:Nat):Int:=match l[k]? with
 | none=>0
 | some i=>partI i
theorem nx_end {l:List InstI} {k:Nat} (h:l.length≤k):nx l k = -1:=by unfold nx;rw [List.getElem?_eq_none h]
theorem nx_at {l:List InstI} {k:Nat} {i:InstI} (h:l[k]?=some i):nx l k=kindI i:=by unfold nx;rw [h]
theorem opAt_at {l:List InstI} {k:Nat} {i:InstI} (h:l[k]?=some i):opAt l k=i.1:=by unfold opAt;rw [h]
theorem partAt_at {l:List InstI} {k:Nat} {i:InstI} (h:l[k]?=some i):partAt l k=partI i:=by unfold partAt;rw [h]
theorem nx_lt {l:List InstI} {k:Nat} (h:0≤nx l k):k<l.length:=by
 rcases Nat.lt_or_ge k l.length with h' | h'
 ·exact h'
 ·rw [nx_end h'] at h;omega
theorem nx_wf (l:List InstI) (k:Nat) : -1≤nx l k∧nx l k≤9:=by
 unfold nx;cases l[k]? with
 | none=>decide
 | some i=>have:=kindI_wf i;simp only;omega
def rowTo (l:List InstI) (kd:Int):Nat→Nat→Nat
 | 0,k=>k
 | q+1,k=>if nx l k=kd then rowTo l kd q (k+1) else k
def rowEnd (l:List InstI) (kd:Int) (k:Nat):Nat:=rowTo l kd (l.length-k) k
theorem rowTo_bd (l:List InstI) (kd:Int):∀ q k,k≤rowTo l kd q k∧rowTo l kd q k≤k+q
 | 0,k=>⟨Nat.le_refl _,Nat.le_refl _⟩
 | q+1,k=>by
  unfold rowTo
  split
  ·have:=rowTo_bd l kd q (k+1);omega
  ·omega
theorem rowEnd_bd {l:List InstI} {kd:Int} {k:Nat} (h:k≤l.length):k≤rowEnd l kd k∧rowEnd l kd k≤l.length:=by
 have:=rowTo_bd l kd (l.length-k) k;unfold rowEnd;omega
def topTo (l:List InstI) (p:Int):Nat→Nat→Nat
 | 0,k=>k
 | q+1,k=>if nx l k=9∧partAt l k=p then (if p=1 then k+1 else topTo l p q (k+1)) else k
def topEnd (l:List InstI) (p:Int) (k:Nat):Nat:=topTo l p (l.length-k) k
theorem topTo_bd (l:List InstI) (p:Int):∀ q k,k≤topTo l p q k∧topTo l p q k≤k+q
 | 0,k=>⟨Nat.le_refl _,Nat.le_refl _⟩
 | q+1,k=>by
  unfold topTo
  split
  ·split
   ·omega
   ·have:=topTo_bd l p q (k+1);omega
  ·omega
theorem topEnd_bd {l:List InstI} {p:Int} {k:Nat} (h:k≤l.length):k≤topEnd l p k∧topEnd l p k≤l.length:=by
 have:=topTo_bd l p (l.length-k) k;unfold topEnd;omega
def setF (f:Nat→Int) (j:Nat) (v:Int):Nat→Int:=fun i=>if i=j then v else f i
def spanF (f:Nat→Int) (p:Nat) (a b:Int):Nat→Int:=setF (setF f (2*p) a) (2*p+1) b
def topR (l:List InstI):Nat→Nat→Nat→(Nat→Int)→Bool × Nat × (Nat→Int)
 | 0,_,k,f=>(true,k,f)
 | r+1,p,k,f =>
  if p=1∧topEnd l p k=k then (false,topEnd l p k,spanF f p k (topEnd l p k))
  else topR l r (p+1) (topEnd l p k) (spanF f p k (topEnd l p k))
theorem topR_bd (l:List InstI):∀ r p k f,k≤l.length→k≤(topR l r p k f).2.1∧(topR l r p k f).2.1≤l.length
 | 0,_,k,f,h=>⟨Nat.le_refl _,h⟩
 | r+1,p,k,f,h=>by
  have h1:=topEnd_bd (l:=l) (p:=p) h;unfold topR
  split
  ·exact h1
  ·have:=topR_bd l r (p+1) (topEnd l p k) (spanF f p k (topEnd l p k)) h1.2;omega
def blockR (l:List InstI) (first:Bool) (k:Nat):Bool × Nat :=
 let j:=rowEnd l 0 (rowEnd l (if first=true then 5 else 4) (k+1))
 if nx l j=6 then (if nx l (j+1)=7∧mayB (opAt l j) (opAt l (j+1))=true then (true,j+2) else (false,j+1))
 else if nx l j=7 then (true,j+1) else (false,j)
theorem blockR_bd {l:List InstI} {first:Bool} {k:Nat} (h:k<l.length):k<(blockR l first k).2∧(blockR l first k).2≤l.length:=by
 have h1:=rowEnd_bd (l:=l) (kd:=if first=true then 5 else 4) (k:=k+1) h
 have h2:=rowEnd_bd (l:=l) (kd:=0) h1.2;unfold blockR;generalize rowEnd l 0 (rowEnd l (if first=true then 5 else 4) (k+1))=j at *
 simp only
 split
 ·rename_i h6
  have h7:=nx_lt (l:=l) (k:=j) (by omega)
  split
  ·rename_i h8
   have h9:=nx_lt (l:=l) (k:=j+1) (by omega)
   dsimp only;omega
  ·dsimp only;omega
 ·split
  ·have h7:=nx_lt (l:=l) (k:=j) (by omega)
   dsimp only;omega
  ·dsimp only;omega
def blocksR (l:List InstI):Nat→Bool→Nat→Bool × Bool × Nat
 | 0,first,k=>(true,first,k)
 | q+1,first,k=>if nx l k=3 then (if (blockR l first k).1=true then blocksR l q false (blockR l first k).2 else (false,first,(blockR l first k).2)) else (true,first,k)
theorem blocksR_bd {l:List InstI}:∀ q first k,k≤l.length→k≤(blocksR l q first k).2.2∧(blocksR l q first k).2.2≤l.length
 | 0,first,k,h=>⟨Nat.le_refl _,h⟩
 | q+1,first,k,h=>by
  unfold blocksR
  split
  ·rename_i h3
   have h1:=blockR_bd (l:=l) (first:=first) (nx_lt (l:=l) (k:=k) (by omega))
   split
   ·have:=blocksR_bd q false (blockR l first k).2 h1.2;omega
   ·dsimp only;omega
  ·exact ⟨Nat.le_refl _,h⟩
def funcsR (l:List InstI):Nat→Nat→Bool × Nat
 | 0,k=>(false,k)
 | q+1,k =>
  if nx l k<0 then (true,k)
  else if nx l k≠1 then (false,k)
  else
   let b:=blocksR l (l.length-rowEnd l 2 (k+1)) true (rowEnd l 2 (k+1))
   if b.1=false then (false,b.2.2)
   else if b.2.1=true∨nx l b.2.2≠8 then (false,b.2.2)
   else funcsR l q (b.2.2+1)
def cutR (l:List InstI):Bool × Nat × (Nat→Int) :=
 let t:=topR l 8 0 0 (fun _=>0)
 if t.1=false then t
 else
  let f:=spanF (spanF t.2.2 8 t.2.1 l.length) 9 l.length l.length
  ((funcsR l (l.length+1) t.2.1).1,(funcsR l (l.length+1) t.2.1).2,f)
theorem funcsR_bd {l:List InstI}:∀ q k,k≤l.length→k≤(funcsR l q k).2∧(funcsR l q k).2≤l.length
 | 0,k,h=>⟨Nat.le_refl _,h⟩
 | q+1,k,h=>by
  unfold funcsR
  split
  ·exact ⟨Nat.le_refl _,h⟩
  ·split
   ·exact ⟨Nat.le_refl _,h⟩
   ·rename_i h0 h1
    have h2:=nx_lt (l:=l) (k:=k) (by omega)
    have h3:=rowEnd_bd (l:=l) (kd:=2) (k:=k+1) h2;have h4:=blocksR_bd (l:=l) (l.length-rowEnd l 2 (k+1)) true _ h3.2;generalize blocksR l (l.length-rowEnd l 2 (k+1)) true (rowEnd l 2 (k+1))=b at *;simp only
    split
    ·dsimp only;omega
    ·split
     ·dsimp only;omega
     ·rename_i h5 h6
      have h7:=nx_lt (l:=l) (k:=b.2.2) (by
       have:nx l b.2.2=8:=Decidable.byContradiction fun hh=>h6 (.inr hh)
       omega)
      have:=funcsR_bd q (b.2.2+1) h7;omega
noncomputable def layM (bound:Int) (l:List InstI):Int × Int :=
 if (shapeM bound l).1≠0 then shapeM bound l
 else if (cutR l).1=true then (0,0)
 else if (cutR l).2.1<l.length then (50,(cutR l).2.1) else (51,(cutR l).2.1)
end
section
open Go.RowKit
def instC (x:InstA):Array Value:=#[.int .u16 x.1.1,.int .u32 x.1.2.1,.int .u32 x.1.2.2.1,.slice x.2.1 x.2.2.1 x.2.2.2]
theorem InstOk.keep {w w':World} {B:Nat} {x:InstA} (h:InstOk w B x) (hb:Below B w w'):InstOk w' B x:=⟨h.reads.below hb,h.len,h.kinds,h.text⟩
theorem InstOk.more {w:World} {B B':Nat} {x:InstA} (h:InstOk w B x) (hB:B≤B'):InstOk w B' x:=⟨h.reads.more hB,h.len,h.kinds,h.text⟩
theorem InstOk.step {w w':World} {x:InstA} (h:InstOk w w.heap.size x) (hb:Below w.heap.size w w'):InstOk w' w'.heap.size x:=(h.keep hb).more hb.size
theorem ends_any (op:Int) (w:World):Calls Tryz.prog 141 #[.int .u16 op] w fun e w'=>e=.returned (.bool (endsB op))∧w=w':=by
 unfold endsB
 by_cases h1:(249:Int)≤op
 ·have d1:decide ((249:Int)≤op)=true:=by simpa using h1
  rw [d1]
  by_cases h2:op≤(255:Int)
  ·have d2:decide (op≤(255:Int))=true:=by simpa using h2
   rw [d2];go_enter Tryz.func141,Tryz.ntmps141;go_wp2
   go_ret
   exact ⟨rfl,rfl⟩
  ·have d2:decide (op≤(255:Int))=false:=by simpa using h2
   rw [d2];go_enter Tryz.func141,Tryz.ntmps141;go_wp2
   go_ret
   exact ⟨rfl,rfl⟩
 ·have d1:decide ((249:Int)≤op)=false:=by simpa using h1
  rw [d1];go_enter Tryz.func141,Tryz.ntmps141;go_wp2
  go_ret
  exact ⟨rfl,rfl⟩
theorem may_any (m e:Int) (w:World):Calls Tryz.prog 128 #[.int .u16 m,.int .u16 e] w fun en w'=>en=.returned (.bool (mayB m e))∧w=w':=by
 obtain ⟨v,hv⟩:∃ v,v=mayB m e:=⟨_,rfl⟩;rw [← hv];have HV:=Lib.hid hv;clear hv;go_enter Tryz.func128,Tryz.ntmps128;go_wp2
 all_goals
  go_ret
  refine ⟨?_,rfl⟩;rw [HV.out];unfold mayB;simp_all
theorem variable_any (x:InstA) (w:World) (h:InstOk w w.heap.size x):Calls Tryz.prog 140 #[.agg (instC x)] w fun e w'=>e=.returned (.bool (variableB x.1))∧Below w.heap.size w w':=by
 obtain ⟨⟨op,ty,res,l⟩,A,n,c⟩:=x;obtain ⟨hr,hn,-,-⟩:=h;have hl:=hr.args_len;dsimp only at *;unfold instC variableB;have hb:=(Below.refl w.heap.size w).alloc (Nat.le_refl _) (.cells #[.int .u16 op,.int .u32 ty,.int .u32 res,.slice A n c] 42);rw [hl]
 by_cases h1:op=59
 ·have d1:(op==59)=true:=by rw [h1];rfl
  rw [d1];clear h1
  by_cases h2:0<n
  ·have d2:decide (0<n)=true:=by simpa using h2
   have d2':decide ((0:Int)<(n:Nat))=true:=by simpa using h2
   obtain ⟨b,off,rfl,hbb,hc⟩:=(hr.below hb).args h2;obtain ⟨c0,c1,c2⟩:=hc 0 h2;simp only [Nat.zero_mul,Nat.add_zero] at c0 c1 c2;rw [d2];clear hc;generalize (ag l 0).2.1=q at *;go_enter Tryz.func140,Tryz.ntmps140;go_wp2
   go_ret
   exact ⟨rfl,hb⟩
  ·have d2:decide (0<n)=false:=by simpa using h2
   have d2':decide ((0:Int)<(n:Nat))=false:=by simpa using h2
   rw [d2];go_enter Tryz.func140,Tryz.ntmps140;go_wp2
   go_ret
   exact ⟨rfl,hb⟩
 ·have d1:(op==59)=false:=by simpa using h1
  rw [d1];go_enter Tryz.func140,Tryz.ntmps140;go_wp2
  go_ret
  exact ⟨rfl,hb⟩
end
section
open Go.RowKit
theorem ofV_part (op:Int):∃ op' s0 T R s2 s3 m,ofV op=#[.int .u16 op',.string s0,.bool T,.bool R,.string s2,.string s3,.int .i64 m,.int .u8 (partOf op)]:=by
 unfold ofV partOf;cases formOf op with
 | none=>exact ⟨0,_,_,_,_,_,_,rfl⟩
 | some f=>exact ⟨op,_,_,_,_,_,_,rfl⟩
theorem part_any (x:InstA) (w:World) (h:InstOk w w.heap.size x):Calls Tryz.prog 126 #[.agg (instC x)] w fun e w'=>e=.returned (.int .u8 (partI x.1))∧Below w.heap.size w w':=by
 have hb:=(Below.refl w.heap.size w).alloc (Nat.le_refl _) (.cells (instC x) 42);have hv:=variable_any x _ (h.step hb);have k1:=Blk.new w 42 (instC x);unfold partI;obtain ⟨⟨op,ty,res,l⟩,A,n,c⟩:=x;obtain ⟨B,hB⟩:∃ B,B=variableB (op,ty,res,l):=⟨_,rfl⟩;dsimp only at *;rw [← hB] at hv ⊢;clear hB h;have ho:=of_any op;obtain ⟨op',s0,T,R,s2,s3,m,hV⟩:=ofV_part op;rw [hV] at ho;clear hV;generalize partOf op=p at *;generalize ofB op=ob at *;unfold instC at *;dsimp only at *
 rcases B with _ | _
 ·go_enter Tryz.func126,Tryz.ntmps126;go_wp2_with (go_at_call 140;refine hv.mono ?_;rintro e w1 ⟨rfl,hb1⟩;have k2:=k1.step hb1;have y0:=k2.cell 0;simp at y0;have hb2:=below_cut hb hb1 (Nat.le_refl _))
  go_wp2_with (go_at_call 58;refine (ho _).mono ?_;rintro e w2 ⟨rfl,hb3⟩;have hb4:=below_cut hb2 hb3 (Nat.le_refl _))
  go_ret
  exact ⟨rfl,hb4.alloc hb4.size _⟩
 ·go_enter Tryz.func126,Tryz.ntmps126;go_wp2_with (go_at_call 140;refine hv.mono ?_;rintro e w1 ⟨rfl,hb1⟩;have hb2:=below_cut hb hb1 (Nat.le_refl _))
  go_ret
  exact ⟨rfl,hb2⟩
theorem kind_of (x:InstA) (w:World) (h:InstOk w w.heap.size x):Calls Tryz.prog 127 #[.agg (instC x)] w fun e w'=>e=.returned (.int .i64 (kindI x.1))∧Below w.heap.size w w':=by
 have hb:=(Below.refl w.heap.size w).alloc (Nat.le_refl _) (.cells (instC x) 42);have hp:=part_any x _ (h.step hb);have k1:=Blk.new w 42 (instC x);obtain ⟨⟨op,ty,res,l⟩,A,n,c⟩:=x;dsimp only at *;have he:=ends_any op;obtain ⟨v,hv⟩:∃ v,v=kindI (op,ty,res,l):=⟨_,rfl⟩;rw [← hv];unfold kindI at hv;generalize partI (op,ty,res,l)=p at *;have HV:=Lib.hid hv;clear hv h;unfold instC at *;dsimp only at *
 by_cases h8:p=8
 ·have d8:(p != 8)=false:=by rw [h8];rfl
  have HK:=Lib.hid (show v=kindO op by rw [HV.out,if_pos h8])
  obtain ⟨eb,heb⟩:∃ eb,eb=endsB op:=⟨_,rfl⟩;rw [← heb] at he;have HE:=Lib.hid heb;clear h8 heb HV
  rcases eb with _ | _
  all_goals
   go_enter Tryz.func127,Tryz.ntmps127;go_wp2_with (go_at_call 126;refine hp.mono ?_;rintro e w1 ⟨rfl,hb1⟩;have k2:=k1.step hb1;have y0:=k2.cell 0;simp at y0;have hb2:=below_cut hb hb1 (Nat.le_refl _);clear hb1 hb k1 hp)
   go_wp2_with (go_at_call 141;refine (he _).mono ?_;rintro e w2 ⟨rfl,rfl⟩)
   all_goals
    go_ret
    refine ⟨?_,hb2⟩;rw [HK.out];unfold kindO;rw [← HE.out];simp_all
 ·have d8:(p != 8)=true:=by simpa using h8
  have HK:=Lib.hid (show v=9 by rw [HV.out,if_neg h8])
  clear h8 HV he;go_enter Tryz.func127,Tryz.ntmps127;go_wp2_with (go_at_call 126;refine hp.mono ?_;rintro e w1 ⟨rfl,hb1⟩;have hb2:=below_cut hb hb1 (Nat.le_refl _))
  go_ret
  exact ⟨by rw [HK.out];rfl,hb2⟩
end
section
open Go.RowKit
def CutS (w:World) (B g:Nat) (A:Option Addr) (n c k:Nat) (ps:Nat→Int) (F:Value):Prop :=
 B≤g∧∃ cs:Array Value,Blk w g 107 cs∧cs.size=23∧cs[0]?=some (.slice A n c)∧cs[1]?=some (.int .i64 (k:Nat))∧(∀ j,j<20→cs[2+j]?=some (.int .i64 (ps j)))∧cs[22]?=some F
section
variable {w w':World} {B g:Nat} {A:Option Addr} {n c k:Nat} {ps:Nat→Int} {F:Value}
theorem CutS.lt (h:CutS w B g A n c k ps F):g<w.heap.size:=by obtain ⟨-,cs,hb,-⟩:=h;exact hb.lt
theorem CutS.low (h:CutS w B g A n c k ps F):B≤g:=h.1
theorem CutS.cells (h:CutS w B g A n c k ps F):w.cell? ⟨g,0,none⟩=some (.slice A n c)∧w.cell? ⟨g,1,none⟩=some (.int .i64 (k:Nat))∧w.cell? ⟨g,22,none⟩=some F∧(∀ i,w.frozen? ⟨g,i,none⟩=false):=by
 obtain ⟨-,cs,hb,-,h0,h1,-,h3⟩:=h;exact ⟨(hb.cell 0).trans h0,(hb.cell 1).trans h1,(hb.cell 22).trans h3,hb.frozen⟩
theorem CutS.part_ (h:CutS w B g A n c k ps F) {j:Nat} (hj:j<20):w.cell? ⟨g,2+j,none⟩=some (.int .i64 (ps j)):=by
 obtain ⟨-,cs,hb,-,h0,h1,h2,h3⟩:=h;exact (hb.cell (2+j)).trans (h2 j hj)
theorem CutS.same (h:CutS w B g A n c k ps F) (he:w'.heap[g]?=w.heap[g]?):CutS w' B g A n c k ps F:=by
 obtain ⟨hl,cs,hb,r⟩:=h;exact ⟨hl,cs,he.trans hb,r⟩
theorem CutS.step (h:CutS w B g A n c k ps F) (hb:Below w.heap.size w w'):CutS w' B g A n c k ps F:=h.same (hb.block g h.lt)
theorem CutS.alloc (h:CutS w B g A n c k ps F) (o:Obj):CutS (w.alloc o) B g A n c k ps F:=h.same (Below.heap_alloc w o g h.lt)
theorem CutS.grown {row:Option Nat} (h:CutS w B g A n c k ps F) (hg:w.grownBy w' row) (hne:some g≠row):CutS w' B g A n c k ps F:=h.same (hg.block g h.lt hne)
theorem CutS.far (h:CutS w B g A n c k ps F) {p:Addr} (hp:g≠p.block) (u:Value):CutS (w.setCell p u) B g A n c k ps F:=h.same (Below.heap_setCell _ _ _ _ hp)
theorem CutS.drewN (h:CutS w B g A n c k ps F) (m:Nat):CutS (w.drewN m) B g A n c k ps F:=h
theorem CutS.drew (h:CutS w B g A n c k ps F):CutS w.drew B g A n c k ps F:=h
theorem CutS.atPut (h:CutS w B g A n c k ps F) (k':Nat):CutS (w.setCell ⟨g,1,none⟩ (.int .i64 (k':Nat))) B g A n c k' ps F:=by
 obtain ⟨hl,cs,hb,hs,h0,h1,h2,h3⟩:=h;refine ⟨hl,_,hb.set_ 1 _,by simpa using hs,?_,?_,fun j hj=>?_,?_⟩
 ·rw [Array.getElem?_setIfInBounds_ne (by omega)];exact h0
 ·rw [Array.getElem?_setIfInBounds_self,if_pos (by omega)]
 ·rw [Array.getElem?_setIfInBounds_ne (by omega)];exact h2 j hj
 ·rw [Array.getElem?_setIfInBounds_ne (by omega)];exact h3
theorem CutS.funPut (h:CutS w B g A n c k ps F) (F':Value):CutS (w.setCell ⟨g,22,none⟩ F') B g A n c k ps F':=by
 obtain ⟨hl,cs,hb,hs,h0,h1,h2,h3⟩:=h;refine ⟨hl,_,hb.set_ 22 _,by simpa using hs,?_,?_,fun j hj=>?_,?_⟩
 ·rw [Array.getElem?_setIfInBounds_ne (by omega)];exact h0
 ·rw [Array.getElem?_setIfInBounds_ne (by omega)];exact h1
 ·rw [Array.getElem?_setIfInBounds_ne (by omega)];exact h2 j hj
 ·rw [Array.getElem?_setIfInBounds_self,if_pos (by omega)]
theorem CutS.onePut (h:CutS w B g A n c k ps F) (i:Nat) (hi:i<20) (v:Int):CutS (w.setCell ⟨g,2+i,none⟩ (.int .i64 v)) B g A n c k (setF ps i v) F:=by
 obtain ⟨hl,cs,hb,hs,h0,h1,h2,h3⟩:=h;refine ⟨hl,_,hb.set_ (2+i) _,by simpa using hs,?_,?_,fun j hj=>?_,?_⟩
 ·rw [Array.getElem?_setIfInBounds_ne (by omega)];exact h0
 ·rw [Array.getElem?_setIfInBounds_ne (by omega)];exact h1
 ·unfold setF
  by_cases hji:j=i
  ·subst hji;rw [Array.getElem?_setIfInBounds_self,if_pos (by omega),if_pos rfl]
  ·rw [Array.getElem?_setIfInBounds_ne (by omega),if_neg hji];exact h2 j hj
 ·rw [Array.getElem?_setIfInBounds_ne (by omega)];exact h3
theorem CutS.spanPut (h:CutS w B g A n c k ps F) (p:Nat) (hp:p<10) (a b:Int) :
  CutS ((w.setCell ⟨g,2+2*p,none⟩ (.int .i64 a)).setCell ⟨g,2+(2*p+1),none⟩ (.int .i64 b)) B g A n c k (spanF ps p a b) F :=
 (h.onePut (2*p) (by omega) a).onePut (2*p+1) (by omega) b
end
structure ModS (w:World) (B:Nat) (A:Option Addr) (n:Nat) (ls:List InstA):Prop where
 len:n≤7100000000000
 reads:Reads w B 4 A n (Icells ls)
 ok:∀ x∈ls,InstOk w B x
theorem ModS.keep {w w':World} {B:Nat} {A:Option Addr} {n:Nat} {ls:List InstA} (h:ModS w B A n ls) (hb:Below B w w'):ModS w' B A n ls:=⟨h.len,h.reads.below hb,fun x hx=>(h.ok x hx).keep hb⟩
theorem ModS.length {w:World} {B:Nat} {A:Option Addr} {n:Nat} {ls:List InstA} (h:ModS w B A n ls):(ls.map (·.1)).length=n:=by rw [List.length_map];exact h.reads.insts_len
theorem ig_map {ls:List InstA} {k:Nat} (h:k<ls.length):(ls.map (·.1))[k]?=some (ig ls k).1:=by
 rw [List.getElem?_map,List.getElem?_eq_getElem h,ig_of h];rfl
theorem next_any (ls:List InstA) (A:Option Addr) (n c B g k:Nat) (ps:Nat→Int) (F:Value) (w:World) (hC:CutS w B g A n c k ps F) (hM:ModS w B A n ls) (hk:k≤n) :
  Calls Tryz.prog 105 #[.pointer (some ⟨g,0,none⟩)] w fun e w'=>e=.returned (.int .i64 (nx (ls.map (·.1)) k))∧Below w.heap.size w w':=by
 obtain ⟨y0,y1,y22,-⟩:=hC.cells;have hlen:=hM.reads.insts_len;have hn:=hM.len;clear y22
 by_cases h:k=n
 ·have hv:nx (ls.map (·.1)) k = -1:=nx_end (by rw [List.length_map];omega)
  have d1:((k:Nat):Int)==((n:Nat):Int):=by rw [h];exact beq_self_eq_true _
  rw [hv];clear hv h;go_enter Tryz.func105,Tryz.ntmps105;go_wp2_with fail;go_big_region
  go_wp2_with fail;go_ret
  exact ⟨rfl,(Below.refl _ _).drew⟩
 ·have hlt:k<n:=by omega
  have d1:(((k:Nat):Int)==((n:Nat):Int))=false:=by rw [beq_eq_false_iff_ne];omega
  have hv:nx (ls.map (·.1)) k=kindI (ig ls k).1:=nx_at (ig_map (by omega))
  obtain ⟨b,off,rfl,hbb,hc⟩:=hM.reads.insts (by omega)
  obtain ⟨c0,c1,c2,c3⟩:=hc k hlt;have hB:B≤w.heap.size:=by have:=hC.lt;have:=hC.low;omega
  have hkind:∀ w',Below w.heap.size w w'→Calls Tryz.prog 127 #[.agg (instC (ig ls k))] w' fun e w''=>e=.returned (.int .i64 (kindI (ig ls k).1))∧Below w'.heap.size w' w'' :=
   fun w' hb=>kind_of _ _ (((hM.ok _ (ig_mem (l:=ls) (k:=k) (by omega))).more hB).step hb)
  rw [hv];clear hv h hc hM hC;generalize ig ls k=x at *;obtain ⟨⟨op,ty,res,al⟩,Ax,nx,cx⟩:=x;unfold instC at hkind;dsimp only at *;generalize kindI (op,ty,res,al)=v at *;go_enter Tryz.func105,Tryz.ntmps105;go_wp2_with fail;go_big_region
  go_wp2_with fail;refine wp_region_tail 10 (by kernel_rfl) (by kernel_rfl) ?_
  simp only [List.take_succ_cons,List.take_zero,List.drop_succ_cons,List.drop_zero]
  repeat (go_big_quiet_step (fail))
  refine wpQuiet_nil ?_;go_wp2_with (go_at_call 127;refine (hkind _ ((Below.refl _ _).drew.drew)).mono ?_;rintro e w2 ⟨rfl,hb2⟩)
  go_ret
  exact ⟨rfl,(Below.refl _ _).drew.drew.trans hb2⟩
end
section
open Go.RowKit
theorem slI:SliceOf Tryz.prog 151 3 (.int .i64 0) 1 8:=⟨Tryz.underlying151,by kernel_rfl,rfl,by decide⟩
theorem only_step {a w w':World} {row:Option Nat} (h:a.grownBy w row) (hb:Below w.heap.size w w'):a.grownBy w' row :=
 ⟨hb.os.trans h.os,hb.tape.trans h.tape,hb.output.trans h.output,Nat.le_trans h.size hb.size,fun i hi hne=>(hb.block i (Nat.lt_of_lt_of_le hi h.size)).trans (h.block i hi hne)⟩
theorem only_grown {a w w':World} {row row':Option Nat} (h:a.grownBy w row) (hg:w.grownBy w' row') (hr:∀ j,row'=some j→a.heap.size≤j):a.grownBy w' row :=
 ⟨hg.os.trans h.os,hg.tape.trans h.tape,hg.output.trans h.output,Nat.le_trans h.size hg.size,fun i hi hne =>
  (hg.block i (Nat.lt_of_lt_of_le hi h.size) (fun e=>by have:=hr i e.symm;omega)).trans (h.block i hi hne)⟩
theorem crow_any (ls:List InstA) (A:Option Addr) (n c B g k:Nat) (ps:Nat→Int) (F:Value) (kd:Int) (w:World) (hC:CutS w B g A n c k ps F) (hM:ModS w B A n ls) (hk:k≤n) (h0:0≤kd) :
  Calls Tryz.prog 106 #[.pointer (some ⟨g,0,none⟩),.int .i64 kd] w fun e w'=>(∃ (A':Option Addr) (n' c':Nat),e=.returned (.slice A' n' c'))∧CutS w' B g A n c (rowEnd (ls.map (·.1)) kd k) ps F∧w.grownBy w' (some g):=by
 have hn:=hM.len;have hlen:=hM.length;have hlow:=hC.low;have hgl:=hC.lt;obtain ⟨v,hv⟩:∃ v,v=rowEnd (ls.map (·.1)) kd k:=⟨_,rfl⟩;rw [← hv];unfold rowEnd at hv;rw [hlen] at hv;have HV:=Lib.hid hv;have hkd:=Lib.hid h0;clear hv h0;go_enter Tryz.func106,Tryz.ntmps106;go_wp2_with fail;go_loopg [5] (n-k) (fun q u wr=>∃ (k' m:Nat) (xs:List Value),k'+q=n∧m≤k'∧Hid (v=rowTo (ls.map (·.1)) kd q k')∧CutS wr B g A n c k' ps F∧wr.ownsRow w.heap.size 3 1 u m xs∧w.grownBy wr (some g))
 case atStart=>exact ⟨k,0,[],by omega,by omega,HV,hC,World.ownsRow_nil _ _ _ _,World.grownBy.refl w _⟩
 case round =>
  obtain ⟨k',m,xs,hq,hmk,HK,hC1,ho,hgr⟩:=hrel;have hbB:Below B w wr:=(Below.refl B w).grown hgr (by omega) (fun j hj=>by cases hj;exact hlow)
  have hM1:=hM.keep hbB;have hnx:=next_any ls A n c B g k' ps F wr hC1 hM1 (by omega)
  have hszr:=hgr.size;obtain ⟨A1,c1,rfl⟩:=own_shape ho
  by_cases he:nx (ls.map (·.1)) k'=kd
  ·have hlt:=nx_lt (l:=ls.map (·.1)) (k:=k') (by rw [he];exact hkd.out)
   rw [hlen] at hlt;obtain ⟨q,rfl⟩:∃ q,gk=q+1:=⟨gk-1,by omega⟩
   have hk1:=HK.out;unfold rowTo at hk1;rw [if_pos he] at hk1;have HK1:=Lib.hid hk1;rw [he] at hnx;have d1:(kd==kd)=true:=beq_self_eq_true _;have hG:=Lib.hid hgr;clear hk1 he HK HV hM1 hM hgr;go_wp2_with (first | (go_at_call 105;refine hnx.mono ?_;rintro e w2 ⟨rfl,hb2⟩;have hC2:=hC1.step hb2;have ho2:=own_below ho hb2;obtain ⟨y0,y1,-,fz⟩:=hC2.cells;have hsz2:=hb2.size;have hG2:=Lib.hid (only_step hG.out hb2);clear hnx) | (at_builtin;refine ap_one slI _ rfl _ _ rfl w.heap.size _ _ _ rfl ho2 _ _ rfl rfl (by omega) (by omega) (by omega) ?_;intro v3 w3 ho3 hgr3 _;have hC3:=(hC2.alloc (.cells #[.int .i64 (k':Nat)] 3)).grown hgr3 (Ne.symm (own_ne_low ho2 hgl));obtain ⟨x0,x1,-,fx⟩:=hC3.cells;have hG3:=Lib.hid (only_grown (only_alloc hG2.out (.cells #[.int .i64 (k':Nat)] 3)) hgr3 (fun j hj=>(ho2.lt j hj).1));clear hgr3))
   have hC4:=hC3.atPut (k'+1);have ho4:=own_set_other ho3 (p:=⟨g,1,none⟩) (own_ne_low ho3 hgl) (.int .i64 ((k'+1:Nat):Int));have hG4:=only_setCell hG3.out (p:=⟨g,1,none⟩) (.inl rfl) (.int .i64 ((k'+1:Nat):Int));go_roundg q
   case measure=>omega
   case rel=>exact ⟨k'+1,m+1,_,by omega,by omega,HK1,hC4,ho4,hG4⟩
  ·have hk1:v=k':=by
    have hk1:=HK.out;cases gk with
    | zero=>exact hk1
    | succ q=>unfold rowTo at hk1;rw [if_neg he] at hk1;exact hk1
   have d1:(nx (ls.map (·.1)) k'==kd)=false:=by rw [beq_eq_false_iff_ne];exact he
   generalize nx (ls.map (·.1)) k'=z at *;have HK1:=Lib.hid hk1;clear hk1 he HK HV hM1 hM;go_wp2_with (go_at_call 105;refine hnx.mono ?_;rintro e w2 ⟨rfl,hb2⟩;have hC2:=hC1.step hb2;have hG2:=Lib.hid (only_step hgr hb2);clear hnx hgr)
   go_ret
   exact ⟨⟨A1,m,c1,rfl⟩,by rw [HK1.out];exact hC2,hG2.out⟩
end
section
open Go.RowKit
def modC (gen bound:Int) (A:Option Addr) (n c:Nat):Array Value:=#[.int .u32 gen,.int .u32 bound,.slice A n c]
theorem ModS.more {w:World} {B B':Nat} {A:Option Addr} {n:Nat} {ls:List InstA} (h:ModS w B A n ls) (hB:B≤B'):ModS w B' A n ls:=⟨h.len,h.reads.more hB,fun x hx=>(h.ok x hx).more hB⟩
theorem ModS.step {w w':World} {A:Option Addr} {n:Nat} {ls:List InstA} (h:ModS w w.heap.size A n ls) (hb:Below w.heap.size w w'):ModS w' w'.heap.size A n ls:=(h.keep hb).more hb.size
theorem shape_any (gen bound:Int) (ls:List InstA) (A:Option Addr) (n c:Nat) (w:World) (hM:ModS w w.heap.size A n ls) :
  Calls Tryz.prog 73 #[.agg (modC gen bound A n c)] w fun e w'=>e=.returned (.agg #[.int .i64 (shapeM bound (ls.map (·.1))).1,.int .i64 (shapeM bound (ls.map (·.1))).2])∧Below w.heap.size w w':=by
 unfold modC;have hb0:=((Below.refl w.heap.size w).alloc (Nat.le_refl _) (.cells #[.int .u32 gen,.int .u32 bound,.slice A n c] 25)).alloc (by simp) (.cells #[.int .i64 0,.int .i64 0] 28)
 have k3:=Blk.new (w.alloc (.cells #[.int .u32 gen,.int .u32 bound,.slice A n c] 25)) 28 #[.int .i64 0,.int .i64 0];rw [World.size_alloc] at k3;have hM2:=hM.step hb0;have hraw:=raws_any gen bound ls A n c _ (Nat.le_trans hM2.len (by decide)) hM2.reads hM2.ok
 unfold RawsIs at hraw;generalize shapeM bound (ls.map (·.1))=v at *;obtain ⟨v1,v2⟩:=v;dsimp only at *;clear hM hM2;go_enter Tryz.func73,Tryz.ntmps73;go_wp2_with (go_at_call 103;refine hraw.mono ?_;rintro e w2 ⟨A',n',c',rfl,hb2⟩;have k4:=(k3.step hb2).alloc (.cells #[.int .i64 v1,.int .i64 v2] 28);have hb3:=below_cut hb0 hb2 (Nat.le_refl _);have hb4:=hb3.alloc hb3.size (.cells #[.int .i64 v1,.int .i64 v2] 28);obtain ⟨z0,z1⟩:=two_ k4;have fz:=k4.frozen)
 have k5:=spot_put k4 (.int .i64 v1) (.int .i64 v2);have hb5:=(hb4.setCell (p:=⟨w.heap.size+1,0,none⟩) (show w.heap.size≤w.heap.size+1 by omega) (.int .i64 v1)).setCell (p:=⟨w.heap.size+1,1,none⟩) (show w.heap.size≤w.heap.size+1 by omega) (.int .i64 v2)
 clear z0 z1 fz;generalize ((w2.alloc (.cells #[.int .i64 v1,.int .i64 v2] 28)).setCell ⟨w.heap.size+1,0,none⟩ (.int .i64 v1)).setCell ⟨w.heap.size+1,1,none⟩ (.int .i64 v2)=w9 at *;obtain ⟨z0,z1⟩:=two_ k5;exact bodyPost_ret (v:=.agg #[.int .i64 v1,.int .i64 v2]) (by simp [results,Tryz.results73,go_sem,z0,z1]) rfl ⟨rfl,hb5⟩
end
section
open Go.RowKit
def idsF (l:List ArgI):List Int:=(l.filter fun a=>a.1==1).map fun a=>a.2.1
def idsOf (i:InstI):List Int:=(if i.2.1=0 then [] else [i.2.1])++idsF i.2.2.2
theorem idsF_take {l:List ArgI} {k:Nat} (h:k<l.length):idsF (l.take (k+1))=idsF (l.take k)++(if (ag l k).1=1 then [(ag l k).2.1] else []):=by
 rw [ag_of h,List.take_succ_eq_append_getElem h];unfold idsF;rw [List.filter_append,List.map_append];congr 1
 by_cases h1:l[k].1=1
 ·rw [if_pos h1,List.filter_cons_of_pos (by simpa using h1)]
  rfl
 ·rw [if_neg h1,List.filter_cons_of_neg (by simpa using h1)]
  rfl
theorem idsF_len (l:List ArgI) (k:Nat):(idsF (l.take k)).length≤k:=by
 unfold idsF;rw [List.length_map];exact Nat.le_trans (List.length_filter_le _ _) (by rw [List.length_take];omega)
theorem ids_any (x:InstA) (w:World) (h:InstOk w w.heap.size x):Calls Tryz.prog 50 #[.agg (instC x)] w fun e w'=>∃ (A':Option Addr) (c':Nat),
  e=.returned (.slice A' (idsOf x.1).length c')∧w'.ownsRow w.heap.size 22 1 (.slice A' (idsOf x.1).length c') (idsOf x.1).length (Ints .u32 (idsOf x.1))∧Below w.heap.size w w':=by
 obtain ⟨⟨op,ty,res,l⟩,A,n,c⟩:=x;obtain ⟨hr,hn,-,-⟩:=h;have hl:=hr.args_len;dsimp only at *;unfold instC;dsimp only;have hb:=(Below.refl w.heap.size w).alloc (Nat.le_refl _) (.cells #[.int .u16 op,.int .u32 ty,.int .u32 res,.slice A n c] 42);have k1:=Blk.new w 42 #[.int .u16 op,.int .u32 ty,.int .u32 res,.slice A n c];obtain ⟨v,hv⟩:∃ v,v=idsOf (op,ty,res,l):=⟨_,rfl⟩;rw [← hv];have HV:=Lib.hid hv;clear hv;have hsz:(w.alloc (.cells #[.int .u16 op,.int .u32 ty,.int .u32 res,.slice A n c] 42)).heap.size=w.heap.size+1:=by simp
 by_cases h0:ty=0
 case' pos =>
  have d0:(ty != 0)=false:=by rw [h0];rfl
  have HV0:=Lib.hid (show v=[]++idsF l by rw [HV.out];unfold idsOf;rw [if_pos h0])
  clear h0 HV;go_enter Tryz.func50,Tryz.ntmps50;go_wp2_with fail;obtain ⟨pre,hpre⟩:∃ pre:List Int,pre=[]:=⟨_,rfl⟩;rw [← hpre] at HV0;have hp1:pre.length≤1:=by rw [hpre];decide
  have hs:∃ m,m=(pre++idsF (l.take 0)).length∧(w.alloc (.cells #[.int .u16 op,.int .u32 ty,.int .u32 res,.slice A n c] 42)).ownsRow (w.heap.size+1) 22 1 (.slice none 0 0) m (Ints .u32 (pre++idsF (l.take 0))):=⟨0,by rw [hpre];rfl,by rw [hpre];exact World.ownsRow_nil _ _ _ _⟩
  clear hpre;generalize w.alloc (.cells #[.int .u16 op,.int .u32 ty,.int .u32 res,.slice A n c] 42)=w1 at *;have hsz1:w.heap.size+1≤w1.heap.size:=by omega
 case' neg =>
  have d0:(ty != 0)=true:=by simpa using h0
  have HV0:=Lib.hid (show v=[ty]++idsF l by rw [HV.out];unfold idsOf;rw [if_neg h0])
  clear h0 HV;go_enter Tryz.func50,Tryz.ntmps50;go_wp2_with (at_builtin;refine ap_one sl32 _ rfl _ _ rfl (w.heap.size+1) _ _ _ rfl (World.ownsRow_nil _ _ _ _) _ _ rfl (by rw [World.size_alloc];rfl) (by decide) (by decide) (by rw [World.size_alloc];exact Nat.le_refl _) ?_;intro v1 w1 ho1 hgr1 _;obtain ⟨A1,c1,rfl⟩:=own_shape ho1;have k2:=Blk.grown (row:=none) (k1.alloc (.cells #[.int .u32 ty] 22)) hgr1 (by simp);have hb2:=Below.grown (row:=none) (hb.alloc hb.size (.cells #[.int .u32 ty] 22)) hgr1 (by simp;omega) (fun j hj=>by cases hj);have hsz1:=hgr1.size;simp only [World.size_alloc] at hsz1;have y3:=k2.cell 3;simp at y3)
  obtain ⟨pre,hpre⟩:∃ pre:List Int,pre=[ty]:=⟨_,rfl⟩;rw [← hpre] at HV0;have hp1:pre.length≤1:=by rw [hpre];exact Nat.le_refl _
  have hs:∃ m,m=(pre++idsF (l.take 0)).length∧w1.ownsRow (w.heap.size+1) 22 1 (.slice A1 1 c1) m (Ints .u32 (pre++idsF (l.take 0))):=⟨1,by rw [hpre];rfl,by rw [hpre];exact ho1⟩
  clear hpre ho1 k1 hb y3;have k1:=k2;have hb:=hb2;replace hsz1:w.heap.size+1≤w1.heap.size:=by omega
  clear k2 hb2
 all_goals
  go_loopg [3,17] n (fun q u i wr=>∃ k:Nat,k+q=n∧i=.int .i64 (k:Nat)∧(∃ m,m=(pre++idsF (l.take k)).length∧wr.ownsRow (w.heap.size+1) 22 1 u m (Ints .u32 (pre++idsF (l.take k))))∧Blk wr w.heap.size 42 #[.int .u16 op,.int .u32 ty,.int .u32 res,.slice A n c]∧Below w.heap.size w wr∧w.heap.size+1≤wr.heap.size)
  case atStart=>exact ⟨0,by omega,rfl,hs,k1,hb,hsz1⟩
  case round =>
   obtain ⟨k,hq,rfl,⟨m,hm,ho⟩,kr,hbr,hsz2⟩:=hrel
   by_cases hlt:k<n
   ·obtain ⟨b,off,rfl,hb2,hc⟩:=(hr.below hbr).args (by omega)
    obtain ⟨c0,c1,c2⟩:=hc k hlt;have hkt:=idsF_take (l:=l) (k:=k) (by omega)
    have hml:=idsF_len l k;have hml2:m≤k+1:=by rw [hm,List.length_append];omega
    generalize ag l k=x at *;obtain ⟨x1,x2,x3⟩:=x;dsimp only at c0 c1 c2 hkt;obtain ⟨A2,cc,rfl⟩:=own_shape ho;clear hc;have k7:=Blk.new wr 44 #[.int .u8 x1,.int .u32 x2,.string x3];have kr2:=kr.alloc (.cells #[.int .u8 x1,.int .u32 x2,.string x3] 44);have ho2:=ho.alloc (.cells #[.int .u8 x1,.int .u32 x2,.string x3] 44);have hb3:=hbr.alloc hbr.size (.cells #[.int .u8 x1,.int .u32 x2,.string x3] 44);have hsz3:w.heap.size+1≤(wr.alloc (.cells #[.int .u8 x1,.int .u32 x2,.string x3] 44)).heap.size:=by simp;omega
    by_cases h1:x1=1
    ·have d1:(x1==1)=true:=by rw [h1];rfl
     rw [if_pos h1] at hkt;have HK:=Lib.hid hkt;have HM:=Lib.hid hm;clear ho kr hbr hb hkt h1 hm hs;go_wp2_with (at_builtin;refine ap_one sl32 _ rfl _ _ rfl (w.heap.size+1) _ _ _ rfl ho2 _ _ rfl (by rw [World.size_alloc];rfl) (by omega) (by omega) hsz3 ?_;intro v' w3 ho3 hgr3 _)
     have kr3:=(kr2.alloc (.cells #[.int .u32 x2] 22)).grown hgr3 (fun e=>by have:=(ho2.lt _ e.symm).1;omega)
     have hb4:=(hb3.alloc hb3.size (.cells #[.int .u32 x2] 22)).grown hgr3 (by simp;omega) (fun j hj=>Nat.le_of_succ_le (ho2.lt j hj).1)
     have hsz4:w.heap.size+1≤w3.heap.size:=by have:=hgr3.size;simp at this;omega
     go_roundg (n-(k+1))
     case measure=>omega
     case rel=>exact ⟨k+1,by omega,by go_num,⟨m+1,by rw [HK.out,HM.out];simp;omega,by rw [HK.out,← List.append_assoc,Ints_append];exact ho3⟩,kr3,hb4,hsz4⟩
    ·have d1:(x1==1)=false:=by simpa using h1
     rw [if_neg h1,List.append_nil] at hkt;have HK:=Lib.hid hkt;have HM:=Lib.hid hm;clear ho kr hbr hb hkt h1 hm hs;go_wp2_with fail;go_roundg (n-(k+1))
     case measure=>omega
     case rel=>exact ⟨k+1,by omega,by go_num,⟨m,by rw [HK.out];exact HM.out,by rw [HK.out];exact ho2⟩,kr2,hb3,hsz3⟩
   ·obtain rfl:gk=0:=by omega
    obtain rfl:k=n:=by omega
    have ht:l.take k=l:=by rw [← hl];exact List.take_length
    rw [ht,← HV0.out] at hm ho;clear ht;obtain ⟨A2,cc,rfl⟩:=own_shape ho;have HM:=Lib.hid hm;clear hm hs;go_wp2_with fail;go_ret
    refine ⟨A2,cc,by rw [← HM.out];rfl,?_,hbr⟩
    rw [← HM.out];exact own_base ho (Nat.le_succ _)
end
section
def madeR:List InstI→Nat→Int→Option Nat
 | [],_,_=>none
 | i :: r,k,id=>if i.2.2.1≠0∧i.2.2.1=id then some k else madeR r (k+1) id
theorem madeR_at:∀ (l:List InstI) (k j:Nat) (i:InstI),l[j]?=some i→i.2.2.1≠0→∃ m,madeR l k i.2.2.1=some m∧m≤k+j
 | [],_,j,_,h,_=>by simp at h
 | x :: r,k,0,i,h,h0=>by
  simp at h;subst h;exact ⟨k,by unfold madeR;rw [if_pos ⟨h0,rfl⟩],by omega⟩
 | x :: r,k,j+1,i,h,h0=>by
  simp at h;unfold madeR
  split
  ·exact ⟨k,rfl,by omega⟩
  ·obtain ⟨m,h1,h2⟩:=madeR_at r (k+1) j i h h0;exact ⟨m,h1,by omega⟩
theorem idsOf_len (i:InstI):(idsOf i).length≤1+i.2.2.2.length:=by
 have h:=idsF_len i.2.2.2 i.2.2.2.length;rw [List.take_length] at h;unfold idsOf;rw [List.length_append]
 split
 ·simp;omega
 ·simp;omega
def lostB (made:Int→Option Nat) (l:List Int):Bool:=l.any fun id=>(made id).isNone
def aheadB (made:Int→Option Nat) (l:List Int) (k:Nat):Bool:=l.any fun id=>decide (k≤(made id).getD 0)
theorem lostB_take {made:Int→Option Nat} {l:List Int} {j:Nat} (h:j<l.length):lostB made (l.take (j+1))=(lostB made (l.take j)||(made (ix l j)).isNone):=by
 have e:ix l j=l[j]:=by simp [ix,List.getD,List.getElem?_eq_getElem h]
 rw [List.take_succ_eq_append_getElem h,e];unfold lostB;rw [List.any_append];simp
theorem aheadB_take {made:Int→Option Nat} {l:List Int} {j k:Nat} (h:j<l.length):aheadB made (l.take (j+1)) k=(aheadB made (l.take j) k||decide (k≤(made (ix l j)).getD 0)):=by
 have e:ix l j=l[j]:=by simp [ix,List.getD,List.getElem?_eq_getElem h]
 rw [List.take_succ_eq_append_getElem h,e];unfold aheadB;rw [List.any_append];simp
theorem lostB_at {made:Int→Option Nat} {l:List Int} {j:Nat} (h:j<l.length) (h0:made (ix l j)=none):lostB made l=true:=by
 have e:ix l j=l[j]:=by simp [ix,List.getD,List.getElem?_eq_getElem h]
 rw [e] at h0;unfold lostB;rw [List.any_eq_true];exact ⟨l[j],List.getElem_mem h,by rw [h0];rfl⟩
def idE1 (made:Int→Option Nat) (p:Nat→Int) (k:Nat) (i:InstI):Int :=
 if i.2.2.1≠0∧(made i.2.2.1).getD 0<k then 90
 else if lostB made (idsOf i)=true then 91
 else if aheadB made (idsOf i) k=true∧p 14≤(k:Int)∧(k:Int)<p 15 then 92
 else 0
def idsR (made:Int→Option Nat) (p:Nat→Int):List InstI→Nat→Int × Int
 | [],_=>(0,0)
 | i :: r,k=>if idE1 made p k i≠0 then (idE1 made p k i,k) else idsR made p r (k+1)
noncomputable def idsM (bound:Int) (l:List InstI):Int × Int :=
 if (layM bound l).1≠0 then layM bound l else idsR (madeR l 0) (cutR l).2.2 l 0
end
end Go.Proofs.YtdebjkiilnhgpaaGreatDoor
