/- Plain: what consts and typing say of a module. -/
import Derived.Test.YtdebjkiilnhgpaaGreatDoorCTO
import Derived.Test.YtdebjkiilnhgpaaGreatDoorCUI
import Derived.Test.YtdebjkiilnhgpaaGreatDoorCTN
import Derived.Test.YtdebjkiilnhgpaaGreatDoorCUB
import Derived.Test.YtdebjkiilnhgpaaGreatDoorCUA
namespace Go.Proofs.YtdebjkiilnhgpaaGreatDoor
section
def conB (op:Int):Bool:=op==1||op==41||op==42||op==43||op==44||op==46
def prt (T:Int→TyI) (ty k:Int):Int:=(partT (T ty) k).1
def heldE (C:Int→Option Int) (id ty:Int):Int:=match C id with
 | none=>110
 | some t=>if t=ty then 0 else 111
def compE (T:Int→TyI) (C:Int→Option Int) (ty:Int):List Int→Nat→Int
 | [],_=>0
 | a :: r,k=>if heldE C a (prt T ty k)≠0 then heldE C a (prt T ty k) else compE T C ty r (k+1)
def varE (T:Int→TyI) (C:Int→Option Int) (ty:Int) (l:List Int):Int :=
 if (T ty).kind≠7 then 100
 else if (T ty).cls≠ixn l 0∨(1<l.length∧(T ty).cls=1) then 112
 else if l.length=1 then 0
 else heldE C (ixn l 1) (prt T ty 0)
def conE (T:Int→TyI) (C:Int→Option Int) (i:InstI):Int :=
 if i.1=59 then varE T C i.2.1 (nums i.2.2.2)
 else if i.1=1∨i.1=46 then (if 0<(T i.2.1).size then 0 else 100)
 else if i.1=41∨i.1=42 then (if (T i.2.1).kind=2 then 0 else 100)
 else if i.1=43 then (if (T i.2.1).kind=3 then 0 else 100)
 else if i.1=44 then (if (T i.2.1).kind≠4∧(T i.2.1).kind≠5∧(T i.2.1).kind≠6 then 100 else if (i.2.2.2.length:Int)≠cntT (T i.2.1) then 111 else compE T C i.2.1 (nums i.2.2.2) 0)
 else 0
def conN (C:Int→Option Int) (i:InstI):Int→Option Int:=if conB i.1=true then updT C i.2.2.1 (some i.2.1) else C
def conL (T:Int→TyI):(Int→Option Int)→List InstI→Nat→Int × Int × (Int→Option Int)
 | C,[],_=>(0,0,C)
 | C,i :: r,k=>if conE T C i≠0 then (conE T C i,(k:Int),C) else conL T (conN C i) r (k+1)
noncomputable def globs (L:List InstI):List InstI:=(L.drop ((cutR L).2.2 14).toNat).take (((cutR L).2.2 15).toNat-((cutR L).2.2 14).toNat)
noncomputable def conM (bound:Int) (L:List InstI):Int × Int × StN × (Int→Option Int) :=
 if (newM bound L).1≠0 then ((newM bound L).1,(newM bound L).2.1,st0,fun _=>none)
 else let r:=conL (newM bound L).2.2.T (fun _=>none) (globs L) ((cutR L).2.2 14).toNat
  (r.1,r.2.1,(newM bound L).2.2,r.2.2)
def makN (M:Int→InstI) (i:InstI):Int→InstI:=if i.2.2.1≠0 then updT M i.2.2.1 i else M
def makL (L:List InstI):Int→InstI:=L.foldl makN fun _=>(0,0,0,[])
structure Tg where
 T:Int→TyI
 M:Int→InstI
 C:Int→Option Int
def ofT (M:Int→InstI) (id:Int):Int:=if (M id).1=54 then 0 else (M id).2.1
def toT (T:Int→TyI) (ty:Int):Int × Int:=if (T ty).kind=7 then (prt T ty 0,(T ty).cls) else (0,0)
def leafK (T:Int→TyI) (ty:Int):Int:=if (T ty).kind=4 then (T (prt T ty 0)).kind else (T ty).kind
def wideB (T:Int→TyI) (a b:Int):Bool:=if (T a).kind=4∨(T b).kind=4 then (T a).kind==(T b).kind&&cntT (T a)==cntT (T b) else true
def alk (T:Int→TyI) (a b:Int):Bool:=alikeT T 17 a b
def alkL (g:Tg) (ty:Int) (l:List Int):Bool:=l.all fun a=>alk g.T ty (ofT g.M a)
def numL (g:Tg) (l:List Int):Bool:=l.all fun a=>(g.T (ofT g.M a)).kind==3
def sigR (T:Int→TyI) (f:Int):List Int→Nat→Bool
 | [],_=>true
 | ty :: r,k=>prt T f (k+1:Nat)==ty&&sigR T f r (k+1)
def sigB (T:Int→TyI) (f back:Int) (l:List Int):Bool:=(T f).kind==8&&cntT (T f)==l.length+1&&prt T f 0==back&&sigR T f l 0
def parL:List InstI→List Int
 | []=>[]
 | i :: r=>if i.1=55 then i.2.1 :: parL r else []
def chainR (g:Tg):Int→List Int→Option Int
 | ty,[]=>some ty
 | ty,a :: r =>
  if (g.T ty).kind=6 then
   (if (g.M a).1≠43∨cntT (g.T ty)≤ixn (nums (g.M a).2.2.2) 0 then some 0 else chainR g (prt g.T ty (ixn (nums (g.M a).2.2.2) 0)) r)
  else if (g.T ty).kind=4∨(g.T ty).kind=5 then (if (g.T (ofT g.M a)).kind=3 then chainR g (prt g.T ty 0) r else none)
  else none
def pathR (T:Int→TyI):Int→List Int→Int
 | ty,[]=>ty
 | ty,a :: r=>if cntT (T ty)≤a then 0 else pathR T (prt T ty a) r
def pathT (T:Int→TyI) (ty:Int) (l:List Int):Int:=if 0<(T ty).size then pathR T ty l else 0
def consR (g:Tg) (ty:Int):List Int→Nat→Bool
 | [],_=>true
 | a :: r,k=>ofT g.M a==prt g.T ty k&&consR g ty r (k+1)
def phiR (g:Tg) (ty:Int):List Int→Nat→Bool
 | [],_=>true
 | a :: r,k=>(!(k % 2==0)||ofT g.M a==ty)&&phiR g ty r (k+1)
def memB (g:Tg) (op ty:Int) (l:List Int):Bool :=
 let a:=ofT g.M (ixn l 0)
 let b:=ofT g.M (ixn l 1)
 if op=57 then (g.M (ixn l 0)).1==54&&sigB g.T (ixn (nums (g.M (ixn l 0)).2.2.2) 1) ty ((l.drop 1).map (ofT g.M))
 else if op=59 then (toT g.T ty).1 != 0&&(toT g.T ty).2==7&&(l.length==1||g.C (ixn l 1)==some (toT g.T ty).1)
 else if op=61 then (toT g.T a).1 != 0&&(toT g.T a).1==ty
 else if op=62 then (toT g.T a).1 != 0&&(toT g.T a).2 != 1&&(toT g.T a).1==b
 else if op=65 then (toT g.T ty).1 != 0&&(toT g.T a).1 != 0&&(toT g.T ty).2==(toT g.T a).2&&chainR g (toT g.T a).1 (l.drop 1)==some (toT g.T ty).1
 else if op=77 then (g.T a).kind==4&&prt g.T a 0==ty&&numL g [ixn l 1]
 else if op=78 then (g.T ty).kind==4&&a==ty&&b==prt g.T ty 0&&numL g [ixn l 2]
 else if op=79 then [ty,a,b].all (fun v=>(g.T v).kind==4&&prt g.T v 0==prt g.T ty 0)&&((l.drop 2).length:Int)==cntT (g.T ty)&&(l.drop 2).all fun x=>decide (x<cntT (g.T a)+cntT (g.T b))
 else if op=80 then ((g.T ty).kind==4||(g.T ty).kind==5||(g.T ty).kind==6)&&cntT (g.T ty)==l.length&&consR g ty l 0
 else if op=81 then pathT g.T a (l.drop 1) != 0&&pathT g.T a (l.drop 1)==ty
 else if op=82 then pathT g.T ty (l.drop 2) != 0&&b==ty&&a==pathT g.T ty (l.drop 2)
 else if op=83 then decide (0<(g.T ty).size)&&a==ty
 else true
def askB (g:Tg) (op ty:Int) (l:List Int) (back:Int):Bool :=
 let a:=ofT g.M (ixn l 0)
 let num:=leafK g.T ty==3
 let tru:=leafK g.T ty==2
 if 149≤op∧op≤152 then (g.T ty).kind==6&&cntT (g.T ty)==2&&prt g.T ty 1==prt g.T ty 0&&leafK g.T (prt g.T ty 0)==3&&alkL g (prt g.T ty 0) l
 else if op=154∨op=155 then (g.T ty).kind==2&&(g.T a).kind==4&&leafK g.T a==2
 else if 164≤op∧op≤168 then tru&&alkL g ty l
 else if op=169 then (tru||num)&&ofT g.M (ixn l 1)==ty&&ofT g.M (ixn l 2)==ty&&leafK g.T a==2&&wideB g.T a ty
 else if 170≤op∧op≤179 then tru&&leafK g.T a==3&&wideB g.T a ty&&alkL g a [ixn l 1]
 else if 201≤op∧op≤203 then num&&alkL g ty (l.take (l.length-2))&&numL g (l.drop (l.length-2))
 else if 124≤op∧op≤205 then num&&alkL g ty l
 else if op=245 then phiR g ty l 0&&decide (0<(g.T ty).size)
 else if op=250 then (g.T a).kind==2
 else if op=251 then numL g [ixn l 0]
 else if op=253 then (g.T back).kind==1
 else if op=254 then decide (0<(g.T back).size)&&a==back
 else memB g op ty l
def askedB (i:InstI):Bool:=if i.1=59 then ixn (nums i.2.2.2) 0==7 else partOf i.1==8
def fitT (g:Tg) (i:InstI) (r:List InstI) (back:Int):Bool :=
 if askedB i=false then true
 else if i.1=54 then sigB g.T (ixn (nums i.2.2.2) 1) i.2.1 (parL r)
 else askB g i.1 i.2.1 (nums i.2.2.2) back
def backL (L:List InstI):Int:=L.foldl (fun b i=>if i.1=54 then i.2.1 else b) 0
def fitAt (g:Tg) (L:List InstI) (at_:Nat):Bool:=match L[at_]? with
 | none=>true
 | some i=>fitT g i (L.drop (at_+1)) (backL (L.take at_))
def chkL (g:Tg):List InstI→Int→Nat→Int × Int
 | [],_,_=>(0,0)
 | i :: r,b,k=>if fitT g i r (if i.1=54 then i.2.1 else b)=true then chkL g r (if i.1=54 then i.2.1 else b) (k+1) else (180,k)
noncomputable def tgM (bound:Int) (L:List InstI):Tg:=⟨(conM bound L).2.2.1.T,makL L,(conM bound L).2.2.2⟩
noncomputable def chkM (bound:Int) (L:List InstI):Int × Int:=if (conM bound L).1≠0 then ((conM bound L).1,(conM bound L).2.1) else chkL (tgM bound L) L 0 0
theorem fitT_back {g:Tg} {i:InstI} {r:List InstI} {b:Int}:fitT g i r (if i.1=54 then i.2.1 else b)=fitT g i r b:=by
 unfold fitT
 by_cases h:i.1=54
 ·simp only [h,if_true]
 ·simp only [if_neg h]
theorem backL_step {L:List InstI} {k:Nat} {i:InstI} (h:L[k]?=some i):backL (L.take (k+1))=if i.1=54 then i.2.1 else backL (L.take k):=by
 obtain ⟨hk,rfl⟩:=List.getElem?_eq_some_iff.1 h;unfold backL;rw [List.take_succ_eq_append_getElem hk,List.foldl_append];rfl
theorem fitAt_at {g:Tg} {L:List InstI} {k:Nat} {i:InstI} (h:L[k]?=some i):fitAt g L k=fitT g i (L.drop (k+1)) (backL (L.take k)):=by
 unfold fitAt;rw [h]
theorem chkL_spec (g:Tg) (L:List InstI):∀ (r:List InstI) (k:Nat),L.drop k=r →
  ((chkL g r (backL (L.take k)) k).1=0∧(chkL g r (backL (L.take k)) k).2=0∧∀ j,k≤j→j<L.length→fitAt g L j=true) ∨
  ((chkL g r (backL (L.take k)) k).1=180∧∃ m:Nat,(chkL g r (backL (L.take k)) k).2=(m:Int)∧k≤m∧m<L.length∧fitAt g L m=false∧∀ j,k≤j→j<m→fitAt g L j=true)
 | [],k,h=>by
  refine .inl ⟨rfl,rfl,fun j hj hl=>?_⟩
  have:=List.drop_eq_nil_iff.1 h;omega
 | i :: r,k,h=>by
  have hk:k<L.length:=by
   rcases Nat.lt_or_ge k L.length with h1 | h1
   ·exact h1
   ·rw [List.drop_eq_nil_iff.2 h1] at h;cases h
  have hi:L[k]?=some i:=by
   rw [← List.head?_drop,h];rfl
  have hr:L.drop (k+1)=r:=by
   rw [← List.tail_drop,h];rfl
  have e:chkL g (i :: r) (backL (L.take k)) k=if fitT g i r (backL (L.take k))=true then chkL g r (backL (L.take (k+1))) (k+1) else (180,(k:Int)):=by
   rw [backL_step hi,← fitT_back];rfl
  have hf:=fitAt_at (g:=g) hi;rw [hr] at hf;rw [e,← hf]
  by_cases h1:fitAt g L k=true
  ·rw [if_pos h1];have hj:∀ j,k≤j→j=k∨k+1≤j:=fun j hj=>by omega
   rcases chkL_spec g L r (k+1) hr with ⟨g1,g2,g3⟩ | ⟨g1,m,g2,g3,g4,g5,g6⟩
   ·refine .inl ⟨g1,g2,fun j hj' hl=>?_⟩
    rcases hj j hj' with rfl | h2
    ·exact h1
    ·exact g3 j h2 hl
   ·refine .inr ⟨g1,m,g2,by omega,g4,g5,fun j hj' hl=>?_⟩
    rcases hj j hj' with rfl | h2
    ·exact h1
    ·exact g6 j h2 hl
  ·rw [if_neg h1];exact .inr ⟨rfl,k,rfl,Nat.le_refl k,hk,Bool.eq_false_iff.2 h1,fun j hj hl=>by omega⟩
end
section
def argN (op:Int):Nat :=
 if op=43∨op=57∨op=59∨op=61∨op=65∨op=81∨op=83∨op=154∨op=155∨op=250∨op=251∨op=254 then 1
 else if op=54∨op=62∨op=77∨op=79∨op=82∨(170≤op∧op≤179)∨(201≤op∧op≤203) then 2
 else if op=78∨op=169 then 3 else 0
end
section
theorem arg_forms:((List.range 256).all fun k=>match formOf (k:Nat) with | some f=>decide (argN (k:Nat)≤f.fixed.length) | none=>true)=true:=by decide +kernel
theorem InstW.least {i:InstI} {bound:Int} {f:FormI} (h:InstW i bound f):argN i.1≤i.2.2.2.length:=by
 refine Nat.le_trans ?_ h.len
 by_cases hb:0≤i.1∧i.1<256
 ·have h1:=arg_forms;rw [List.all_eq_true] at h1;have h2:=h1 i.1.toNat (List.mem_range.2 (by omega))
  rw [show ((i.1.toNat:Nat):Int)=i.1 by omega,h.form] at h2
  simpa using h2
 ·unfold argN;rw [if_neg (by omega),if_neg (by omega),if_neg (by omega)]
  exact Nat.zero_le _
theorem comp_sum {T:Int→TyI} (hT:Typed T) {ty:Int} (hk:(T ty).kind=4∨(T ty).kind=5∨(T ty).kind=6):(T ty).size=sumP T (T ty) (cntT (T ty)).toNat∧0≤cntT (T ty)∧∀ k:Nat,(k:Int)≤cntT (T ty)→0≤sumP T (T ty) k∧sumP T (T ty) k≤4096:=by
 have hs:0<(T ty).size:=(hT.size ty).2.1.2 (by omega)
 have hc:cntT (T ty)≠0:=fun h=>by
  have:=(plain_bare hT hs h).2;omega
 have h1:=(plain_sum hT hs hc).1;have h0:0≤cntT (T ty):=by
  rcases hT.ok ty with h | ⟨b,h⟩
  ·rw [h];decide
  ·have:=h.mild;unfold cntT;have:=this.lo;omega
 refine ⟨h1,h0,fun k hk=>⟨sumP_pos (fun id=>(hT.size id).1) _ k,?_⟩⟩
 have h2:=sumP_mono (fun id=>(hT.size id).1) (T ty) ((cntT (T ty)).toNat-k) k
 rw [show k+((cntT (T ty)).toNat-k)=(cntT (T ty)).toNat by omega,← h1] at h2
 exact Int.le_trans h2 (hT.size ty).2.2
end
section
theorem conM_ok {bound:Int} {L:List InstI} (h:(conM bound L).1=0):(newM bound L).1=0∧(conM bound L).2.2.1=(newM bound L).2.2∧WellS (newM bound L).2.2∧(newM bound L).2.2.T 0=ty0∧(idsM bound L).1=0:=by
 have h0:(newM bound L).1=0:=by
  by_cases h1:(newM bound L).1=0
  ·exact h1
  ·unfold conM at h;rw [if_pos h1] at h;exact absurd h h1
 have e:newM bound L=(0,(newM bound L).2.1,(newM bound L).2.2):=by rw [← h0]
 obtain ⟨hw,hz⟩:=newM_well e;refine ⟨h0,?_,hw,hw.out 0 (fun hc=>(hz 0 hc) rfl),?_⟩
 ·unfold conM;rw [if_neg (fun hc=>hc h0)]
 ·by_cases h1:(idsM bound L).1=0
  ·exact h1
  ·unfold newM at h0;rw [if_pos h1] at h0;exact absurd h0 h1
theorem makN_in {A:List InstI} {M:Int→InstI} {i:InstI} (hM:∀ id,M id=(0,0,0,[])∨(M id∈A∧(M id).2.2.1=id∧id≠0)) (hi:i∈A):∀ id,makN M i id=(0,0,0,[])∨(makN M i id∈A∧(makN M i id).2.2.1=id∧id≠0):=by
 intro id;unfold makN
 split
 ·unfold updT
  split
  ·rename_i h1 h2
   exact .inr ⟨hi,h2.symm,by rw [h2];exact h1⟩
  ·exact hM id
 ·exact hM id
theorem foldN_in {A:List InstI}:∀ {L:List InstI} {M:Int→InstI},(∀ id,M id=(0,0,0,[])∨(M id∈A∧(M id).2.2.1=id∧id≠0))→(∀ i∈L,i∈A)→∀ id,L.foldl makN M id=(0,0,0,[])∨(L.foldl makN M id∈A∧(L.foldl makN M id).2.2.1=id∧id≠0)
 | [],_,hM,_=>hM
 | i :: r,_,hM,hL=>foldN_in (L:=r) (makN_in hM (hL i List.mem_cons_self)) (fun j hj=>hL j (List.mem_cons_of_mem _ hj))
theorem makL_in (L:List InstI) (id:Int):makL L id=(0,0,0,[])∨(makL L id∈L∧(makL L id).2.2.1=id∧id≠0):=foldN_in (fun _=>.inl rfl) (fun _ h=>h) id
theorem alk_size {T:Int→TyI} {a b:Int} (h:alk T a b=true):(T a).size≠0∧(T a).kind=(T b).kind∧(T a).size=(T b).size:=by
 obtain ⟨⟨h1,h2,h3,-⟩,-⟩:=alikeT_iff.1 (show alikeT T (16+1) a b=true from h)
 exact ⟨h1,h2,h3⟩
def sizedV (g:Tg) (bound id:Int):Int:=if id=0∨bound≤id∨ofT g.M id=0 then -1 else if (g.T (ofT g.M id)).kind=7 then (g.T (prt g.T (ofT g.M id) 0)).size else (g.T (ofT g.M id)).size
def szT:List (Int × Nat):=[(128,2),(130,2),(132,2),(134,2),(135,2),(137,2),(138,2),(139,2),(194,2),(195,2),(196,2),(197,2),(198,2),(199,2),(62,2),(61,1),(83,1),(126,1),(200,1)]
theorem sz_forms:(szT.all fun x=>match formOf x.1 with | some f=>decide (x.2≤f.fixed.length)&&decide (f.part=8)&&(List.range x.2).all (fun k=>decide (kindT (letterOf x.1 k)=1)) | none=>false)=true:=by decide +kernel
theorem sz_arg {i:InstI} {bound:Int} {f:FormI} (h:InstW i bound f) {n:Nat} (hm:(i.1,n)∈szT):partOf i.1=8∧∀ k,k<n→ixn (nums i.2.2.2) k≠0∧ixn (nums i.2.2.2) k<bound∧k<i.2.2.2.length:=by
 have h1:=sz_forms;rw [List.all_eq_true] at h1;have h2:=h1 _ hm;have hl:=h.len;dsimp only at h2;rw [h.form] at h2;simp only [Bool.and_eq_true,decide_eq_true_eq,List.all_eq_true] at h2;refine ⟨?_,fun k hk=>?_⟩
 ·unfold partOf;rw [h.form];exact h2.1.2
 ·have hkl:k<i.2.2.2.length:=by omega
  have h3:=argE_ok (h.args k hkl);have h4:=h2.2 k (List.mem_range.2 hk);have h5:=h3.2.2.2.1 (by rw [h3.2.1,h4])
  rw [nums_getD hkl];exact ⟨h5.1,h5.2,hkl⟩
theorem ask_arith {g:Tg} {op ty back:Int} {l:List Int} (h1:124≤op∧op≤205) (h2:¬ (149≤op∧op≤152)) (h3:¬ (op=154∨op=155)) (h4:¬ (164≤op∧op≤168)) (h5:¬ op=169) (h6:¬ (170≤op∧op≤179)) (h7:¬ (201≤op∧op≤203)) :
  askB g op ty l back=(leafK g.T ty==3&&alkL g ty l):=by
 unfold askB;dsimp only;rw [if_neg h2,if_neg h3,if_neg h4,if_neg h5,if_neg h6,if_neg h7,if_pos h1]
theorem ask_mem {g:Tg} {op ty back:Int} {l:List Int} (h1:54≤op∧op≤83):askB g op ty l back=memB g op ty l:=by
 unfold askB;dsimp only;rw [if_neg (by omega),if_neg (by omega),if_neg (by omega),if_neg (by omega),if_neg (by omega),if_neg (by omega),if_neg (by omega),if_neg (by omega),if_neg (by omega),if_neg (by omega),if_neg (by omega),if_neg (by omega)]
theorem points_plain {T:Int→TyI} (hT:Typed T) {a:Int} (h:(toT T a).1≠0):(T a).kind=7∧(toT T a).1=prt T a 0∧0<(T (prt T a 0)).size:=by
 unfold toT at h
 by_cases hk:(T a).kind=7
 ·refine ⟨hk,by unfold toT;rw [if_pos hk],?_⟩
  rcases hT.ok a with h1 | ⟨b,h1⟩
  ·rw [h1] at hk;cases hk
  ·unfold prt;generalize hx:T a=x at *;cases h1 with
   | ptr c p h2 h3 h4=>exact h3
   | void=>cases hk
   | bool=>cases hk
   | int s=>cases hk
   | vec p n=>exact absurd hk (by show ¬ (4:Int)=7;decide)
   | arr p n=>exact absurd hk (by show ¬ (5:Int)=7;decide)
   | str l s d=>exact absurd hk (by show ¬ (6:Int)=7;decide)
   | fn l=>exact absurd hk (by show ¬ (8:Int)=7;decide)
 ·rw [if_neg hk] at h;exact absurd rfl h
section
variable {g:Tg} {bound id:Int}
theorem sized_plain (hT:Typed g.T) (h0:id≠0) (h1:id<bound) (h2:ofT g.M id≠0) (h3:0<(g.T (ofT g.M id)).size):sizedV g bound id=(g.T (ofT g.M id)).size:=by
 unfold sizedV;rw [if_neg (by omega),if_neg]
 have:=(hT.size (ofT g.M id)).2.1.1 h3;omega
theorem sized_points (hT:Typed g.T) (h0:id≠0) (h1:id<bound) (hz:(toT g.T (ofT g.M id)).1≠0) (h2:ofT g.M id≠0):sizedV g bound id=(g.T (toT g.T (ofT g.M id)).1).size∧0<(g.T (toT g.T (ofT g.M id)).1).size:=by
 obtain ⟨a1,a2,a3⟩:=points_plain hT hz;rw [a2];refine ⟨?_,a3⟩;unfold sizedV;rw [if_neg (by omega),if_pos a1]
end
structure SizedI (g:Tg) (bound:Int) (i:InstI):Prop where
 two:i.1∈[(128:Int),130,132,134,135,137,138,139,194,195,196,197,198,199]→sizedV g bound (ixn (nums i.2.2.2) 0)=(g.T i.2.1).size∧sizedV g bound (ixn (nums i.2.2.2) 1)=(g.T i.2.1).size∧2≤i.2.2.2.length
 store:i.1=62→sizedV g bound (ixn (nums i.2.2.2) 0)=sizedV g bound (ixn (nums i.2.2.2) 1)∧1≤sizedV g bound (ixn (nums i.2.2.2) 0)∧2≤i.2.2.2.length
 load:i.1=61→sizedV g bound (ixn (nums i.2.2.2) 0)=(g.T i.2.1).size∧1≤sizedV g bound (ixn (nums i.2.2.2) 0)∧1≤i.2.2.2.length
 one:i.1∈[(83:Int),126,200]→sizedV g bound (ixn (nums i.2.2.2) 0)=(g.T i.2.1).size∧1≤i.2.2.2.length
theorem fit_ask {g:Tg} {i:InstI} {r:List InstI} {back:Int} (h:fitT g i r back=true) (hp:partOf i.1=8) (h1:i.1≠59) (h2:i.1≠54):askB g i.1 i.2.1 (nums i.2.2.2) back=true:=by
 unfold fitT askedB at h;rw [if_neg h1,if_neg h2] at h;rw [if_neg (by rw [hp];decide)] at h
 exact h
theorem ixn_mem' {l:List Int} {k:Nat} (h:k<l.length):ixn l k∈l:=by
 unfold ixn;rw [List.getD_eq_getElem?_getD,List.getElem?_eq_getElem h];exact List.getElem_mem h
theorem sized_of {g:Tg} {bound:Int} {i:InstI} {f:FormI} {r:List InstI} {back:Int} (hT:Typed g.T) (h0:g.T 0=ty0) (hi:InstW i bound f) (h:fitT g i r back=true):SizedI g bound i:=by
 have hnl:(nums i.2.2.2).length=i.2.2.2.length:=List.length_map ..;have hz:∀ {a:Int},(g.T a).size≠0→a≠0:=fun ha e=>ha (by rw [e,h0];rfl)
 have hz7:∀ {a:Int},(toT g.T a).1≠0→a≠0:=fun ha e=>ha (by rw [e];unfold toT;rw [h0];rfl)
 have arith:∀ {n:Nat},(i.1,n)∈szT→124≤i.1∧i.1≤205→¬ (149≤i.1∧i.1≤152)→¬ (i.1=154∨i.1=155)→¬ (164≤i.1∧i.1≤168)→¬ i.1=169→¬ (170≤i.1∧i.1≤179)→¬ (201≤i.1∧i.1≤203)→∀ k,k<n→sizedV g bound (ixn (nums i.2.2.2) k)=(g.T i.2.1).size:=by
  intro n hm b1 b2 b3 b4 b5 b6 b7 k hk;obtain ⟨hp,ha⟩:=sz_arg hi hm;obtain ⟨a1,a2,a3⟩:=ha k hk;have hA:=fit_ask h hp (by omega) (by omega)
  rw [ask_arith b1 b2 b3 b4 b5 b6 b7,Bool.and_eq_true] at hA;have hal:=hA.2;unfold alkL at hal;rw [List.all_eq_true] at hal;obtain ⟨c1,c2,c3⟩:=alk_size (hal _ (ixn_mem' (k:=k) (by rw [hnl];exact a3)))
  have hs:=hT.size i.2.1;rw [sized_plain hT a1 a2 (hz (by rw [← c3];exact c1)) (by rw [← c3];omega),c3]
 refine ⟨fun hm=>?_,fun hm=>?_,fun hm=>?_,fun hm=>?_⟩
 ·have hm2:(i.1,2)∈szT:=by
   simp only [List.mem_cons,List.not_mem_nil,or_false] at hm
   rcases hm with e | e | e | e | e | e | e | e | e | e | e | e | e | e <;> rw [e] <;> decide
  have hb:124≤i.1∧i.1≤205∧¬ (149≤i.1∧i.1≤152)∧¬ (i.1=154∨i.1=155)∧¬ (164≤i.1∧i.1≤168)∧¬ i.1=169∧¬ (170≤i.1∧i.1≤179)∧¬ (201≤i.1∧i.1≤203):=by
   simp only [List.mem_cons,List.not_mem_nil,or_false] at hm;omega
  obtain ⟨b0,b1,b2,b3,b4,b5,b6,b7⟩:=hb;have h3:=((sz_arg hi hm2).2 1 (by decide)).2.2
  exact ⟨arith hm2 ⟨b0,b1⟩ b2 b3 b4 b5 b6 b7 0 (by decide),arith hm2 ⟨b0,b1⟩ b2 b3 b4 b5 b6 b7 1 (by decide),by omega⟩
 ·obtain ⟨hp,ha⟩:=sz_arg hi (n:=2) (by rw [hm];decide)
  obtain ⟨a1,a2,a3⟩:=ha 0 (by decide)
  obtain ⟨b1,b2,b3⟩:=ha 1 (by decide)
  have hA:=fit_ask h hp (by omega) (by omega)
  rw [ask_mem (by omega)] at hA
  unfold memB at hA;rw [hm] at hA;simp only [Bool.and_eq_true,bne_iff_ne,beq_iff_eq,ne_eq,Int.reduceEq,if_false,if_true] at hA;obtain ⟨⟨c1,c2⟩,c3⟩:=hA;obtain ⟨d1,d2⟩:=sized_points (bound:=bound) hT a1 a2 c1 (hz7 c1);have e2:=sized_plain (bound:=bound) hT b1 b2 (by rw [← c3];exact c1) (by rw [← c3];exact d2)
  rw [d1,e2,← c3];exact ⟨rfl,by omega,by omega⟩
 ·obtain ⟨hp,ha⟩:=sz_arg hi (n:=1) (by rw [hm];decide)
  obtain ⟨a1,a2,a3⟩:=ha 0 (by decide)
  have hA:=fit_ask h hp (by omega) (by omega)
  rw [ask_mem (by omega)] at hA
  unfold memB at hA;rw [hm] at hA;simp only [Bool.and_eq_true,bne_iff_ne,beq_iff_eq,ne_eq,Int.reduceEq,if_false,if_true] at hA;obtain ⟨c1,c3⟩:=hA;obtain ⟨d1,d2⟩:=sized_points (bound:=bound) hT a1 a2 c1 (hz7 c1);rw [d1,c3];rw [c3] at d2;exact ⟨rfl,by omega,by omega⟩
 ·simp only [List.mem_cons,List.not_mem_nil,or_false] at hm
  by_cases h83:i.1=83
  ·obtain ⟨hp,ha⟩:=sz_arg hi (n:=1) (by rw [h83];decide)
   obtain ⟨a1,a2,a3⟩:=ha 0 (by decide)
   have hA:=fit_ask h hp (by omega) (by omega)
   rw [ask_mem (by omega)] at hA
   unfold memB at hA;rw [h83] at hA;simp only [Bool.and_eq_true,decide_eq_true_eq,beq_iff_eq,Int.reduceEq,if_false,if_true] at hA;obtain ⟨c1,c3⟩:=hA;rw [← c3] at c1 ⊢;exact ⟨sized_plain hT a1 a2 (hz (by omega)) c1,by omega⟩
  ·have hm2:(i.1,1)∈szT:=by
    rcases hm with e | e | e
    ·exact absurd e h83
    ·rw [e];decide
    ·rw [e];decide
   have h3:=((sz_arg hi hm2).2 0 (by decide)).2.2
   exact ⟨arith hm2 (by omega) (by omega) (by omega) (by omega) (by omega) (by omega) (by omega) 0 (by decide),by omega⟩
theorem typed_sizes {bound:Int} {L:List InstI} (h:(chkM bound L).1=0):∀ i∈L,SizedI (tgM bound L) bound i:=by
 have hc:(conM bound L).1=0:=by
  by_cases h1:(conM bound L).1=0
  ·exact h1
  ·unfold chkM at h;rw [if_pos h1] at h;exact absurd h h1
 obtain ⟨h1,h2,h3,h4,h5⟩:=conM_ok hc;unfold chkM at h;rw [if_neg (fun hn=>hn hc)] at h
 intro i hi;obtain ⟨k,hk⟩:=List.getElem?_of_mem hi;have hkl:=(List.getElem?_eq_some_iff.1 hk).1
 rcases chkL_spec (tgM bound L) L L 0 rfl with ⟨-,-,g3⟩ | ⟨g1,-⟩
 ·have hf:=g3 k (Nat.zero_le _) hkl;rw [fitAt_at hk] at hf;obtain ⟨f,wi⟩:=rawR_ok (ids_shape h5 i hi);have eT:(tgM bound L).T=(newM bound L).2.2.T:=by unfold tgM;rw [h2]
  exact sized_of (by rw [eT];exact h3.typed) (by rw [eT];exact h4) wi hf
 ·exact absurd (g1.symm.trans h) (by decide)
end
end Go.Proofs.YtdebjkiilnhgpaaGreatDoor
