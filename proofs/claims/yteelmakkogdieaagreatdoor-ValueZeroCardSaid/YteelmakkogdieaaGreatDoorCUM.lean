/- Plain: a module with other ids: its shape, how it stands, its ids. -/
import Derived.Test.YteelmakkogdieaaGreatDoorCTN
import Derived.Test.YteelmakkogdieaaGreatDoorCUA
namespace Go.Proofs.YteelmakkogdieaaGreatDoor
section
structure RenOk (tq:Int→Int) (U:Int→Prop) (b:Int):Prop where
 zero:tq 0=0
 u0:U 0
 inj:∀ x y,U x→U y→tq x=tq y→x=y
 bd:∀ x,U x→x≠0→1≤tq x∧tq x<b
structure Used (U:Int→Prop) (i:InstI):Prop where
 ty:U i.2.1
 res:U i.2.2.1
 args:∀ a∈i.2.2.2,a.1=1→U a.2.1
theorem RenOk.ne {tq:Int→Int} {U:Int→Prop} {b:Int} (h:RenOk tq U b) {x:Int} (hx:U x):(tq x != 0)=(x != 0):=by
 by_cases e:x=0
 ·rw [e,h.zero]
 ·have h1:=h.bd x hx e;have e1:(tq x != 0)=true:=by simpa using (show tq x≠0 by omega)
  have e2:(x != 0)=true:=by simpa using e
  rw [e1,e2]
structure SameL (l' l:List InstI):Prop where
 len:l'.length=l.length
 nx:∀ k,nx l' k=nx l k
 op:∀ k,opAt l' k=opAt l k
 part:∀ k,partAt l' k=partAt l k
theorem SameL.rowTo {l' l:List InstI} (h:SameL l' l) (kd:Int):∀ q k,Go.Proofs.YteelmakkogdieaaGreatDoor.rowTo l' kd q k=Go.Proofs.YteelmakkogdieaaGreatDoor.rowTo l kd q k
 | 0,k=>rfl
 | q+1,k=>by
  unfold Go.Proofs.YteelmakkogdieaaGreatDoor.rowTo;rw [h.nx k,h.rowTo kd q (k+1)]
theorem SameL.rowEnd {l' l:List InstI} (h:SameL l' l) (kd:Int) (k:Nat):Go.Proofs.YteelmakkogdieaaGreatDoor.rowEnd l' kd k=Go.Proofs.YteelmakkogdieaaGreatDoor.rowEnd l kd k:=by
 unfold Go.Proofs.YteelmakkogdieaaGreatDoor.rowEnd;rw [h.len,h.rowTo]
theorem SameL.topTo {l' l:List InstI} (h:SameL l' l) (p:Int):∀ q k,Go.Proofs.YteelmakkogdieaaGreatDoor.topTo l' p q k=Go.Proofs.YteelmakkogdieaaGreatDoor.topTo l p q k
 | 0,k=>rfl
 | q+1,k=>by
  unfold Go.Proofs.YteelmakkogdieaaGreatDoor.topTo;rw [h.nx k,h.part k,h.topTo p q (k+1)]
theorem SameL.topEnd {l' l:List InstI} (h:SameL l' l) (p:Int) (k:Nat):Go.Proofs.YteelmakkogdieaaGreatDoor.topEnd l' p k=Go.Proofs.YteelmakkogdieaaGreatDoor.topEnd l p k:=by
 unfold Go.Proofs.YteelmakkogdieaaGreatDoor.topEnd;rw [h.len,h.topTo]
theorem SameL.topR {l' l:List InstI} (h:SameL l' l):∀ r p k f,Go.Proofs.YteelmakkogdieaaGreatDoor.topR l' r p k f=Go.Proofs.YteelmakkogdieaaGreatDoor.topR l r p k f
 | 0,_,_,_=>rfl
 | r+1,p,k,f=>by
  unfold Go.Proofs.YteelmakkogdieaaGreatDoor.topR;rw [h.topEnd,h.topR]
theorem SameL.blockR {l' l:List InstI} (h:SameL l' l) (first:Bool) (k:Nat):Go.Proofs.YteelmakkogdieaaGreatDoor.blockR l' first k=Go.Proofs.YteelmakkogdieaaGreatDoor.blockR l first k:=by
 unfold Go.Proofs.YteelmakkogdieaaGreatDoor.blockR;simp only [h.rowEnd,h.nx,h.op]
theorem SameL.blocksR {l' l:List InstI} (h:SameL l' l):∀ q first k,Go.Proofs.YteelmakkogdieaaGreatDoor.blocksR l' q first k=Go.Proofs.YteelmakkogdieaaGreatDoor.blocksR l q first k
 | 0,_,_=>rfl
 | q+1,first,k=>by
  unfold Go.Proofs.YteelmakkogdieaaGreatDoor.blocksR;rw [h.nx,h.blockR,h.blocksR q]
theorem SameL.funcsR {l' l:List InstI} (h:SameL l' l):∀ q k,Go.Proofs.YteelmakkogdieaaGreatDoor.funcsR l' q k=Go.Proofs.YteelmakkogdieaaGreatDoor.funcsR l q k
 | 0,_=>rfl
 | q+1,k=>by
  unfold Go.Proofs.YteelmakkogdieaaGreatDoor.funcsR;simp only [h.nx,h.rowEnd,h.blocksR,h.len,h.funcsR q]
theorem SameL.cutR {l' l:List InstI} (h:SameL l' l):Go.Proofs.YteelmakkogdieaaGreatDoor.cutR l'=Go.Proofs.YteelmakkogdieaaGreatDoor.cutR l:=by
 unfold Go.Proofs.YteelmakkogdieaaGreatDoor.cutR;simp only [h.topR,h.funcsR,h.len]
theorem idsF_mem {l:List ArgI} {x:Int} (h:x∈idsF l):∃ a∈l,a.1=1∧a.2.1=x:=by
 unfold idsF at h;obtain ⟨a,ha,rfl⟩:=List.mem_map.1 h;obtain ⟨h1,h2⟩:=List.mem_filter.1 ha;exact ⟨a,h1,by simpa using h2,rfl⟩
theorem idsOf_mem {i:InstI} {x:Int} (h:x∈idsOf i):x=i.2.1∨∃ a∈i.2.2.2,a.1=1∧a.2.1=x:=by
 unfold idsOf at h
 rcases List.mem_append.1 h with h | h
 ·split at h
  ·cases h
  ·exact .inl (List.mem_singleton.1 h)
 ·exact .inr (idsF_mem h)
theorem Used.ids {U:Int→Prop} {i:InstI} (h:Used U i):∀ x∈idsOf i,U x:=fun x hx=>by
 rcases idsOf_mem hx with rfl | ⟨a,ha,h1,rfl⟩
 ·exact h.ty
 ·exact h.args a ha h1
end
section
def NoSp (l:List UInt8):Prop:=∀ c∈l,c≠32
theorem nosp_digit {u:Nat} (h:u<10):UInt8.ofNat (48+u)≠32:=by
 have e:(UInt8.ofNat (48+u)).toNat=48+u:=by rw [UInt8.toNat_ofNat'];omega
 intro hc;rw [hc] at e;have e2:(32:UInt8).toNat=32:=rfl;omega
theorem nosp_dec (u:Nat):NoSp (Lib.decDigits u):=by
 induction u using Nat.strongRecOn with
 | _ u ih =>
  rw [Lib.decDigits]
  split
  ·rename_i h
   intro c hc;obtain rfl:=List.mem_singleton.1 hc;exact nosp_digit h
  ·rename_i h
   intro c hc
   rcases List.mem_append.1 hc with hc | hc
   ·exact ih (u / 10) (by omega) c hc
   ·obtain rfl:=List.mem_singleton.1 hc;exact nosp_digit (by omega)
theorem nosp_itoa {n:Int} (hn:0≤n):NoSp (Lib.itoa n):=by
 obtain ⟨a,rfl⟩:∃ a:Nat,n=a:=⟨n.toNat,by omega⟩
 rw [Lib.itoa_nonneg];exact nosp_dec a
def SpAhead:List UInt8→Prop
 | []=>True
 | c :: _=>c=32
theorem sp_inj:∀ {a b x y:List UInt8},NoSp a→NoSp b→SpAhead x→SpAhead y→a++x=b++y→a=b∧x=y
 | [],[],x,y,_,_,_,_,h=>⟨rfl,h⟩
 | [],d :: b,x,y,_,hb,hx,_,h=>by
  exfalso
  rw [List.nil_append,List.cons_append] at h;rw [h] at hx;exact hb d List.mem_cons_self hx
 | c :: a,[],x,y,ha,_,_,hy,h=>by
  exfalso
  rw [List.nil_append,List.cons_append] at h;rw [← h] at hy;exact ha c List.mem_cons_self hy
 | c :: a,d :: b,x,y,ha,hb,hx,hy,h=>by
  rw [List.cons_append,List.cons_append] at h;injection h with h1 h2
  obtain ⟨e1,e2⟩:=sp_inj (fun z hz=>ha z (List.mem_cons_of_mem _ hz)) (fun z hz=>hb z (List.mem_cons_of_mem _ hz)) hx hy h2
  exact ⟨by rw [h1,e1],e2⟩
def tailL (l:List Int):List UInt8:=(l.map fun n=>32 :: Lib.itoa n).flatten
theorem tailL_sp:∀ l:List Int,SpAhead (tailL l)
 | []=>trivial
 | _ :: _=>rfl
theorem tailL_cons (n:Int) (l:List Int):tailL (n :: l)=32 :: (Lib.itoa n++tailL l):=by
 unfold tailL;simp
theorem tailL_inj:∀ {l m:List Int},(∀ x∈l,0≤x)→(∀ x∈m,0≤x)→tailL l=tailL m→l=m
 | [],[],_,_,_=>rfl
 | [],y :: m,_,_,h=>by rw [tailL_cons] at h;cases h
 | x :: l,[],_,_,h=>by rw [tailL_cons] at h;cases h
 | x :: l,y :: m,hl,hm,h=>by
  rw [tailL_cons,tailL_cons] at h;injection h with _ h
  have hx:=hl x List.mem_cons_self;have hy:=hm y List.mem_cons_self;obtain ⟨e1,e2⟩:=sp_inj (nosp_itoa hx) (nosp_itoa hy) (tailL_sp l) (tailL_sp m) h;rw [itoa_inj hx hy e1,tailL_inj (fun z hz=>hl z (List.mem_cons_of_mem _ hz)) (fun z hz=>hm z (List.mem_cons_of_mem _ hz)) e2]
theorem keyL_inj {op op':Int} {l m:List Int} (h0:0≤op) (h1:0≤op') (hl:∀ x∈l,0≤x) (hm:∀ x∈m,0≤x) (h:keyL op l=keyL op' m):op=op'∧l=m:=by
 obtain ⟨e1,e2⟩:=sp_inj (nosp_itoa h0) (nosp_itoa h1) (tailL_sp l) (tailL_sp m) h;exact ⟨itoa_inj h0 h1 e1,tailL_inj hl hm e2⟩
theorem keyB_iff {i j:InstI} (h0:0≤i.1) (h1:0≤j.1) (hi:∀ x∈nums i.2.2.2,0≤x) (hj:∀ x∈nums j.2.2.2,0≤x):keyB i=keyB j ↔ i.1=j.1∧nums i.2.2.2=nums j.2.2.2:=by
 constructor
 ·intro h;unfold keyB at h;injection h with h
  have h2:=congrArg Array.toList h;rw [List.toList_toArray,List.toList_toArray] at h2;exact keyL_inj h0 h1 hi hj h2
 ·rintro ⟨e1,e2⟩;unfold keyB;rw [e1,e2]
theorem letter_in {op:Int} {f:FormI} (hf:formOf op=some f) (k:Nat):letterOf op k=0∨∃ c∈f.fixed++f.rest,letterOf op k=(c.toNat:Int):=by
 unfold letterOf;rw [hf]
 show letterB (bs f.fixed) (bs f.rest) f.most k=0∨∃ c∈f.fixed++f.rest,letterB (bs f.fixed) (bs f.rest) f.most k=(c.toNat:Int)
 have hm:∀ (l:List UInt8) (j:Nat) (h:j<(bs l).size),(bs l)[j]∈l:=fun l j h=>by
  have h2:(bs l)[j]∈(bs l).data.toList:=by rw [Array.mem_toList_iff];exact Array.getElem_mem _
  exact h2
 unfold letterB
 split
 ·unfold restB
  split
  ·exact .inl rfl
  ·split
   ·exact .inr ⟨_,List.mem_append_right _ (hm _ _ _),rfl⟩
   ·exact .inl rfl
 ·unfold fixedB
  split
  ·exact .inr ⟨_,List.mem_append_left _ (hm _ _ _),rfl⟩
  ·rename_i h1 h2
   exact absurd (dif_neg h2) h1
theorem ids_forms:([28,30,33].all fun op=>match formOf op with | some f=>(f.fixed++f.rest).all (fun c=>decide (kindT (c.toNat:Int)=1)) | none=>false)=true:=by decide +kernel
theorem InstW.all_ids {i:InstI} {bound:Int} {f:FormI} (h:InstW i bound f) (ho:i.1∈[(28:Int),30,33]):∀ a∈i.2.2.2,a.1=1:=by
 intro a ha;obtain ⟨k,hk,rfl⟩:=List.getElem_of_mem ha;have h1:=argE_ok (h.args k hk);rw [ag_of hk] at h1;have h2:=ids_forms;rw [List.all_eq_true] at h2;have h3:=h2 _ ho;rw [h.form] at h3;dsimp only at h3;rw [List.all_eq_true] at h3
 rcases letter_in h.form k with h4 | ⟨c,hc,h4⟩
 ·exact absurd h4 h1.1
 ·have h5:=h3 c hc;rw [decide_eq_true_eq] at h5;rw [h1.2.1,h4,h5]
section
variable {tq:Int→Int} {U:Int→Prop} {b:Int} {T T':Int→TyI}
end
end
end Go.Proofs.YteelmakkogdieaaGreatDoor
