/- Plain: numerals as a value's text has them, and how they are read. -/
import Derived.Lib.AtoiAllCases
import Derived.Lib.ItoaMem
import Derived.Test.YteelmakkogdieaaGreatDoorCUC
import Derived.Lib.Join
namespace Go.Proofs.YteelmakkogdieaaGreatDoor
section
open Go.Lib
theorem parse_snoc:∀ (l:List UInt8) (acc a:Nat) (c:UInt8),parseUint10 acc l=.ok a→48≤c.toNat∧c.toNat≤57→a*10+(c.toNat-48)<18446744073709551616→parseUint10 acc (l++[c])=.ok (a*10+(c.toNat-48))
 | [],acc,a,c,h,hc,hl=>by
  simp only [parseUint10,NumEnd.ok.injEq] at h;subst h;simp only [List.nil_append,parseUint10];rw [if_pos hc,if_neg (by omega),if_neg (by omega)]
 | d :: r,acc,a,c,h,hc,hl=>by
  simp only [List.cons_append,parseUint10] at h ⊢
  by_cases h1:48≤d.toNat∧d.toNat≤57
  ·rw [if_pos h1] at h ⊢
   by_cases h2:1844674407370955162≤acc
   ·rw [if_pos h2] at h;cases h
   ·rw [if_neg h2] at h ⊢
    by_cases h3:18446744073709551616≤acc*10+(d.toNat-48)
    ·rw [if_pos h3] at h;cases h
    ·rw [if_neg h3] at h ⊢;exact parse_snoc r _ a c h hc hl
  ·rw [if_neg h1] at h;cases h
def isDg (c:UInt8):Bool:=decide (48≤c.toNat)&&decide (c.toNat≤57)
theorem isDg_iff {c:UInt8}:isDg c=true ↔ 48≤c.toNat∧c.toNat≤57:=by unfold isDg;rw [Bool.and_eq_true,decide_eq_true_eq,decide_eq_true_eq]
theorem dec_one {u:Nat} (h:u<10):decDigits u=[UInt8.ofNat (48+u)]:=by rw [decDigits];simp [h]
theorem dec_more {u:Nat} (h:¬ u<10):decDigits u=decDigits (u / 10)++[UInt8.ofNat (48+u % 10)]:=by rw [decDigits];simp [h]
theorem byte_dg {k:Nat} (h:k<10):(UInt8.ofNat (48+k)).toNat=48+k:=by
 rw [UInt8.toNat_ofNat'];omega
theorem dec_digits (u:Nat):(∀ c∈decDigits u,isDg c=true)∧decDigits u≠[]:=by
 induction u using Nat.strongRecOn with
 | ind u ih =>
  by_cases h:u<10
  ·rw [dec_one h];refine ⟨fun c hc=>?_,by simp⟩
   rw [List.mem_singleton.1 hc,isDg_iff,byte_dg h];omega
  ·rw [dec_more h];refine ⟨fun c hc=>?_,by simp⟩
   rcases List.mem_append.1 hc with h1 | h1
   ·exact (ih (u / 10) (by omega)).1 c h1
   ·rw [List.mem_singleton.1 h1,isDg_iff,byte_dg (by omega)]
    omega
theorem parse_dec (u:Nat) (hu:u<18446744073709551616):parseUint10 0 (decDigits u)=.ok u:=by
 induction u using Nat.strongRecOn with
 | ind u ih =>
  by_cases h:u<10
  ·rw [dec_one h];have e:=byte_dg h;simp only [parseUint10,e];rw [if_pos (by omega),if_neg (by omega),if_neg (by omega)]
   congr 1
   omega
  ·rw [dec_more h];have e:=byte_dg (k:=u % 10) (by omega)
   rw [parse_snoc _ 0 (u / 10) _ (ih (u / 10) (by omega) (by omega)) (by rw [e];omega) (by rw [e];omega),e]
   congr 1
   omega
theorem mag_dec (u:Nat) (hu:u<18446744073709551616):parseMag (decDigits u)=.ok u:=by
 unfold parseMag;rw [if_neg (dec_digits u).2];exact parse_dec u hu
theorem atoi_itoa (n:Int) (h0 : -9223372036854775808≤n) (h1:n≤9223372036854775807):atoiAll (itoa n)=.ok n:=by
 by_cases hn:n<0
 ·obtain ⟨u,rfl⟩:∃ u:Nat,n = -(u:Int):=⟨n.natAbs,by omega⟩
  rw [itoa_neg u (by omega),atoiAll_minus,mag_dec u (by omega)]
  unfold signed;simp only;rw [if_neg (by omega)]
 ·obtain ⟨u,rfl⟩:∃ u:Nat,n=(u:Int):=⟨n.toNat,by omega⟩
  rw [itoa_nonneg u];obtain ⟨hd,hne⟩:=dec_digits u;have hm:=mag_dec u (by omega)
  generalize decDigits u=l at *;cases l with
  | nil=>exact absurd rfl hne
  | cons c r =>
   have hc:=isDg_iff.1 (hd c List.mem_cons_self);rw [atoiAll_plain c r (by omega) (by omega),hm]
   unfold signless;simp only;rw [if_neg (by omega)]
def blanksL (s:List UInt8):List UInt8:=s.dropWhile (·==32)
def sgnL (s:List UInt8):Nat:=if s.head?=some 45 then 1 else 0
def tokL (s:List UInt8):List UInt8:=s.take (sgnL s)++(s.drop (sgnL s)).takeWhile isDg
def leastV (g:Bool):Int:=if g=true then -2147483648 else 0
def mostV (g:Bool):Int:=if g=true then 2147483647 else 4294967295
def numAt (g:Bool) (s:List UInt8):Option Int :=
 match atoiAll (tokL s) with
 | .ok n=>if itoa n=tokL s∧leastV g≤n∧n≤mostV g then some (n % 4294967296) else none
 | _=>none
def NoDg (s:List UInt8):Prop:=∀ c r,s=c :: r→isDg c=false
theorem takeWhile_all {p:UInt8→Bool}:∀ {l r:List UInt8},(∀ c∈l,p c=true)→(∀ c t,r=c :: t→p c=false)→(l++r).takeWhile p=l
 | [],[],_,_=>rfl
 | [],c :: t,_,h=>by
  rw [List.nil_append,List.takeWhile_cons,h c t rfl];rfl
 | c :: l,r,h1,h2=>by
  rw [List.cons_append,List.takeWhile_cons,h1 c List.mem_cons_self];simp only [if_true];rw [takeWhile_all (fun x hx=>h1 x (List.mem_cons_of_mem _ hx)) h2]
theorem tok_itoa (n:Int) (s:List UInt8) (hs:NoDg s):tokL (itoa n++s)=itoa n:=by
 unfold tokL sgnL
 by_cases hn:n<0
 ·obtain ⟨u,rfl⟩:∃ u:Nat,n = -(u:Int):=⟨n.natAbs,by omega⟩
  rw [itoa_neg u (by omega)]
  rw [List.cons_append,List.head?_cons,if_pos rfl]
  show 45 :: List.takeWhile isDg (decDigits u++s)=45 :: decDigits u
  rw [takeWhile_all (dec_digits u).1 hs]
 ·obtain ⟨u,rfl⟩:∃ u:Nat,n=(u:Int):=⟨n.toNat,by omega⟩
  rw [itoa_nonneg u];obtain ⟨hd,hne⟩:=dec_digits u;have ht:=takeWhile_all (r:=s) hd hs;generalize decDigits u=l at *;cases l with
  | nil=>exact absurd rfl hne
  | cons c r =>
   have hc:=isDg_iff.1 (hd c List.mem_cons_self);have h45:c≠45:=fun e=>by subst e;exact absurd hc.1 (by decide)
   rw [List.cons_append,List.head?_cons,if_neg (fun e=>h45 (Option.some.inj e))]
   exact ht
def sgV (g:Bool) (v:Int):Int:=if g=true∧2147483648≤v then v-4294967296 else v
theorem num_rt (g:Bool) (v:Int) (h:0≤v∧v<4294967296) (s:List UInt8) (hs:NoDg s):numAt g (itoa (sgV g v)++s)=some v:=by
 have hb : -9223372036854775808≤sgV g v∧sgV g v≤9223372036854775807:=by
  unfold sgV;split <;> omega
 have hm:leastV g≤sgV g v∧sgV g v≤mostV g:=by
  unfold sgV leastV mostV;cases g
  ·simp;omega
  ·simp;split <;> omega
 have he:sgV g v % 4294967296=v:=by
  unfold sgV;split <;> omega
 unfold numAt;rw [tok_itoa _ s hs,atoi_itoa _ hb.1 hb.2];simp only [true_and];rw [if_pos hm,he]
theorem numAt_bd {g:Bool} {s:List UInt8} {v:Int} (h:numAt g s=some v):0≤v∧v<4294967296:=by
 unfold numAt at h
 split at h
 ·split at h
  ·have:=Option.some.inj h;omega
  ·cases h
 ·cases h
def Blank (b:List UInt8):Prop:=∀ c∈b,c=32
def Solid (s:List UInt8):Prop:=∀ c r,s=c :: r→c≠32
theorem blanks_pass {b s:List UInt8} (hb:Blank b) (hs:Solid s):blanksL (b++s)=s:=by
 unfold blanksL
 induction b with
 | nil =>
  cases s with
  | nil=>rfl
  | cons c r =>
   rw [List.nil_append,List.dropWhile_cons];have:=hs c r rfl;simp [this]
 | cons c r ih =>
  rw [List.cons_append,List.dropWhile_cons,hb c List.mem_cons_self];simpa using ih (fun x hx=>hb x (List.mem_cons_of_mem _ hx))
theorem blanks_solid:∀ s:List UInt8,Solid (blanksL s)
 | [],c,r,h=>by cases h
 | d :: t,c,r,h=>by
  unfold blanksL at h;rw [List.dropWhile_cons] at h
  split at h
  ·exact blanks_solid t c r h
  ·rename_i h1
   injection h with h2 h3
   subst h2;intro e;exact h1 (by simpa using e)
theorem blanks_idem (s:List UInt8):blanksL (blanksL s)=blanksL s:=by
 have:=blanks_pass (b:=[]) (s:=blanksL s) (fun _ h=>by cases h) (blanks_solid s)
 simpa using this
theorem itoa_solid (n:Int) (s:List UInt8):Solid (itoa n++s):=by
 intro c r h
 by_cases hn:n<0
 ·obtain ⟨u,rfl⟩:∃ u:Nat,n = -(u:Int):=⟨n.natAbs,by omega⟩
  rw [itoa_neg u (by omega),List.cons_append] at h
  injection h with h1 h2
  subst h1
  decide
 ·obtain ⟨u,rfl⟩:∃ u:Nat,n=(u:Int):=⟨n.toNat,by omega⟩
  rw [itoa_nonneg u] at h;obtain ⟨hd,hne⟩:=dec_digits u;generalize decDigits u=l at *;cases l with
  | nil=>exact absurd rfl hne
  | cons c' r' =>
   have hc:=isDg_iff.1 (hd c' List.mem_cons_self);rw [List.cons_append] at h;injection h with h1 h2
   subst h1;intro e;subst e;exact absurd hc.1 (by decide)
def trueB:List UInt8:=[116,114,117,101]
def falseB:List UInt8:=[102,97,108,115,101]
def signR (p s:List UInt8):Option (List UInt8):=if p.isPrefixOf (blanksL s)=true then some ((blanksL s).drop p.length) else none
theorem sign_pass {p b s:List UInt8} (hb:Blank b) (hs:Solid (p++s)):signR p (b++(p++s))=some s:=by
 unfold signR;rw [blanks_pass hb hs];have e:p.isPrefixOf (p++s)=true:=by rw [List.isPrefixOf_iff_prefix];exact List.prefix_append p s
 rw [if_pos e,List.drop_left]
theorem signR_blanks (p s:List UInt8):signR p (blanksL s)=signR p s:=by
 unfold signR;rw [blanks_idem]
end
section
open Go.Lib
def leafB (x:TyI) (v:Int):List UInt8:=if x.kind=2 then (if v=1 then trueB else falseB) else itoa (sgV x.signed v)
def cutV (T:Int→TyI) (x:TyI) (k:Nat) (ws:List Int):List Int:=(ws.drop (sumP T x k).toNat).take (T (partN x k)).size.toNat
def textV (T:Int→TyI):Nat→Int→List Int→List UInt8
 | 0,_,_=>[]
 | q+1,ty,ws=>if cntT (T ty)=0 then leafB (T ty) (ix ws 0) else [123]++Lib.join ((List.range (cntT (T ty)).toNat).map fun k=>textV T q (partN (T ty) k) (cutV T (T ty) k ws)) [44,32]++[125]
abbrev PrR:=List UInt8 × Option (List Int)
def leafR (x:TyI) (s:List UInt8):PrR :=
 if x.kind=2 then
  match signR trueB s with
  | some r=>(r,some [1])
  | none=>match signR falseB s with
   | some r=>(r,some [0])
   | none=>(blanksL s,none)
 else match numAt x.signed (blanksL s) with
  | some v=>((blanksL s).drop (tokL (blanksL s)).length,some [v])
  | none=>(blanksL s,none)
def sepB (k:Nat):List UInt8:=if k=0 then [123] else [44]
def partsR (f:Int→List UInt8→PrR) (x:TyI):Nat→List UInt8→PrR
 | 0,s=>(s,some [])
 | k+1,s =>
  match partsR f x k s with
  | (r,none)=>(r,none)
  | (r,some ws) =>
   match signR (sepB k) r with
   | none=>(blanksL r,none)
   | some r2 =>
    match f (partN x k) r2 with
    | (r3,none)=>(r3,none)
    | (r3,some vs)=>(r3,some (ws++vs))
def parseR (T:Int→TyI):Nat→Int→List UInt8→PrR
 | 0,_,s=>(s,none)
 | q+1,ty,s =>
  if cntT (T ty)=0 then leafR (T ty) s
  else
   match partsR (parseR T q) (T ty) (cntT (T ty)).toNat s with
   | (r,none)=>(r,none)
   | (r,some ws) =>
    match signR [125] r with
    | none=>(blanksL r,none)
    | some r2=>(r2,some ws)
def okV (T:Int→TyI) (q:Nat) (ty:Int) (ws:List Int):Prop :=
 (ws.length:Int)=(T ty).size∧∀ k,k<ws.length→(0≤ix ws k∧ix ws k<4294967296)∧((T (ix (leafL T q ty) k)).kind=2→ix ws k≤1)
theorem sumV_mono {T:Int→TyI} (hT:Typed T) (x:TyI):∀ (m k:Nat),0≤sumP T x k∧sumP T x k≤sumP T x (k+m)
 | 0,0=>⟨Int.le_refl _,Int.le_refl _⟩
 | 0,k+1=>by
  have ih:=sumV_mono hT x 0 k;have:=(hT.size (partN x k)).1;refine ⟨?_,Int.le_refl _⟩
  show 0≤sumP T x k+_
  omega
 | m+1,k=>by
  have ih:=sumV_mono hT x m k;have:=(hT.size (partN x (k+m))).1;refine ⟨ih.1,?_⟩;have e:sumP T x (k+(m+1))=sumP T x (k+m)+(T (partN x (k+m))).size:=rfl;omega
structure PartsOk (T:Int→TyI) (ty:Int) (n:Nat):Prop where
 cnt:cntT (T ty)=(n:Int)
 whole:(T ty).size=sumP T (T ty) n
 plain:∀ k,k<n→0<(T (partN (T ty) k)).size
 low:∀ k,k<n→rankT (T (partN (T ty) k))<rankT (T ty)
theorem parts_ok {T:Int→TyI} (hT:Typed T) {ty:Int} (hs:0<(T ty).size) (hc:cntT (T ty)≠0):PartsOk T ty (cntT (T ty)).toNat:=by
 obtain ⟨h1,h2⟩:=plain_sum hT hs hc;have h0:0≤cntT (T ty):=(cnt_bd hT ty).1;exact ⟨by omega,h1,fun k hk=>h2 k (by omega),fun k hk=>part_rank hT (by omega)⟩
theorem PartsOk.step {T:Int→TyI} (hT:Typed T) {ty:Int} {n:Nat} (h:PartsOk T ty n) {k:Nat} (hk:k<n) :
  0≤sumP T (T ty) k∧sumP T (T ty) (k+1)=sumP T (T ty) k+(T (partN (T ty) k)).size∧sumP T (T ty) (k+1)≤(T ty).size:=by
 have h1:=sumV_mono hT (T ty) (n-(k+1)) (k+1);rw [show k+1+(n-(k+1))=n by omega,← h.whole] at h1
 exact ⟨(sumV_mono hT (T ty) 0 k).1,rfl,h1.2⟩
theorem cutV_len {T:Int→TyI} (hT:Typed T) {ty:Int} {n:Nat} (h:PartsOk T ty n) {k:Nat} (hk:k<n) {ws:List Int} (hw:(ws.length:Int)=(T ty).size):((cutV T (T ty) k ws).length:Int)=(T (partN (T ty) k)).size:=by
 obtain ⟨h1,h2,h3⟩:=h.step hT hk;have h4:=(hT.size (partN (T ty) k)).1;unfold cutV;rw [List.length_take,List.length_drop];omega
theorem take_cutV {T:Int→TyI} (hT:Typed T) {ty:Int} {n:Nat} (h:PartsOk T ty n) {k:Nat} (hk:k<n) (ws:List Int):ws.take (sumP T (T ty) k).toNat++cutV T (T ty) k ws=ws.take (sumP T (T ty) (k+1)).toNat:=by
 obtain ⟨h1,h2,h3⟩:=h.step hT hk;have h4:=(hT.size (partN (T ty) k)).1;unfold cutV;rw [h2,show (sumP T (T ty) k+(T (partN (T ty) k)).size).toNat=(sumP T (T ty) k).toNat+(T (partN (T ty) k)).size.toNat by omega,List.take_add]
theorem vix_take {l:List Int} {k n:Nat} (h:k<n):ix (l.take n) k=ix l k:=by
 unfold ix;rw [List.getD_eq_getElem?_getD,List.getD_eq_getElem?_getD,List.getElem?_take,if_pos h]
theorem vix_drop {l:List Int} {k n:Nat}:ix (l.drop n) k=ix l (n+k):=by
 unfold ix;rw [List.getD_eq_getElem?_getD,List.getD_eq_getElem?_getD,List.getElem?_drop]
theorem vix_append_left {a b:List Int} {k:Nat} (h:k<a.length):ix (a++b) k=ix a k:=by
 unfold ix;rw [List.getD_eq_getElem?_getD,List.getD_eq_getElem?_getD,List.getElem?_append_left h]
theorem vix_append_right {a b:List Int} {k:Nat}:ix (a++b) (a.length+k)=ix b k:=by
 unfold ix;rw [List.getD_eq_getElem?_getD,List.getD_eq_getElem?_getD,List.getElem?_append_right (Nat.le_add_right _ _),Nat.add_sub_cancel_left]
theorem leafL_cut {T:Int→TyI} (hT:Typed T) {q:Nat} {ty:Int} {n:Nat} (h:PartsOk T ty n) (hr:rankT (T ty)<((q+1:Nat):Int)) (hc:cntT (T ty)≠0) {k:Nat} (hk:k<n) {i:Nat} (hi:(i:Int)<(T (partN (T ty) k)).size) :
  ix (leafL T (q+1) ty) ((sumP T (T ty) k).toNat+i)=ix (leafL T q (partN (T ty) k)) i:=by
 have hl:∀ j,j<n→((leafL T q (partN (T ty) j)).length:Int)=(T (partN (T ty) j)).size:=fun j hj=>leafL_len hT q _ (h.plain j hj) (by have:=h.low j hj;omega)
 obtain ⟨rest,hs⟩:=catP_split (leafL T q) (T ty) n k hk;have hk1:=catP_len (T:=T) (f:=leafL T q) (x:=T ty) k (fun j hj=>hl j (by omega))
 have h0:=(h.step hT hk).1;rw [leafL_more hc,show (cntT (T ty)).toNat=n by have:=h.cnt;omega,hs,show (sumP T (T ty) k).toNat=(catP (leafL T q) (T ty) k).length by omega,vix_append_right,vix_append_left (by have:=hl k hk;omega)]
theorem okV_cut {T:Int→TyI} (hT:Typed T) {q:Nat} {ty:Int} {n:Nat} (h:PartsOk T ty n) (hr:rankT (T ty)<((q+1:Nat):Int)) (hc:cntT (T ty)≠0) {ws:List Int} (hw:okV T (q+1) ty ws) {k:Nat} (hk:k<n):okV T q (partN (T ty) k) (cutV T (T ty) k ws):=by
 have hl:=cutV_len hT h hk hw.1;obtain ⟨h1,h2,h3⟩:=h.step hT hk;have h4:=(hT.size (partN (T ty) k)).1;have h5:=hw.1;refine ⟨hl,fun i hi=>?_⟩
 have hi2:(i:Int)<(T (partN (T ty) k)).size:=by omega
 have hx:ix (cutV T (T ty) k ws) i=ix ws ((sumP T (T ty) k).toNat+i):=by
  unfold cutV;rw [vix_take (by omega),vix_drop]
 have hg:=hw.2 ((sumP T (T ty) k).toNat+i) (by omega)
 rw [leafL_cut hT h hr hc hk hi2] at hg;rw [hx];exact hg
theorem leafR_ok {T:Int→TyI} (hT:Typed T) {q:Nat} {ty:Int} (hs:0<(T ty).size) (hc:cntT (T ty)=0) {s r:List UInt8} {ws:List Int} (h:leafR (T ty) s=(r,some ws)):okV T (q+1) ty ws:=by
 obtain ⟨hz,-⟩:=plain_bare hT hs hc;unfold okV;rw [hz,leafL_one hc];have one:∀ v:Int,(0≤v∧v<4294967296)→((T ty).kind=2→v≤1)→ws=[v]→((ws.length:Int)=1∧∀ k,k<ws.length→(0≤ix ws k∧ix ws k<4294967296)∧((T (ix [ty] k)).kind=2→ix ws k≤1)):=by
  rintro v h1 h2 rfl;refine ⟨rfl,fun k hk=>?_⟩
  have hk0:k=0:=by simpa using hk
  subst hk0;exact ⟨h1,h2⟩
 unfold leafR at h
 split at h
 ·split at h
  ·injection h with _ h1
   exact one 1 (by omega) (fun _=>by omega) (Option.some.inj h1).symm
  ·split at h
   ·injection h with _ h1
    exact one 0 (by omega) (fun _=>by omega) (Option.some.inj h1).symm
   ·cases h
 ·rename_i hk
  split at h
  ·rename_i v hv
   injection h with _ h1
   exact one v (numAt_bd hv) (fun e=>absurd e hk) (Option.some.inj h1).symm
  ·cases h
theorem partsR_ok {T:Int→TyI} (hT:Typed T) {q:Nat} {ty:Int} {n:Nat} (h:PartsOk T ty n) (hr:rankT (T ty)<((q+1:Nat):Int)) (hc:cntT (T ty)≠0)
  (ih:∀ (p:Int) (s r:List UInt8) (ws:List Int),0<(T p).size→rankT (T p)<(q:Int)→parseR T q p s=(r,some ws)→okV T q p ws) :
  ∀ (k:Nat) (s r:List UInt8) (ws:List Int),k≤n→partsR (parseR T q) (T ty) k s=(r,some ws) →
   (ws.length:Int)=sumP T (T ty) k∧∀ i,i<ws.length→(0≤ix ws i∧ix ws i<4294967296)∧((T (ix (leafL T (q+1) ty) i)).kind=2→ix ws i≤1)
 | 0,s,r,ws,_,hp=>by
  unfold partsR at hp;injection hp with _ h1
  have:=Option.some.inj h1;subst this;exact ⟨rfl,fun i hi=>absurd hi (Nat.not_lt_zero i)⟩
 | k+1,s,r,ws,hk,hp=>by
  unfold partsR at hp
  split at hp
  ·cases hp
  ·rename_i r1 ws1 h1
   split at hp
   ·cases hp
   ·split at hp
    ·cases hp
    ·rename_i r3 vs h3
     injection hp with _ h4
     have:=Option.some.inj h4;subst this;obtain ⟨a1,a2⟩:=partsR_ok hT h hr hc ih k s r1 ws1 (by omega) h1
     have hk1:k<n:=by omega
     obtain ⟨b1,b2⟩:=ih _ _ _ _ (h.plain k hk1) (by have:=h.low k hk1;omega) h3
     have hst:=h.step hT hk1;refine ⟨?_,fun i hi=>?_⟩
     ·rw [List.length_append,hst.2.1];omega
     ·by_cases hi1:i<ws1.length
      ·rw [vix_append_left hi1];exact a2 i hi1
      ·obtain ⟨j,rfl⟩:∃ j,i=ws1.length+j:=⟨i-ws1.length,by omega⟩
       rw [List.length_append] at hi;have hj:j<vs.length:=by omega
       rw [vix_append_right,show ws1.length=(sumP T (T ty) k).toNat by omega,leafL_cut hT h hr hc hk1 (by omega)]
       exact b2 j hj
theorem parseR_ok {T:Int→TyI} (hT:Typed T):∀ (q:Nat) (ty:Int) (s r:List UInt8) (ws:List Int),0<(T ty).size→rankT (T ty)<(q:Int)→parseR T q ty s=(r,some ws)→okV T q ty ws
 | 0,ty,s,r,ws,_,hq,_=>absurd hq (by have:=(rankT_bd hT ty).1;omega)
 | q+1,ty,s,r,ws,hs,hq,h=>by
  unfold parseR at h
  by_cases hc:cntT (T ty)=0
  ·rw [if_pos hc] at h;exact leafR_ok hT hs hc h
  ·rw [if_neg hc] at h;have hP:=parts_ok hT hs hc
   split at h
   ·cases h
   ·rename_i r1 ws1 h1
    split at h
    ·cases h
    ·injection h with _ h4
     have:=Option.some.inj h4;subst this;obtain ⟨a1,a2⟩:=partsR_ok hT hP hq hc (fun p s r ws=>parseR_ok hT q p s r ws) _ s r1 ws1 (Nat.le_refl _) h1
     exact ⟨by rw [hP.whole];exact a1,a2⟩
def segV (f:Nat→List UInt8):Nat→List UInt8
 | 0=>[]
 | k+1=>segV f k++((if k=0 then [123] else [44,32])++f k)
theorem join_oneV (a sep:List UInt8):Lib.join [a] sep=a:=by unfold Lib.join;simp [List.intercalate]
theorem join_back (sep y:List UInt8):∀ xs:List (List UInt8),xs≠[]→Lib.join (xs++[y]) sep=Lib.join xs sep++sep++y
 | [],h=>absurd rfl h
 | [a],_=>by
  unfold Lib.join
  show List.intercalate sep [a,y]=List.intercalate sep [a]++sep++y
  rw [List.intercalate_cons_cons];simp [List.intercalate]
 | a :: b :: r,_=>by
  have ih:=join_back sep y (b :: r) (by simp)
  unfold Lib.join at *
  show List.intercalate sep (a :: b :: (r++[y]))=_
  rw [List.intercalate_cons_cons,List.intercalate_cons_cons];have e:b :: (r++[y])=(b :: r)++[y]:=rfl;rw [e,ih];simp [List.append_assoc]
theorem seg_join (f:Nat→List UInt8):∀ n:Nat,0<n→[123]++Lib.join ((List.range n).map f) [44,32]=segV f n
 | 0,h=>absurd h (Nat.lt_irrefl 0)
 | 1,_=>by
  show [123]++Lib.join [f 0] [44,32]=_
  rw [join_oneV];rfl
 | n+2,_=>by
  have ih:=seg_join f (n+1) (Nat.succ_pos n);rw [List.range_succ,List.map_append,List.map_cons,List.map_nil,join_back _ _ _ (fun e=>by have:=congrArg List.length e;simp at this)]
  show _=segV f (n+1)++((if n+1=0 then [123] else [44,32])++f (n+1))
  rw [← ih,if_neg (Nat.succ_ne_zero n)];simp only [List.append_assoc]
theorem blank_nil:Blank []:=fun _ h=>by cases h
theorem leaf_rt {x:TyI} {v:Int} (hv:0≤v∧v<4294967296) (h2:x.kind=2→v≤1) {b post:List UInt8} (hb:Blank b) (hp:NoDg post):leafR x (b++(leafB x v++post))=(post,some [v]):=by
 unfold leafR leafB
 by_cases hk:x.kind=2
 ·rw [if_pos hk,if_pos hk];have hv1:=h2 hk
  by_cases h1:v=1
  ·rw [if_pos h1,sign_pass hb (fun c r h=>by
    unfold trueB at h;rw [List.cons_append] at h;injection h with h3 _
    subst h3
    decide),h1]
  ·rw [if_neg h1];have hsol:Solid (falseB++post):=fun c r h=>by
    unfold falseB at h;rw [List.cons_append] at h;injection h with h3 _
    subst h3
    decide
   have e1:signR trueB (b++(falseB++post))=none:=by
    unfold signR;rw [blanks_pass hb hsol];exact if_neg (fun e=>by simp [trueB,falseB,List.isPrefixOf] at e)
   rw [e1,sign_pass hb hsol,show v=0 by omega]
 ·rw [if_neg hk,if_neg hk,blanks_pass hb (itoa_solid _ _),num_rt _ v hv post hp,tok_itoa _ _ hp,List.drop_left]
theorem parts_rt {T:Int→TyI} (hT:Typed T) {q:Nat} {ty:Int} {n:Nat} (h:PartsOk T ty n) (hr:rankT (T ty)<((q+1:Nat):Int)) (hc:cntT (T ty)≠0) {ws:List Int} (hw:okV T (q+1) ty ws)
  (ih:∀ (p:Int) (vs:List Int) (b post:List UInt8),0<(T p).size→rankT (T p)<(q:Int)→okV T q p vs→Blank b→NoDg post→parseR T q p (b++(textV T q p vs++post))=(post,some vs)) :
  ∀ (k:Nat) (post b:List UInt8),k≤n→Blank b→NoDg post→(k=0→b=[])→partsR (parseR T q) (T ty) k (b++(segV (fun j=>textV T q (partN (T ty) j) (cutV T (T ty) j ws)) k++post))=(post,some (ws.take (sumP T (T ty) k).toNat))
 | 0,post,b,_,_,_,hb0=>by
  rw [hb0 rfl]
  show (post,some [])=(post,some (ws.take 0))
  rw [List.take_zero]
 | k+1,post,b,hk,hb,hp,_=>by
  have hk1:k<n:=by omega
  generalize hf:(fun j=>textV T q (partN (T ty) j) (cutV T (T ty) j ws))=f
  have hfk:f k=textV T q (partN (T ty) k) (cutV T (T ty) k ws):=by rw [← hf]
  have hi:=fun b2 hb2=>ih (partN (T ty) k) (cutV T (T ty) k ws) b2 post (h.plain k hk1) (by have:=h.low k hk1;omega) (okV_cut hT h hr hc hw hk1) hb2 hp
  rw [← hfk] at hi;have htk:=take_cutV hT h hk1 ws;unfold partsR
  by_cases h0:k=0
  ·subst h0;have e0:partsR (parseR T q) (T ty) 0 (b++(segV f 1++post))=(b++([123]++(f 0++post)),some []):=by
    show (b++((([]:List UInt8)++([123]++f 0))++post),some [])=_
    simp only [List.nil_append,List.append_assoc]
   rw [e0];simp only;have e1:signR (sepB 0) (b++([123]++(f 0++post)))=some (f 0++post):=sign_pass (p:=[123]) hb (fun c r h=>by
    rw [List.cons_append] at h;injection h with h3 _
    subst h3
    decide)
   rw [e1];simp only;have e2:=hi [] blank_nil;rw [List.nil_append] at e2;rw [e2];simp only;rw [← htk];rfl
  ·have ip:=parts_rt hT h hr hc hw ih k ([44]++([32]++(f k++post))) b (by omega) hb (fun c r h=>by
    rw [List.cons_append] at h;injection h with h3 _
    subst h3
    decide) (fun e=>absurd e h0)
   rw [hf] at ip;have e0:b++(segV f (k+1)++post)=b++(segV f k++([44]++([32]++(f k++post)))):=by
    show b++((segV f k++((if k=0 then [123] else [44,32])++f k))++post)=_
    rw [if_neg h0];simp only [List.append_assoc,List.cons_append,List.nil_append]
   rw [e0,ip];simp only;have e1:signR (sepB k) ([44]++([32]++(f k++post)))=some ([32]++(f k++post)):=by
    have:=sign_pass (p:=[44]) (b:=[]) (s:=[32]++(f k++post)) blank_nil (fun c r h=>by
     rw [List.cons_append] at h;injection h with h3 _
     subst h3
     decide)
    unfold sepB;rw [if_neg h0];simpa using this
   rw [e1];simp only;rw [hi [32] (fun c hc=>List.mem_singleton.1 hc)]
   simp only;rw [htk]
theorem parse_text {T:Int→TyI} (hT:Typed T):∀ (q:Nat) (ty:Int) (ws:List Int) (b post:List UInt8),0<(T ty).size→rankT (T ty)<(q:Int)→okV T q ty ws→Blank b→NoDg post→parseR T q ty (b++(textV T q ty ws++post))=(post,some ws)
 | 0,ty,ws,b,post,_,hq,_,_,_=>absurd hq (by have:=(rankT_bd hT ty).1;omega)
 | q+1,ty,ws,b,post,hs,hq,hw,hb,hp=>by
  unfold parseR textV
  by_cases hc:cntT (T ty)=0
  ·rw [if_pos hc,if_pos hc];obtain ⟨hz,-⟩:=plain_bare hT hs hc;obtain ⟨h1,h2⟩:=hw;rw [hz] at h1;have hl:ws.length=1:=by omega
   have h3:=h2 0 (by omega)
   rw [leafL_one hc] at h3;obtain ⟨v,rfl⟩:=List.length_eq_one_iff.1 hl;exact leaf_rt h3.1 h3.2 hb hp
  ·rw [if_neg hc,if_neg hc];have hP:=parts_ok hT hs hc;have hc0:=(cnt_bd hT ty).1;have hn:0<(cntT (T ty)).toNat:=by omega
   generalize hN:(cntT (T ty)).toNat=n at *;rw [seg_join _ n hn];have hd:NoDg ([125]++post):=fun c r h=>by
    rw [List.cons_append] at h;injection h with h3 _
    subst h3
    decide
   have ip:=parts_rt hT hP hq hc hw (fun p vs b post=>parse_text hT q p vs b post) n ([125]++post) b (Nat.le_refl _) hb hd (fun e=>absurd e (by omega))
   rw [List.append_assoc,ip];simp only;have e1:signR [125] ([125]++post)=some post:=by
    have:=sign_pass (p:=[125]) (b:=[]) (s:=post) blank_nil (fun c r h=>by
     rw [List.cons_append] at h;injection h with h3 _
     subst h3
     decide)
    simpa using this
   rw [e1];simp only;have hwl:ws.length=(sumP T (T ty) n).toNat:=by have:=hw.1;rw [hP.whole] at this;omega
   rw [← hwl,List.take_length]
theorem leafB_le {x:TyI} {v:Int} (hv:0≤v∧v<4294967296):(leafB x v).length≤21:=by
 unfold leafB
 split
 ·split <;> decide
 ·refine itoa_length_le _ ?_ ?_ <;> (unfold sgV;split <;> omega)
theorem seg_le {T:Int→TyI} {x:TyI} {f:Nat→List UInt8} {C:Int} (hC:0≤C):∀ k:Nat,(∀ j,j<k→1≤(T (partN x j)).size∧((f j).length:Int)≤(T (partN x j)).size*C)→((segV f k).length:Int)≤sumP T x k*(C+2)
 | 0,_=>by simp [segV,sumP]
 | k+1,h=>by
  have ih:=seg_le hC k (fun j hj=>h j (by omega))
  obtain ⟨h1,h2⟩:=h k (by omega)
  show ((segV f k++((if k=0 then [123] else [44,32])++f k)).length:Int)≤(sumP T x k+(T (partN x k)).size)*(C+2)
  rw [Int.add_mul,List.length_append,List.length_append];have e:(if k=0 then ([123]:List UInt8) else [44,32]).length≤2:=by split <;> decide
  have e2:(T (partN x k)).size*(C+2)=(T (partN x k)).size*C+(T (partN x k)).size*2:=Int.mul_add _ _ _;omega
theorem text_size {T:Int→TyI} (hT:Typed T):∀ (q:Nat) (ty:Int) (ws:List Int),0<(T ty).size→rankT (T ty)<(q:Int)→okV T q ty ws→((textV T q ty ws).length:Int)≤(T ty).size*(21+3*(q:Int))
 | 0,ty,ws,_,hq,_=>absurd hq (by have:=(rankT_bd hT ty).1;omega)
 | q+1,ty,ws,hs,hq,hw=>by
  unfold textV
  by_cases hc:cntT (T ty)=0
  ·rw [if_pos hc];obtain ⟨hz,-⟩:=plain_bare hT hs hc;have h1:=hw.1;rw [hz] at h1 ⊢;have h2:=leafB_le (x:=T ty) (hw.2 0 (by omega)).1
   omega
  ·rw [if_neg hc];have hP:=parts_ok hT hs hc;have hc0:=(cnt_bd hT ty).1;have hn:0<(cntT (T ty)).toNat:=by omega
   generalize hN:(cntT (T ty)).toNat=n at *;rw [seg_join _ n hn];have hg:=seg_le (T:=T) (x:=T ty) (f:=fun k=>textV T q (partN (T ty) k) (cutV T (T ty) k ws)) (C:=21+3*(q:Int)) (by omega) n (fun j hj=>⟨by have:=hP.plain j hj;omega,text_size hT q _ _ (hP.plain j hj) (by have:=hP.low j hj;omega) (okV_cut hT hP hq hc hw hj)⟩)
   rw [← hP.whole] at hg;rw [List.length_append];have e2:(T ty).size*(21+3*((q+1:Nat):Int))=(T ty).size*(21+3*(q:Int)+2)+(T ty).size:=by
    rw [show (21+3*((q+1:Nat):Int))=(21+3*(q:Int)+2)+1 by omega,Int.mul_add,Int.mul_one]
   simp only [List.length_singleton];omega
theorem text_few {T:Int→TyI} (hT:Typed T) {q:Nat} (hq19:q≤19) {ty:Int} {ws:List Int} (hs:0<(T ty).size) (hq:rankT (T ty)<(q:Int)) (hw:okV T q ty ws):(textV T q ty ws).length≤400000:=by
 have h1:=text_size hT q ty ws hs hq hw;have h2:=(hT.size ty).2.2;have h3:=Int.mul_le_mul h2 (show (21+3*(q:Int))≤78 by omega) (by omega) (by decide)
 omega
theorem fitsV_ok {T:Int→TyI} {ty:Int} {ws:List Int} (hu:∀ k,k<ws.length→0≤ix ws k∧ix ws k<4294967296):fitsV T ty ws=true ↔ 0<(T ty).size∧okV T 19 ty ws:=by
 unfold fitsV okV;rw [Bool.and_eq_true,Bool.and_eq_true,decide_eq_true_eq,decide_eq_true_eq,List.all_eq_true];refine ⟨fun ⟨h1,h2,h3⟩=>⟨h1,h2,fun k hk=>⟨hu k hk,fun e=>?_⟩⟩,fun ⟨h1,h2,h3⟩=>⟨h1,h2,fun k hk=>?_⟩⟩
 ·have h4:=h3 k (List.mem_range.2 hk);rw [decide_eq_true e,Bool.true_and] at h4;have:decide (1<ix ws k)=false:=by simpa using h4
  rw [decide_eq_false_iff_not] at this;omega
 ·have hk:=List.mem_range.1 hk;have h4:=h3 k hk
  by_cases e:(T (ix (leafL T 19 ty) k)).kind=2
  ·have:=h4.2 e;rw [decide_eq_true e,decide_eq_false (by omega)]
   rfl
  ·rw [decide_eq_false e];rfl
end
section
theorem off_sum {T:Int→TyI} (hT:Typed T) {ty:Int} (hs:0<(T ty).size) {j:Nat} (hj:(j:Int)<cntT (T ty)):(offT T (T ty) j).1=sumP T (T ty) j:=by
 rcases hT.ok ty with h | ⟨b,h⟩
 ·rw [h] at hs;exact absurd hs (by decide)
 ·have hkd:=(hT.size ty).2.1.1 hs;have hn:¬ ((T ty).kind=2∨(T ty).kind=3):=fun hc=>by
   have hm:cntT (T ty)=0:=by
    generalize T ty=x at *;cases h with
    | bool=>rfl
    | int s=>rfl
    | void=>rfl
    | vec p n=>rcases hc with hc | hc <;> cases hc
    | arr p n=>rcases hc with hc | hc <;> cases hc
    | str l s d=>rcases hc with hc | hc <;> cases hc
    | ptr c p=>rcases hc with hc | hc <;> cases hc
    | fn l=>rcases hc with hc | hc <;> cases hc
   omega
  exact ((h.sizes hT).off j hj).2 (by omega)
theorem rank19 {T:Int→TyI} (hT:Typed T) (ty:Int):rankT (T ty)<((19:Nat):Int):=by have:=(rankT_bd hT ty).2;omega
def segV' (ws:List Int) (a s:Int):List Int:=(ws.drop a.toNat).take s.toNat
theorem seg_ix {ws:List Int} {a s:Int} {i:Nat} (hi:(i:Int)<s):ix (segV' ws a s) i=ix ws (a.toNat+i):=by
 unfold segV';rw [vix_take (by omega),vix_drop]
theorem seg_len {ws:List Int} {a s:Int} (ha:0≤a) (hs:0≤s) (h:a+s≤ws.length):((segV' ws a s).length:Int)=s:=by
 unfold segV';rw [List.length_take,List.length_drop];omega
theorem ok_seg {T:Int→TyI} {ty p a:Int} {ws:List Int} (h:okV T 19 ty ws) (ha:0≤a) (hs:0<(T p).size) (hb:a+(T p).size≤(T ty).size)
  (hl:∀ i:Nat,(i:Int)<(T p).size→ix (leafL T 19 ty) (a.toNat+i)=ix (leafL T 19 p) i):okV T 19 p (segV' ws a (T p).size):=by
 obtain ⟨h1,h2⟩:=h;have e:=seg_len (ws:=ws) ha (by omega) (by omega:a+(T p).size≤(ws.length:Int))
 refine ⟨e,fun k hk=>?_⟩
 rw [seg_ix (by omega),← hl k (by omega)]
 exact h2 _ (by omega)
def Found (T:Int→TyI) (ty:Int) (l:List Int):Prop:=(wkW T 0 ty l).2≠0
def putV (ws:List Int) (a:Int) (part:List Int):List Int:=ws.take a.toNat++(part++ws.drop (a.toNat+part.length))
theorem put_len {ws part:List Int} {a:Int} (ha:0≤a) (h:a+part.length≤ws.length):(putV ws a part).length=ws.length:=by
 unfold putV;rw [List.length_append,List.length_append,List.length_take,List.length_drop];omega
theorem put_ix {ws part:List Int} {a:Int} (ha:0≤a) (h:a+part.length≤ws.length) (k:Nat):ix (putV ws a part) k=if (k:Int)<a then ix ws k else if (k:Int)<a+part.length then ix part (k-a.toNat) else ix ws k:=by
 have hl:(ws.take a.toNat).length=a.toNat:=by rw [List.length_take];omega
 unfold putV
 by_cases h1:(k:Int)<a
 ·rw [if_pos h1,vix_append_left (by omega),vix_take (by omega)]
 ·rw [if_neg h1];obtain ⟨j,rfl⟩:∃ j,k=a.toNat+j:=⟨k-a.toNat,by omega⟩
  have e1:ix (ws.take a.toNat++(part++ws.drop (a.toNat+part.length))) (a.toNat+j)=ix (part++ws.drop (a.toNat+part.length)) j:=by
   have:=vix_append_right (a:=ws.take a.toNat) (b:=part++ws.drop (a.toNat+part.length)) (k:=j);rwa [hl] at this
  rw [e1]
  by_cases h2:((a.toNat+j:Nat):Int)<a+part.length
  ·rw [if_pos h2,vix_append_left (by omega),Nat.add_sub_cancel_left]
  ·rw [if_neg h2];obtain ⟨i,rfl⟩:∃ i,j=part.length+i:=⟨j-part.length,by omega⟩
   rw [vix_append_right,vix_drop];congr 1
   omega
theorem ixs_ext {l m:List Int} (hl:l.length=m.length) (h:∀ k,k<l.length→ix l k=ix m k):l=m:=by
 refine List.ext_getElem hl fun k h1 h2=>?_
 have:=h k h1;rwa [ix_of h1,ix_of h2] at this
theorem put_get {ws part:List Int} {a:Int} (ha:0≤a) (h:a+part.length≤ws.length):segV' (putV ws a part) a part.length=part:=by
 have hp:=put_len ha h;have e:=seg_len (ws:=putV ws a part) (s:=(part.length:Int)) ha (by omega) (by omega)
 refine ixs_ext (by omega) fun k hk=>?_
 rw [seg_ix (by omega),put_ix ha h,if_neg (by omega),if_pos (by omega),Nat.add_sub_cancel_left]
theorem put_ok {T:Int→TyI} {ty p a:Int} {ws part:List Int} (h:okV T 19 ty ws) (hp:okV T 19 p part) (ha:0≤a) (hb:a+(T p).size≤(T ty).size)
  (hl:∀ i:Nat,(i:Int)<(T p).size→ix (leafL T 19 ty) (a.toNat+i)=ix (leafL T 19 p) i):okV T 19 ty (putV ws a part):=by
 obtain ⟨h1,h2⟩:=h;obtain ⟨p1,p2⟩:=hp;have hle:a+part.length≤ws.length:=by omega
 have e:=put_len ha hle;refine ⟨by omega,fun k hk=>?_⟩
 rw [put_ix ha hle]
 split
 ·exact h2 k (by omega)
 ·split
  ·have:=hl (k-a.toNat) (by omega)
   rw [show a.toNat+(k-a.toNat)=k by omega] at this
   rw [this];exact p2 _ (by omega)
  ·exact h2 k (by omega)
end
end Go.Proofs.YteelmakkogdieaaGreatDoor
