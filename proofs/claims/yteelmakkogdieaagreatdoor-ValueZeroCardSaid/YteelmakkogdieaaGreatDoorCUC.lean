/- Walks: memory.Chain. -/
import Derived.Test.YteelmakkogdieaaGreatDoorCUA
import Derived.Test.YteelmakkogdieaaGreatDoorCTS
import Derived.Test.YteelmakkogdieaaGreatDoorCTB
import Derived.Test.YteelmakkogdieaaGreatDoorCTL
import Derived.Deep.RegionHeld3
import Derived.Test.YteelmakkogdieaaGreatDoorCUI
set_option maxRecDepth 100000
set_option maxHeartbeats 4000000
namespace Go.Proofs.YteelmakkogdieaaGreatDoor
section
open Go.RowKit
theorem cnt_bd {T:Int→TyI} (hT:Typed T) (id:Int):0≤cntT (T id)∧cntT (T id)≤65535:=by
 rcases hT.ok id with h | ⟨b,h⟩
 ·rw [h];decide
 ·generalize T id=x at *;unfold cntT;cases h <;> simp [ty0] <;> omega
end
section
def catP (f:Int→List Int) (x:TyI):Nat→List Int
 | 0=>[]
 | k+1=>catP f x k++f (partN x k)
def leafL (T:Int→TyI):Nat→Int→List Int
 | 0,_=>[]
 | q+1,ty=>if cntT (T ty)=0 then [ty] else catP (leafL T q) (T ty) (cntT (T ty)).toNat
theorem leafL_one {T:Int→TyI} {q:Nat} {ty:Int} (h:cntT (T ty)=0):leafL T (q+1) ty=[ty]:=if_pos h
theorem leafL_more {T:Int→TyI} {q:Nat} {ty:Int} (h:cntT (T ty)≠0):leafL T (q+1) ty=catP (leafL T q) (T ty) (cntT (T ty)).toNat:=if_neg h
theorem catP_split (f:Int→List Int) (x:TyI):∀ (n k:Nat),k<n→∃ rest,catP f x n=catP f x k++(f (partN x k)++rest)
 | 0,k,h=>absurd h (Nat.not_lt_zero k)
 | n+1,k,h=>by
  show ∃ rest,catP f x n++f (partN x n)=_
  rcases Nat.lt_succ_iff_lt_or_eq.1 h with h1 | rfl
  ·obtain ⟨r,hr⟩:=catP_split f x n k h1;exact ⟨r++f (partN x n),by rw [hr,List.append_assoc,List.append_assoc]⟩
  ·exact ⟨[],by rw [List.append_nil]⟩
theorem catP_len {T:Int→TyI} {f:Int→List Int} {x:TyI}:∀ k:Nat,(∀ j,j<k→((f (partN x j)).length:Int)=(T (partN x j)).size)→((catP f x k).length:Int)=sumP T x k
 | 0,_=>rfl
 | k+1,h=>by
  have ih:=catP_len k (fun j hj=>h j (by omega))
  have:=h k (by omega)
  show ((catP f x k++f (partN x k)).length:Int)=sumP T x k+_
  rw [List.length_append];omega
theorem plain_bare {T:Int→TyI} (hT:Typed T) {ty:Int} (hs:0<(T ty).size) (hc:cntT (T ty)=0):(T ty).size=1∧((T ty).kind=2∨(T ty).kind=3):=by
 rcases hT.ok ty with h | ⟨b,h⟩
 ·rw [h] at hs;exact absurd hs (by decide)
 ·generalize T ty=x at *;unfold cntT at hc;cases h with
  | void=>exact absurd hs (by decide)
  | bool=>exact ⟨rfl,.inl rfl⟩
  | int s=>exact ⟨rfl,.inr rfl⟩
  | vec p n h1 h2 h3 h4=>exfalso;dsimp only at hc;simp [ty0] at hc;omega
  | arr p n h1 h2 h3 h4 h5 h6=>exfalso;dsimp only at hc;simp [ty0] at hc;omega
  | str l s d h1 h2 h3 h4 h5 h6=>exfalso;dsimp only at hc;simp [ty0] at hc;subst hc;simp at h3
  | ptr c p h1 h2 h3=>exact absurd hs (by show ¬ (0:Int)<0;decide)
  | fn l h1 h2 h3 h4=>exact absurd hs (by show ¬ (0:Int)<0;decide)
theorem plain_sum {T:Int→TyI} (hT:Typed T) {ty:Int} (hs:0<(T ty).size) (hc:cntT (T ty)≠0):(T ty).size=sumP T (T ty) (cntT (T ty)).toNat∧∀ j:Nat,(j:Int)<cntT (T ty)→0<(T (partN (T ty) j)).size:=by
 rcases hT.ok ty with h | ⟨b,h⟩
 ·rw [h] at hs;exact absurd hs (by decide)
 ·have hk:=(hT.size ty).2.1.1 hs;have h0:0≤cntT (T ty):=by
   generalize T ty=x at *;unfold cntT;cases h <;> simp [ty0] <;> omega
  exact ⟨(h.sizes hT).whole (by omega) (by omega) (by omega),fun j hj=>h.part_plain hT hs hj⟩
theorem leafL_len {T:Int→TyI} (hT:Typed T):∀ (q:Nat) (ty:Int),0<(T ty).size→rankT (T ty)<(q:Int)→((leafL T q ty).length:Int)=(T ty).size
 | 0,ty,_,hq=>absurd hq (by have:=(rankT_bd hT ty).1;omega)
 | q+1,ty,hs,hq=>by
  by_cases hc:cntT (T ty)=0
  ·rw [leafL_one hc,(plain_bare hT hs hc).1];rfl
  ·obtain ⟨h1,h2⟩:=plain_sum hT hs hc;rw [leafL_more hc,catP_len (T:=T) _ (fun j hj=>?_),h1]
   have hj2:(j:Int)<cntT (T ty):=by omega
   have hr:=part_rank hT hj2;exact leafL_len hT q _ (h2 j hj2) (by show rankT (T (partT (T ty) j).1)<_;omega)
def fitsV (T:Int→TyI) (ty:Int) (ws:List Int):Bool :=
 decide (0<(T ty).size)&&(decide ((ws.length:Int)=(T ty).size)&&(List.range ws.length).all fun k=>!(decide ((T (ix (leafL T 19 ty) k)).kind=2)&&decide (1<ix ws k)))
end
section
open Go.RowKit Go.Shelf
attribute [local go_sem] Oper.semAt_some
theorem round_any {P:Program} {l n n':Nat} {f:FuncId} {tmps:Array Value} {assign body:Code} {w:World} {R:Ending→World→Prop} (h:RoundIn Fence.wide n P l f tmps assign body w R):RoundIn Fence.wide n' P l f tmps assign body w R :=
 ⟨h.1,fun c cs _=>h.2 c cs (room_wide _)⟩
abbrev LfI:=Nat × Int
def lfA (x:LfI):Array Value:=#[.int .i64 (x.1:Nat),.int .u32 x.2]
def NextF (L:List Int) (pre:List LfI) (x:LfI) (_:World):Prop:=x.1=pre.length∧∃ rest,L=pre.map (·.2)++x.2 :: rest
theorem abides_below_ {β:Type} {B:Nat} {J:β→World→Prop} (hJ:AbidesFrom B J) {s:β} {w w':World} (h:J s w) (hb:Below w.heap.size w w'):J s w':=hJ s _ _ none h (only_of_below hb none) (fun r e=>by cases e)
def LvIs (T:Int→TyI) (q:Nat) (ty:Int) (n0:Nat) (J Jx:List LfI→World→Prop) (pre:List LfI) (W:World) (e:Ending) (W':World):Prop :=
 (e=.returned (.tuple #[.int .i64 ((pre.length:Nat)+(T ty).size),.bool true])∧(∃ ys,ys.map (·.2)=leafL T q ty∧J (pre++ys) W')∧Below n0 W W') ∨
  (∃ a,e=.returned (.tuple #[a,.bool false])∧∃ p2,Jx p2 W')
theorem leaves_in (gt:Nat) (T:Int→TyI) (S:Int→SlI) (hY:Typed T) (w0:World) (hT0:TabW w0 (some ⟨gt,0,none⟩) T S) (L:List Int) (hLn:L.length≤4096) (l B:Nat) (J Jx:List LfI→World→Prop) (hJ:AbidesFrom B J)
  (hYd:∀ pre x W1,J pre W1→NextF L pre x W1→YieldAt Fence.wide 0 Tryz.prog l (lfA x) W1 fun e W' =>
   (e=.returned (.bool true)∧J (pre++[x]) W'∧Below w0.heap.size W1 W')∨(e=.returned (.bool false)∧Jx (pre++[x]) W')) :
  ∀ (q:Nat) (ty:Int) (pre:List LfI) (W:World),0<(T ty).size→rankT (T ty)<(q:Int)→Below w0.heap.size w0 W→J pre W→(∃ rest,L=pre.map (·.2)++(leafL T q ty++rest)) →
   CallsIn Fence.wide 9 Tryz.prog 67 #[.pointer (some ⟨gt,0,none⟩),.int .u32 ty,.int .i64 (pre.length:Nat),.func (.yield l) #[] #[]] W (LvIs T q ty w0.heap.size J Jx pre W)
 | 0,ty,pre,W,_,hq,_,_,_=>absurd hq (by have:=(rankT_bd hY ty).1;omega)
 | q+1,ty,pre,W,hs,hq,hb,hJ0,hrest=>by
  have ih:=leaves_in gt T S hY w0 hT0 L hLn l B J Jx hJ hYd q;have hcb:=cnt_bd hY ty;have hcn:=fun (w':World) (h:TabW w' (some ⟨gt,0,none⟩) T S)=>countM_any _ _ _ ty w' h.tab (h.mild _)
  have hpt:=fun (j:Int) (w':World) (h:TabW w' (some ⟨gt,0,none⟩) T S)=>partM_any _ _ _ ty j w' h.tab (h.mild _)
  have hpl:pre.length≤4096:=by
   obtain ⟨rest,hr⟩:=hrest;have:=congrArg List.length hr;rw [List.length_append,List.length_map] at this;omega
  have HT:=Lib.hid hT0;have HR:=Lib.hid hrest;have HS:=Lib.hid hs;have HQ:=Lib.hid hq;have HJ:=Lib.hid hJ;have HJ0:=Lib.hid hJ0;have HY:=Lib.hid hYd;have HTY:=Lib.hid hY;have IH:=Lib.hid ih;clear hT0 hrest hs hq hJ hJ0 hYd hY ih;refine callsIn_of_wp Tryz.func67 rfl trivial ?_ rfl;simp only [Tryz.ntmps67,List.size_toArray,List.length_cons,List.length_nil,Nat.reduceAdd,Nat.reduceSub,Array.replicate_succ,Array.replicate_zero,List.push_toArray,List.append_toArray,List.nil_append,List.cons_append]
  by_cases h0:cntT (T ty)=0
  ·rw [h0] at hcn;obtain ⟨hsz,-⟩:=plain_bare HTY.out HS.out h0;have hlf:=leafL_one (q:=q) h0;have hxw:∀ W1,J pre W1→NextF L pre (pre.length,ty) W1:=fun W1 _=>⟨rfl,by
    obtain ⟨rest,hr⟩:=HR.out;rw [hlf] at hr;exact ⟨rest,hr⟩⟩
   have HX:=Lib.hid hxw;have HSZ:=Lib.hid hsz;have HLF:=Lib.hid hlf;clear h0 hxw hsz hlf hpt hcb;gi_wp2_with fail;refine ⟨trivial,(callsIn_wide.2 (hcn W (HT.out.step hb))).mono ?_⟩;rintro e W1 ⟨rfl,hb1⟩;have hJ1:=abides_below_ HJ.out HJ0.out hb1;have hyy:=HY.out pre (pre.length,ty) W1 hJ1 (HX.out W1 hJ1);obtain ⟨fn,tmps,assign,body,hy,hRd⟩:=hyy;dsimp only [lfA] at hy;have hRd:=round_any (n':=8) hRd;have hb2:=(hb1.mono (show w0.heap.size≤W.heap.size from hb.size))
   have w1:IntKind.i64.wrap (((pre.length:Nat):Int)+1)=(pre.length:Nat)+1:=IntWalk.i64_in _ (by omega)
   clear hcn;gi_wp2_with fail;refine hRd.mono ?_;rintro e W3 (⟨rfl,hJ3,hk3⟩ | ⟨rfl,hJx3⟩)
   ·clear hy hRd;gi_wp2_with fail;go_ret2
    exact .inl ⟨by rw [HSZ.out];rfl,⟨[(pre.length,ty)],HLF.out.symm,hJ3⟩,hb2.trans hk3⟩
   ·clear hy hRd;gi_wp2_with fail;go_ret2
    exact .inr ⟨_,rfl,_,hJx3⟩
  ·obtain ⟨hsum,hpp⟩:=plain_sum HTY.out HS.out h0;have hlf:=leafL_more (q:=q) h0;have hrk:=fun (j:Nat) (h:(j:Int)<cntT (T ty))=>part_rank HTY.out (id:=ty) h
   have hszB:=(HTY.out.size ty).2.2;have hpos:=fun id=>(HTY.out.size id).1
   obtain ⟨N,hN⟩:∃ N:Nat,cntT (T ty)=N:=⟨(cntT (T ty)).toNat,by omega⟩
   rw [hN] at hcn hsum hpp hlf hrk hcb;have e0:(((N:Nat):Int)==0)=false:=by rw [beq_eq_false_iff_ne];omega
   have htn:((N:Nat):Int).toNat=N:=rfl;rw [htn] at hsum hlf;have hmono:=fun (j:Nat) (hj:j≤N)=>(show sumP T (T ty) j≤sumP T (T ty) N by
    have:=sumP_mono hpos (T ty) (N-j) j;rwa [show j+(N-j)=N by omega] at this)
   have hpos0:=sumP_pos hpos (T ty);have HSUM:=Lib.hid hsum;have HPP:=Lib.hid hpp;have HLF:=Lib.hid hlf;have HRK:=Lib.hid hrk;have HMO:=Lib.hid hmono;have HP0:=Lib.hid hpos0;have HN:=Lib.hid hN;clear hsum hpp hlf hrk hmono hpos0 hpos h0 hN;gi_wp2_with fail;refine ⟨trivial,(callsIn_wide.2 (hcn W (HT.out.step hb))).mono ?_⟩;rintro e W1 ⟨rfl,hb1⟩;have hJ1:=abides_below_ HJ.out HJ0.out hb1;have hb2:=(hb1.mono (show w0.heap.size≤W.heap.size from hb.size))
   clear hcn;gi_wp2_with fail;gi_loopw [2,27] (fun a i wr=>∃ (k:Nat) (p2:List LfI),k≤N∧i=.int .i64 (k:Nat)∧a=.int .i64 ((p2.length:Nat):Int)∧Hid (∃ ys,p2=pre++ys∧ys.map (·.2)=catP (leafL T q) (T ty) k∧((ys.length:Nat):Int)=sumP T (T ty) k)∧J p2 wr∧Below w0.heap.size W wr) (fun a i _=>N-(intOf i).toNat)
   case atStart=>exact ⟨0,pre,by omega,rfl,rfl,Lib.hid ⟨[],by rw [List.append_nil],rfl,rfl⟩,hJ1,hb2⟩
   case round =>
    obtain ⟨k,p2,hk,rfl,rfl,HM,hJk,hbk⟩:=hrel;have hbw:=hb.trans hbk
    by_cases hlt:k<N
    ·have d1:decide (((k:Nat):Int)<(N:Nat))=true:=by rw [decide_eq_true_eq];omega
     have hpk:=hpt k;have hplain:=HPP.out k (by omega)
     have hrank:=HRK.out k (by omega)
     have hsp:=HMO.out (k+1) (by omega)
     have hs1:sumP T (T ty) (k+1)=sumP T (T ty) k+(T (partN (T ty) k)).size:=rfl;have hc1:catP (leafL T q) (T ty) (k+1)=catP (leafL T q) (T ty) k++leafL T q (partN (T ty) k):=rfl;have hp1:(partT (T ty) k).1=partN (T ty) k:=rfl;have hQ2:=HQ.out;have hrk2:rankT (T (partN (T ty) k))<(q:Int):=by
      have:rankT (T (partN (T ty) k))<rankT (T ty):=hrank;omega
     have hnext:∃ rest,L=p2.map (·.2)++(leafL T q (partN (T ty) k)++rest):=by
      obtain ⟨rest,hr⟩:=HR.out;obtain ⟨r2,hr2⟩:=catP_split (leafL T q) (T ty) N k hlt;obtain ⟨ys,hy1,hy2,-⟩:=HM.out;rw [HLF.out,hr2] at hr;exact ⟨r2++rest,by rw [hr,hy1,List.map_append,hy2];simp only [List.append_assoc]⟩
     have hll:=leafL_len HTY.out q (partN (T ty) k) hplain hrk2;have hlb:((p2.length:Nat):Int)+(T (partN (T ty) k)).size≤9000∧p2.length≤9000:=by
      obtain ⟨ys,hy1,-,hy3⟩:=HM.out;rw [hy1,List.length_append];have:=HSUM.out;have:=(HTY.out.size (partN (T ty) k)).1;omega
     have hsu:=(HTY.out.size (partN (T ty) k)).1;rw [hp1] at hpk;have HLL:=Lib.hid hll;have HPL:=Lib.hid hplain;have HRK2:=Lib.hid hrk2;have HNX:=Lib.hid hnext;have HS1:=Lib.hid hs1;have HC1:=Lib.hid hc1;obtain ⟨hlb,hlb2⟩:=hlb;clear hll hplain hrk2 hnext hrank hsp hp1 hQ2 hs1 hc1;generalize partN (T ty) k=u at *;gi_wp2_with fail;refine ⟨trivial,(callsIn_wide.2 (hpk wr (HT.out.step hbw))).mono ?_⟩;rintro e W2 ⟨rfl,hb3⟩;have hJ2:=abides_below_ HJ.out hJk hb3;have hb4:=(hb3.mono (show w0.heap.size≤wr.heap.size from hbw.size))
     have hb5:=hbw.trans hb4;have hrec:=callsIn_wide.1 (IH.out u p2 W2 HPL.out HRK2.out hb5 hJ2 HNX.out);clear hpk;gi_wp2_with fail;refine ⟨trivial,(callsIn_wide.2 hrec).mono ?_⟩;rintro e W3 (⟨rfl,⟨zs,hz,hJz⟩,hb6⟩ | ⟨a,rfl,p3,hJx⟩)
     ·have hzl:((zs.length:Nat):Int)=(T u).size:=by rw [← HLL.out,← hz,List.length_map]
      have hbn:=(hbk.trans hb4).trans hb6;have HN2:Hid (∃ ys,p2++zs=pre++ys∧ys.map (·.2)=catP (leafL T q) (T ty) (k+1)∧((ys.length:Nat):Int)=sumP T (T ty) (k+1)):=Lib.hid (by
       obtain ⟨ys,hy1,hy2,hy3⟩:=HM.out;refine ⟨ys++zs,by rw [hy1,List.append_assoc],by rw [List.map_append,hy2,hz,HC1.out],?_⟩
       rw [List.length_append,HS1.out];omega)
      clear hrec;gi_wp2_with fail;go_roundw
      case rel=>exact ⟨k+1,p2++zs,by omega,by go_num,by congr 1;rw [List.length_append];omega,HN2,hJz,hbn⟩
      case measure=>simp [intOf];omega
     ·clear hrec;gi_wp2_with fail;go_ret2
      exact .inr ⟨_,rfl,_,hJx⟩
    ·have d1:decide (((k:Nat):Int)<(N:Nat))=false:=by rw [decide_eq_false_iff_not];omega
     obtain rfl:k=N:=by omega
     obtain ⟨ys,hy1,hy2,hy3⟩:=HM.out;have hle:((p2.length:Nat):Int)=(pre.length:Nat)+(T ty).size:=by rw [hy1,List.length_append,HSUM.out];omega
     have HF:=Lib.hid (show LvIs T (q+1) ty w0.heap.size J Jx pre W (.returned (.tuple #[.int .i64 ((p2.length:Nat):Int),.bool true])) wr from .inl ⟨by rw [hle],⟨ys,by rw [hy2,HLF.out],by rw [← hy1];exact hJk⟩,hbk⟩)
     clear hy1 hy2 hy3 hle;gi_wp2_with fail;go_ret2
     exact HF.out
end
section
open Go.RowKit Go.Shelf
attribute [local go_sem] Oper.semAt_some
def askE (T:Int→TyI) (ty:Int):Int:=if 0<(T ty).size then 0 else 100
theorem asked_any (gt:Nat) (T:Int→TyI) (S:Int→SlI) (ty:Int) (w:World) (h:TabW w (some ⟨gt,0,none⟩) T S) :
  Calls Tryz.prog 63 #[.pointer (some ⟨gt,0,none⟩),.int .u32 ty] w fun e w'=>e=.returned (.int .i64 (askE T ty))∧Below w.heap.size w w':=by
 have hpl:=plainM_any _ _ _ ty w h.tab
 by_cases hp:0<(T ty).size
 ·have hv:askE T ty=0:=if_pos hp;have dp:decide (0<(T ty).size)=true:=by rw [decide_eq_true_eq];exact hp
  rw [hv];rw [dp] at hpl;clear hv h hp dp;go_enter Tryz.func63,Tryz.ntmps63;go_wp2_with fail;refine hpl.mono ?_;rintro e w1 ⟨rfl,hb1⟩;go_wp2_with fail;go_ret
  exact ⟨rfl,hb1⟩
 ·have hv:askE T ty=100:=if_neg hp;have dp:decide (0<(T ty).size)=false:=by rw [decide_eq_false_iff_not];exact hp
  rw [hv];rw [dp] at hpl;clear hv h hp dp;go_enter Tryz.func63,Tryz.ntmps63;go_wp2_with fail;refine hpl.mono ?_;rintro e w1 ⟨rfl,hb1⟩;go_wp2_with fail;go_ret
  exact ⟨rfl,hb1⟩
theorem leaves_box (m:Nat) (v:Value) (p:Option Addr) (hv:v=.pointer p) (ty:Int) (w:World) :
  CallsIn Fence.wide m Tryz.prog 33 #[v,.int .u32 ty] w fun e w'=>e=.returned (.func (.func 66) #[] #[.pointer (some ⟨w.heap.size,0,none⟩),.pointer (some ⟨w.heap.size+1,0,none⟩)])∧w'=(w.alloc (.cells #[v] 55)).alloc (.cells #[.int .u32 ty] 22):=by
 subst hv;refine callsIn_of_wp Tryz.func33 rfl trivial ?_ rfl;simp only [Tryz.ntmps33,List.size_toArray,List.length_cons,List.length_nil,Nat.reduceAdd,Nat.reduceSub,Array.replicate_succ,Array.replicate_zero,List.push_toArray,List.append_toArray,List.nil_append,List.cons_append];gi_wp2
 go_ret
 exact ⟨rfl,rfl⟩
theorem yield_any {P:Program} {n n' l:Nat} {args:Array Value} {w:World} {R:Ending→World→Prop} (h:YieldAt Fence.wide n P l args w R):YieldAt Fence.wide n' P l args w R:=by
 obtain ⟨fn,tmps,assign,body,h1,h2⟩:=h;exact ⟨fn,tmps,assign,body,h1,round_any h2⟩
theorem leaves1_in (gt:Nat) (T:Int→TyI) (S:Int→SlI) (hY:Typed T) (w0:World) (hT0:TabW w0 (some ⟨gt,0,none⟩) T S) (ty:Int) (hp:0<(T ty).size) (Bt By:Nat) (hBt:Bt<w0.heap.size) (hBy:By<w0.heap.size)
  (ct:w0.cell? ⟨Bt,0,none⟩=some (.pointer (some ⟨gt,0,none⟩))) (cy:w0.cell? ⟨By,0,none⟩=some (.int .u32 ty)) (l:Nat) (J Jx:List LfI→World→Prop) (Wd:World) (hW:Below w0.heap.size w0 Wd) (hJ:AbidesFrom Wd.heap.size J)
  (hYd:∀ pre x W1,J pre W1→NextF (leafL T 19 ty) pre x W1→YieldAt Fence.wide 0 Tryz.prog l (lfA x) W1 fun e W' =>
   (e=.returned (.bool true)∧J (pre++[x]) W'∧Below w0.heap.size W1 W')∨(e=.returned (.bool false)∧Jx (pre++[x]) W')) (h0:J [] Wd) :
  CallsIn Fence.wide 9 Tryz.prog 66 #[.func (.yield l) #[] #[],.pointer (some ⟨Bt,0,none⟩),.pointer (some ⟨By,0,none⟩)] Wd fun e W'=>(∃ v,e=.returned v) ∧
   ((∃ ys,ys.map (·.2)=leafL T 19 ty∧J ys W')∨(∃ pre,True∧Jx pre W')):=by
 have hsz:=(hY.size ty).2.2;have hrk:=(rankT_bd hY ty).2;have hll:=leafL_len hY 19 ty hp (by omega)
 have hrec:=fun (W1:World) (hb:Below w0.heap.size w0 W1) (hJ1:J [] W1)=>callsIn_wide.1 (leaves_in gt T S hY w0 hT0 (leafL T 19 ty) (by omega) l Wd.heap.size J Jx hJ hYd 19 ty [] W1 hp (by omega) hb hJ1 ⟨[],by simp⟩)
 have hask:=fun (w':World) (h:TabW w' (some ⟨gt,0,none⟩) T S)=>asked_any gt T S ty w' h
 have ea:askE T ty=0:=if_pos hp;rw [ea] at hask;have c0:=(hW.cell (p:=⟨Bt,0,none⟩) hBt).trans ct;have c1:=(hW.cell (p:=⟨By,0,none⟩) hBy).trans cy;have HT:=Lib.hid hT0;have HR:=Lib.hid hrec;have HJ:=Lib.hid hJ;have HCT:=Lib.hid ct;have HCY:=Lib.hid cy;clear hYd hrec hll hsz hrk hp ea hT0 hJ hY ct cy;refine callsIn_of_wp Tryz.func66 rfl trivial ?_ rfl;simp only [Tryz.ntmps66,List.size_toArray,List.length_cons,List.length_nil,Nat.reduceAdd,Nat.reduceSub,Array.replicate_succ,Array.replicate_zero,List.push_toArray,List.append_toArray,List.nil_append,List.cons_append];gi_wp2_with fail;refine ⟨trivial,(callsIn_wide.2 (hask Wd (HT.out.step hW))).mono ?_⟩;rintro e W1 ⟨rfl,hb1⟩;have hJ1:=abides_below_ HJ.out h0 hb1;have hb2:=hW.trans (hb1.mono (show w0.heap.size≤Wd.heap.size from hW.size))
 have c0:=(hb2.cell (p:=⟨Bt,0,none⟩) hBt).trans HCT.out;have c1:=(hb2.cell (p:=⟨By,0,none⟩) hBy).trans HCY.out;have hrc:=HR.out W1 hb2 hJ1;unfold LvIs at hrc;simp only [List.length_nil] at hrc;clear hask;gi_wp2_with fail;refine ⟨trivial,(callsIn_wide.2 hrc).mono ?_⟩;rintro e W3 (⟨rfl,⟨ys,hy,hJy⟩,hb3⟩ | ⟨a,rfl,p2,hJx⟩)
 ·clear hrc;gi_wp2_with fail;go_end0
  exact ⟨⟨_,rfl⟩,.inl ⟨ys,hy,by simpa using hJy⟩⟩
 ·clear hrc;gi_wp2_with fail;go_end0
  exact ⟨⟨_,rfl⟩,.inr ⟨p2,trivial,hJx⟩⟩
theorem leaves1_stops (gt:Nat) (T:Int→TyI) (S:Int→SlI) (hY:Typed T) (w:World) (hT:TabW w (some ⟨gt,0,none⟩) T S) (ty:Int) (hp:0<(T ty).size) (Bt By:Nat) (hBt:Bt<w.heap.size) (hBy:By<w.heap.size)
  (ct:w.cell? ⟨Bt,0,none⟩=some (.pointer (some ⟨gt,0,none⟩))) (cy:w.cell? ⟨By,0,none⟩=some (.int .u32 ty)) :
  SeqG Fence.wide 8 Tryz.prog 66 #[.pointer (some ⟨Bt,0,none⟩),.pointer (some ⟨By,0,none⟩)] lfA (NextF (leafL T 19 ty)) (Below w.heap.size) (fun ys=>ys.map (·.2)=leafL T 19 ty) (fun _=>True) w:=fun l J Jx Wd hWd hJ hYd h0 =>
 callsIn_wide.2 (callsIn_wide.1 (leaves1_in gt T S hY w hT ty hp Bt By hBt hBy ct cy l J Jx Wd hWd hJ (fun pre x W1 h1 h2=>yield_any (hYd pre x W1 h1 h2)) h0))
end
section
open Go.RowKit Go.Shelf
attribute [local go_sem] Oper.semAt_some
abbrev F2 (W:World) (b0:Nat) (p v:Value) (w':World):Prop:=w'.cell? ⟨b0,0,none⟩=some p∧w'.cell? ⟨b0+1,0,none⟩=some v∧Below W.heap.size W w'
section
variable {W w2 w3:World} {b0:Nat} {p v:Value}
theorem F2.drew_ (h:F2 W b0 p v w2):F2 W b0 p v w2.drew:=⟨h.1,h.2.1,h.2.2.drew⟩
theorem F2.call (hb:b0+1<W.heap.size) (h:F2 W b0 p v w2) (hq:Below w2.heap.size w2 w3):F2 W b0 p v w3 :=
 ⟨(hq.cell (p:=⟨b0,0,none⟩) (Nat.lt_of_lt_of_le (by show b0<W.heap.size;omega) h.2.2.size)).trans h.1,(hq.cell (p:=⟨b0+1,0,none⟩) (Nat.lt_of_lt_of_le hb h.2.2.size)).trans h.2.1,below_cut h.2.2 hq (Nat.le_refl _)⟩
theorem F2.is (h:F2 W b0 p v w2):Below W.heap.size W w2:=h.2.2
end
theorem keepsO_below {W W':World} (h:Below W.heap.size W W'):KeepsOthers W W':=⟨h.size,fun k _ hk _=>(h.block k (Array.getElem?_eq_some_iff.1 hk).1).trans hk⟩
def okW (T:Int→TyI) (L ws:List Int) (k:Nat):Bool:=!(decide ((T (ix L k)).kind=2)&&decide (1<ix ws k))
theorem fits_go (gt:Nat) (T:Int→TyI) (S:Int→SlI) (hY:Typed T) (ty:Int) (A:Option Addr) (n c:Nat) (ws:List Int) (w:World) (hT:TabW w (some ⟨gt,0,none⟩) T S) (hr:Reads w w.heap.size 1 A n (Ints .u32 ws)) (hp:0<(T ty).size) (hn:(n:Int)=(T ty).size) :
  CallsIn Fence.wide 9 Tryz.prog 72 #[.pointer (some ⟨gt,0,none⟩),.int .u32 ty,.slice A n c] w (BoolIs (fitsV T ty ws) w):=by
 have hlen:=hr.len;have hn4:=(hY.size ty).2.2;have hll:=leafL_len hY 19 ty hp (by have:=(rankT_bd hY ty).2;omega)
 have hv:fitsV T ty ws=(List.range n).all (okW T (leafL T 19 ty) ws):=by
  unfold fitsV okW;have e1:decide (0<(T ty).size)=true:=by rw [decide_eq_true_eq];exact hp
  have e2:decide ((ws.length:Int)=(T ty).size)=true:=by rw [decide_eq_true_eq];omega
  rw [e1,e2,hlen];rfl
 rw [hv];obtain ⟨L,hL⟩:∃ L,L=leafL T 19 ty:=⟨_,rfl⟩;rw [← hL] at hll ⊢;have hLn:L.length=n:=by omega
 obtain ⟨v,hvv⟩:∃ v,v=(List.range n).all (okW T L ws):=⟨_,rfl⟩;rw [← hvv];have HV:=Lib.hid hvv;have HL:=Lib.hid hL;have hask:=fun (w':World) (h:TabW w' (some ⟨gt,0,none⟩) T S)=>asked_any gt T S ty w' h
 have ea:askE T ty=0:=if_pos hp;rw [ea] at hask;have hsz:=fun (w':World) (h:TabW w' (some ⟨gt,0,none⟩) T S)=>sizeM_any _ _ _ ty w' h.tab
 rw [← hn] at hsz;have en:(((n:Nat):Int) != (n:Nat))=false:=by simp
 have hknd:=fun (u:Int) (w':World) (h:TabW w' (some ⟨gt,0,none⟩) T S)=>kindM_any _ _ _ u w' h.tab
 have k0:=((Blk.new w 55 #[.pointer (some ⟨gt,0,none⟩)]).alloc (.cells #[.slice A n c] 63)).alloc (.cells #[.bool false] 4);have k1:=(Blk.new (w.alloc (.cells #[.pointer (some ⟨gt,0,none⟩)] 55)) 63 #[.slice A n c]).alloc (.cells #[.bool false] 4);have k2:=Blk.new ((w.alloc (.cells #[.pointer (some ⟨gt,0,none⟩)] 55)).alloc (.cells #[.slice A n c] 63)) 4 #[.bool false];have hb:=(((Below.refl w.heap.size w).alloc (Nat.le_refl _) (.cells #[.pointer (some ⟨gt,0,none⟩)] 55)).alloc (by simp) (.cells #[.slice A n c] 63)).alloc (by simp;omega) (.cells #[.bool false] 4)
 simp only [World.size_alloc] at k1 k2;have hs3:(((w.alloc (.cells #[.pointer (some ⟨gt,0,none⟩)] 55)).alloc (.cells #[.slice A n c] 63)).alloc (.cells #[.bool false] 4)).heap.size=w.heap.size+3:=by simp
 have HT:=Lib.hid hT;have HR:=Lib.hid hr;have HY:=Lib.hid hY;have HP:=Lib.hid hp;clear hv hvv hL ea hT hr hY hp hn;refine callsIn_of_wp_marks Tryz.func72 rfl trivial ?_ rfl;simp only [Tryz.ntmps72,List.size_toArray,List.length_cons,List.length_nil,Nat.reduceAdd,Nat.reduceSub,Array.replicate_succ,Array.replicate_zero,List.push_toArray,List.append_toArray,List.nil_append,List.cons_append];gi_wp2_with fail;generalize (((w.alloc (.cells #[.pointer (some ⟨gt,0,none⟩)] 55)).alloc (.cells #[.slice A n c] 63)).alloc (.cells #[.bool false] 4))=W at *;have c0:=k0.cell 0;have c1:=k1.cell 0;simp at c0 c1;have hbl:w.heap.size+1<W.heap.size:=by omega
 have hS0:F2 W w.heap.size (.pointer (some ⟨gt,0,none⟩)) (.slice A n c) W:=⟨c0,c1,Below.refl _ _⟩;have hTW:=HT.out.step hb;refine wpIn_wide.2 ?_;go_region_held3 (F2 W w.heap.size (.pointer (some ⟨gt,0,none⟩)) (.slice A n c)) (first | with_reducible exact hS0.drew_ | with_reducible assumption | with_reducible exact F2.call hbl (by assumption) hbq | fail) ((first | (go_at_call 63;(with_reducible refine (hask _ (hTW.step (F2.is (by assumption)))).mono ?_);rintro e w' ⟨rfl,hbq⟩) | (go_at_call 27;(with_reducible refine (hsz _ (hTW.step (F2.is (by assumption)))).mono ?_);rintro e w' ⟨rfl,hbq⟩)))
 all_goals
  have hH:F2 W w.heap.size (.pointer (some ⟨gt,0,none⟩)) (.slice A n c) w':=by assumption
  have c0:=hH.1;have k22:=k2.step hH.2.2;have k02:=k0.step hH.2.2;have k12:=k1.step hH.2.2;have hbW:=below_cut hb hH.2.2 (by omega)
  have hs4:=hH.2.2.size;clear hS0 hTW hask hsz k0 k1 k2;gi_wp2_with fail;refine ⟨trivial,(leaves_box _ (.pointer (some ⟨gt,0,none⟩)) _ rfl ty w').mono ?_⟩;rintro e w3 ⟨rfl,rfl⟩;gi_wp2_with fail;have hbX:=((Below.refl w'.heap.size w').alloc (Nat.le_refl _) (.cells #[.pointer (some ⟨gt,0,none⟩)] 55)).alloc (by simp) (.cells #[.int .u32 ty] 22)
  have kt:=(Blk.new w' 55 #[.pointer (some ⟨gt,0,none⟩)]).alloc (.cells #[.int .u32 ty] 22);have ky:=Blk.new (w'.alloc (.cells #[.pointer (some ⟨gt,0,none⟩)] 55)) 22 #[.int .u32 ty];rw [World.size_alloc] at ky;have k04:=k02.step hbX;have k14:=k12.step hbX;have k24:=k22.step hbX;have hb4:=below_cut hbW hbX (Nat.le_refl _);have hs5:((w'.alloc (.cells #[.pointer (some ⟨gt,0,none⟩)] 55)).alloc (.cells #[.int .u32 ty] 22)).heap.size=w'.heap.size+2:=by simp
  clear k02 k12 k22 hbX hH c0;generalize ((w'.alloc (.cells #[.pointer (some ⟨gt,0,none⟩)] 55)).alloc (.cells #[.int .u32 ty] 22))=W4 at *;have ct:=kt.cell 0;have cy:=ky.cell 0;simp at ct cy;have hT4:=HT.out.step hb4;have hstop:=leaves1_stops gt T S HY.out W4 hT4 ty HP.out w'.heap.size (w'.heap.size+1) (by omega) (by omega) ct cy
  rw [← HL.out] at hstop;refine wpIn_range_w rfl (by omega) (gf:=66) (lb:=#[.pointer (some ⟨w'.heap.size,0,none⟩),.pointer (some ⟨w'.heap.size+1,0,none⟩)]) rfl trivial (enters_of Tryz.func66 (by kernel_rfl) rfl)
   hstop (fun h k=>h.trans k) (fun U o o' ho _=>(Below.refl W4.heap.size U).grown (grownBy_putObj' U _ o') (by have:=(Array.getElem?_eq_some_iff.1 ho).1;omega) (fun k e=>by cases e;omega)) (fun _=>rfl)
   (fun pre U=>Blk U (w.heap.size+1+1) 4 #[.bool false]∧Below W4.heap.size W4 U∧(∀ k,k<pre.length→okW T L ws k=true)∧∃ rest,L=pre.map (·.2)++rest)
   (fun c _ U=>c=Code.ret∧Blk U (w.heap.size+1+1) 4 #[.bool false]∧Below w.heap.size w U∧v=false)
   (fun pre X Y row h hg hr=>⟨h.1.grown hg (noncells (fun r e=>(hr r e).2) h.1),h.2.1.grown hg h.2.1.size (fun k e=>(hr k e).1),h.2.2⟩)
   (fun c pre X Y row h hg hr=>⟨h.1,h.2.1.grown hg (noncells (fun r e=>(hr r e).2) h.2.1),h.2.2.1.grown hg h.2.2.1.size (fun k e=>by have:=(hr k e).1;omega),h.2.2.2⟩)
   ⟨k24,Below.refl _ _,fun k hk=>absurd hk (Nat.not_lt_zero k),L,rfl⟩
   (fun pre x a' U=>NextF L pre x U∧a'={ tmps:=#[.pointer (some ⟨gt,0,none⟩),.int .u32 ty,.slice A n c,.pointer (some ⟨w.heap.size,0,none⟩),undef,.pointer (some ⟨w.heap.size+1,0,none⟩),.pointer (some ⟨w.heap.size+1+1,0,none⟩),.int .i64 (x.1:Nat),.int .u32 x.2,
    .pointer (some ⟨gt,0,none⟩),.int .u32 ty,.int .i64 0,.bool false,.bool false,.slice A n c,.int .i64 (n:Nat),.pointer (some ⟨gt,0,none⟩),.int .u32 ty,.int .i64 (n:Nat),.bool false,.bool false,.pointer (some ⟨gt,0,none⟩),.int .u32 ty,
    .func (.func 66) #[] #[.pointer (some ⟨w'.heap.size,0,none⟩),.pointer (some ⟨w'.heap.size+1,0,none⟩)],.int .i64 (x.1:Nat),.int .u32 x.2,undef,undef,undef,undef,undef,undef,undef,undef,undef,undef,undef],defers:=[] })
   ?hax ?assign ?body ?done ?stop
  case hax =>
   rintro pre x a' _ X Y row ⟨g0,g1⟩ hg hr;exact ⟨g0,g1⟩
  case assign =>
   rintro l pre x U K hsW hI hGx hK;dsimp only [lfA];gi_wp2_with fail;exact hK _ _ (KeepsFrom.refl _ _) (Below.refl _ _) hI ⟨hGx,rfl⟩
  case body =>
   rintro l pre x a' U hsW ⟨r,hr⟩ ⟨kb,hbU,hok,hpre⟩ ⟨⟨hx1,rest,hx2⟩,rfl⟩;have k0U:=k04.step hbU;have k1U:=k14.step hbU;have hbw:=below_cut hb4 hbU (Nat.le_refl _);have hkd:=hknd x.2 U (HT.out.step hbw);have hpl:pre.length<n:=by
    have:=congrArg List.length hx2;rw [List.length_append,List.length_map,List.length_cons] at this;omega
   have hxL:ix L pre.length=x.2:=by
    rw [ix_of (by omega)]
    simp only [hx2];rw [List.getElem_append_right (by rw [List.length_map];exact Nat.le_refl _)]
    simp
   have hnext:L=(pre++[x]).map (·.2)++rest:=by rw [hx2,List.map_append];simp
   have hokd:okW T L ws pre.length=!(decide ((T x.2).kind=2)&&decide (1<ix ws pre.length)):=by unfold okW;rw [hxL]
   obtain ⟨b,off,hA,hbb,hcc⟩:=(HR.out.below hbw).ints (by omega)
   have c2:=hcc pre.length hpl;have hl2:((pre.length:Nat):Int)<(n:Nat):=by omega
   have c0:=k0U.cell 0;have c1:=k1U.cell 0;have cb:=kb.cell 0;have fb:=kb.frozen 0;simp at c0 c1 cb;have hkn:=(HY.out.size x.2);have hkind:0≤(T x.2).kind:=by
    rcases HY.out.ok x.2 with h | ⟨b,h⟩
    ·rw [h];decide
    ·have:=h.kind;omega
   have hokN:okW T L ws pre.length=true→∀ k,k<(pre++[x]).length→okW T L ws k=true:=fun h k hk=>by
    rw [List.length_append,List.length_singleton] at hk
    rcases Nat.lt_succ_iff_lt_or_eq.1 hk with h1 | rfl
    ·exact hok k h1
    ·exact h
   have hvf:okW T L ws pre.length=false→v=false:=fun h=>by
    rw [HV.out,List.all_eq_false];exact ⟨pre.length,List.mem_range.2 hpl,by rw [h];decide⟩
   have HOK:=Lib.hid hokd;have HON:=Lib.hid hokN;have HVF:=Lib.hid hvf;have HNX:=Lib.hid hnext;subst hA;clear hx2 hxL hnext hokd hok hpre hcc hkn hokN hvf;obtain ⟨x1,x2⟩:=x;dsimp only at hx1 hkd hkind HOK;subst hx1;generalize ix ws pre.length=y at *
   by_cases h2:(T x2).kind=2
   ·rw [h2] at hkd
    by_cases h1:1<y
    ·have hf:=HVF.out (by rw [HOK.out,h2];simpa using h1)
     have d1:decide (y>1)=true:=by rw [decide_eq_true_eq];exact h1
     clear h1 h2;gi_wp2_with fail;refine ⟨trivial,(CallsIn.inRound l (callsIn_wide.2 hkd)).mono ?_⟩;rintro e U2 ⟨rfl,hb2⟩;have kb2:=kb.step hb2;have c0:=(k0U.step hb2).cell 0;have c1:=(k1U.step hb2).cell 0;have c2:=(hb2.cell (p:=⟨b,off+pre.length,none⟩) (Nat.lt_of_lt_of_le hbb hbw.size)).trans c2;have cb:=kb2.cell 0;have fb:=kb2.frozen 0;simp at c0 c1 cb;have hbU2:=hbU.trans (hb2.mono hbU.size);clear hkd;gi_wp2_with fail;exact ⟨((keepsO_below hb2).trans (KeepsOthers.setCell _ _ _)).from _,rfl,by simpa using kb2.set_ 0 (.bool false),(below_cut hb4 hbU2 (Nat.le_refl _)).setCell (p:=⟨w.heap.size+1+1,0,none⟩) (by show w.heap.size≤w.heap.size+1+1;omega) _,hf⟩
    ·have d1:decide (y>1)=false:=by rw [decide_eq_false_iff_not];exact h1
     have hon:=HON.out (by rw [HOK.out,h2];simpa using h1)
     clear h1 h2;gi_wp2_with fail;refine ⟨trivial,(CallsIn.inRound l (callsIn_wide.2 hkd)).mono ?_⟩;rintro e U2 ⟨rfl,hb2⟩;have kb2:=kb.step hb2;have c0:=(k0U.step hb2).cell 0;have c1:=(k1U.step hb2).cell 0;have c2:=(hb2.cell (p:=⟨b,off+pre.length,none⟩) (Nat.lt_of_lt_of_le hbb hbw.size)).trans c2;simp at c0 c1;have hbU2:=hbU.trans (hb2.mono hbU.size);clear hkd;gi_wp2_with fail;exact ⟨(keepsO_below hb2).from _,hb2.mono hbU.size,kb2,hbU2,hon,rest,HNX.out⟩
   ·have d2:((T x2).kind==2)=false:=by rw [beq_eq_false_iff_ne];exact h2
    have hon:=HON.out (by rw [HOK.out];simp [h2])
    clear h2;gi_wp2_with fail;refine ⟨trivial,(CallsIn.inRound l (callsIn_wide.2 hkd)).mono ?_⟩;rintro e U2 ⟨rfl,hb2⟩;have kb2:=kb.step hb2;have hbU2:=hbU.trans (hb2.mono hbU.size);clear hkd;gi_wp2_with fail;exact ⟨(keepsO_below hb2).from _,hb2.mono hbU.size,kb2,hbU2,hon,rest,HNX.out⟩
  case done =>
   rintro D ys U hD hS ⟨kb,hbU,hok,hpre⟩ hK;have hyl:ys.length=n:=by
    have:=congrArg List.length hS;rw [List.length_map] at this;omega
   have hvt:v=true:=by
    rw [HV.out,List.all_eq_true];exact fun k hk=>hok k (by rw [hyl];exact List.mem_range.1 hk)
   have hbw:=below_cut hb4 hbU (Nat.le_refl _);have cb:=kb.cell 0;have fb:=kb.frozen 0;simp at cb;have kb2:Blk (U.setCell ⟨w.heap.size+1+1,0,none⟩ (.bool true)) (w.heap.size+1+1) 4 #[.bool true]:=by simpa using kb.set_ 0 (.bool true)
   have hwD:w.heap.size+1+1<D:=by omega
   have hK3:(U.setCell ⟨w.heap.size+1+1,0,none⟩ (.bool true)).heap[D]?=some (.deferred (some [])):=(Below.heap_setCell _ _ _ _ (show D≠w.heap.size+1+1 from Nat.ne_of_gt hwD)).trans hK
   have hB3:=hbw.setCell (p:=⟨w.heap.size+1+1,0,none⟩) (show w.heap.size≤w.heap.size+1+1 by omega) (.bool true)
   gi_wp2_with fail;generalize U.setCell ⟨w.heap.size+1+1,0,none⟩ (.bool true)=U3 at *;have kb3:Blk (U3.putObj D (.deferred none)) (w.heap.size+1+1) 4 #[.bool true]:=(World.putObj_heap_other (by omega)).trans kb2
   have m0:=kb3.cell 0;simp at m0;have hbl:=hB3.trans (belowK_b (n₀:=w.heap.size) (w:=W4) (by omega) U3 D _ (.deferred none) hD hK3 rfl rfl)
   refine ⟨by simp,.inl ⟨_,_,rfl,run_takeDeferred hK3,?_⟩⟩
   refine ⟨.bool true,by rw [results_c1 rfl];go_simp,?_⟩
   exact ⟨by rw [hvt],hbl⟩
  case stop =>
   rintro D c pre U hD _ ⟨rfl,kb,hbU,hvf⟩ hK;have hbw:=hbU;have kb3:Blk (U.putObj D (.deferred none)) (w.heap.size+1+1) 4 #[.bool false]:=(World.putObj_heap_other (by omega)).trans kb
   have m0:=kb3.cell 0;simp at m0;have hbl:=hbw.trans (belowK_b (n₀:=w.heap.size) (w:=W4) (by omega) U D _ (.deferred none) hD hK rfl rfl)
   gi_wp2_with fail;refine ⟨by simp,.inl ⟨_,_,rfl,run_takeDeferred hK,?_⟩⟩
   refine ⟨.bool false,by rw [results_c1 rfl];go_simp,?_⟩
   exact ⟨by rw [hvf],hbl⟩
end
section
open Go.RowKit
theorem fits_well (gt:Nat) (T:Int→TyI) (S:Int→SlI) (hY:Typed T) (ty:Int) (A:Option Addr) (n c:Nat) (ws:List Int) (w:World) (hT:TabW w (some ⟨gt,0,none⟩) T S) (hr:Reads w w.heap.size 1 A n (Ints .u32 ws)) (hp:0<(T ty).size) (hn:(n:Int)=(T ty).size) :
  Calls Tryz.prog 72 #[.pointer (some ⟨gt,0,none⟩),.int .u32 ty,.slice A n c] w (BoolIs (fitsV T ty ws) w):=callsIn_wide.1 (fits_go gt T S hY ty A n c ws w hT hr hp hn)
theorem given_well (gt:Nat) (T:Int→TyI) (S:Int→SlI) (hY:Typed T) (ty:Int) (A:Option Addr) (n c:Nat) (ws:List Int) (w:World) (hT:TabW w (some ⟨gt,0,none⟩) T S) (hr:Reads w w.heap.size 1 A n (Ints .u32 ws)) (hp:0<(T ty).size) (hn:(n:Int)=(T ty).size) :
  Calls Tryz.prog 125 #[.pointer (some ⟨gt,0,none⟩),.int .u32 ty,.slice A n c] w fun e w'=>e=.returned (.int .i64 (if fitsV T ty ws=true then 0 else 2))∧Below w.heap.size w w':=by
 have hask:=asked_any gt T S ty w hT;have ea:askE T ty=0:=if_pos hp;rw [ea] at hask;have hft:=fun (w':World) (h:Below w.heap.size w w')=>fits_well gt T S hY ty A n c ws w' (hT.step h) ((hr.below h).more h.size) hp hn
 unfold BoolIs at hft;generalize fitsV T ty ws=v at *;clear hT hr hp hn hY ea;go_enter Tryz.func125,Tryz.ntmps125;go_wp2_with fail;refine hask.mono ?_;rintro e w1 ⟨rfl,hb1⟩;have hf1:=hft w1 hb1;clear hask hft;go_wp2_with fail;refine hf1.mono ?_;rintro e w2 ⟨rfl,hb2⟩;have hb3:=below_cut hb1 hb2 (Nat.le_refl _);clear hf1 hb1 hb2;cases v with
 | true =>
  go_wp2_with fail;go_ret
  exact ⟨rfl,hb3⟩
 | false =>
  go_wp2_with fail;go_ret
  exact ⟨rfl,hb3⟩
theorem zero_well (gt:Nat) (T:Int→TyI) (S:Int→SlI) (hY:Typed T) (ty:Int) (w:World) (hT:TabW w (some ⟨gt,0,none⟩) T S) (hp:0<(T ty).size) (n:Nat) (hn:(n:Int)=(T ty).size) :
  Calls Tryz.prog 30 #[.pointer (some ⟨gt,0,none⟩),.int .u32 ty] w fun e w'=>∃ g,e=.returned (.tuple #[.slice (some ⟨g,0,none⟩) n n,.int .i64 0])∧w'.ownsRow w.heap.size 22 1 (.slice (some ⟨g,0,none⟩) n n) n (List.replicate n (.int .u32 0))∧Below w.heap.size w w':=by
 have hask:=asked_any gt T S ty w hT;have ea:askE T ty=0:=if_pos hp;have hn4:=(hY.size ty).2.2;rw [ea] at hask;have hsz:=fun (w':World) (h:Below w.heap.size w w')=>sizeM_any _ _ _ ty w' (hT.step h).tab
 rw [← hn] at hsz hn4;clear hT hp hn hY ea;go_enter Tryz.func30,Tryz.ntmps30;go_wp2_with fail;refine hask.mono ?_;rintro e w1 ⟨rfl,hb1⟩;have hs1:=hsz w1 hb1;clear hask hsz;go_wp2_with fail;refine hs1.mono ?_;rintro e w2 ⟨rfl,hb2⟩;have hb3:=below_cut hb1 hb2 (Nat.le_refl _);have hs2:=hb3.size;clear hs1;go_wp2_with (at_make;refine mk_full sl32 rfl w2 rfl _ _ rfl w.heap.size n rfl rfl rfl rfl (by omega) (by omega) (by omega) ?_;intro w3 hown hgr)
 go_ret2
 exact ⟨w2.heap.size,rfl,hown,hb3.grown hgr hs2 (fun j hj=>by cases hj)⟩
end
end Go.Proofs.YteelmakkogdieaaGreatDoor
