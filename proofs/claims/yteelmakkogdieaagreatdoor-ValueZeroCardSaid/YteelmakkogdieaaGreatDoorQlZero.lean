/- Walks: the law of ValueZero: every Zero and Leaves, left early, and again. -/
import Derived.Test.YteelmakkogdieaaGreatDoorCQC
set_option maxRecDepth 100000
set_option maxHeartbeats 8000000
namespace Go.Proofs.YteelmakkogdieaaGreatDoor
open Go.RowKit Go.Shelf
attribute [local go_sem] Oper.semAt_some
theorem leavesN_in (p:Option Addr) (ty E:Int) (hE:E≠0) (w0:World) (hA:AskC p ty E w0) (Bt By:Nat) (hBt:Bt<w0.heap.size) (hBy:By<w0.heap.size) (ct:w0.cell? ⟨Bt,0,none⟩=some (.pointer p)) (cy:w0.cell? ⟨By,0,none⟩=some (.int .u32 ty))
  (l:Nat) (J:List LfI→World→Prop) (Wd:World) (hW:Below w0.heap.size w0 Wd) (hJ:AbidesFrom Wd.heap.size J) (h0:J [] Wd) :
  CallsIn Fence.wide 8 Tryz.prog 66 #[.func (.yield l) #[] #[],.pointer (some ⟨Bt,0,none⟩),.pointer (some ⟨By,0,none⟩)] Wd fun e W'=>(∃ v,e=.returned v)∧J [] W':=by
 have c0:=(hW.cell (p:=⟨Bt,0,none⟩) hBt).trans ct;have c1:=(hW.cell (p:=⟨By,0,none⟩) hBy).trans cy;have hask:=hA Wd hW;have d0:(E==0)=false:=by simpa using hE
 have HJ:=Lib.hid hJ;clear hJ ct cy hA hE;refine callsIn_of_wp Tryz.func66 rfl trivial ?_ rfl;simp only [Tryz.ntmps66,List.size_toArray,List.length_cons,List.length_nil,Nat.reduceAdd,Nat.reduceSub,Array.replicate_succ,Array.replicate_zero,List.push_toArray,List.append_toArray,List.nil_append,List.cons_append];gi_wp2_with fail;refine ⟨trivial,(callsIn_wide.2 hask).mono ?_⟩;rintro e W1 ⟨rfl,hb1⟩;have hJ1:=abides_below_ HJ.out h0 hb1;clear hask;gi_wp2_with fail;go_end0
 exact ⟨⟨_,rfl⟩,hJ1⟩
theorem leavesV_stops (p:Option Addr) (T:Int→TyI) (S:Int→SlI) (ty:Int) (w0 w:World) (hV:VTab w0 p T S) (Bt By:Nat) (hBt:Bt<w0.heap.size) (hBy:By<w0.heap.size) (ct:w0.cell? ⟨Bt,0,none⟩=some (.pointer p)) (cy:w0.cell? ⟨By,0,none⟩=some (.int .u32 ty)) (hW:Below w0.heap.size w0 w) :
  SeqG Fence.wide 8 Tryz.prog 66 #[.pointer (some ⟨Bt,0,none⟩),.pointer (some ⟨By,0,none⟩)] lfA (NextF (leavesQ T 19 ty)) (Below w0.heap.size) (fun ys=>ys.map (·.2)=leavesQ T 19 ty) (fun _=>True) w:=fun l J Jx Wd hWd hJ hYd h0=>by
 have hWW:=hW.trans (hWd.mono hW.size);have bad:∀ E:Int,E≠0→AskC p ty E w0→leavesQ T 19 ty=[]→CallsIn Fence.wide 8 Tryz.prog 66 (#[.func (.yield l) #[] #[]]++#[.pointer (some ⟨Bt,0,none⟩),.pointer (some ⟨By,0,none⟩)]) Wd fun e W'=>(∃ v,e=.returned v)∧((∃ xs,(List.map (·.2) xs:List Int)=leavesQ T 19 ty∧J xs W')∨∃ pre,True∧Jx pre W'):=fun E hE hA hL =>
  (leavesN_in p ty E hE w0 hA Bt By hBt hBy ct cy l J Wd hWW hJ h0).mono fun e W' h=>⟨h.1,.inl ⟨[],by rw [hL];rfl,h.2⟩⟩
 rcases hV with ⟨rfl,h1⟩ | ⟨g,rfl,hO⟩
 ·exact bad 1 (by decide) (ask_nil ty w0) (if_neg (by rw [h1];decide))
 ·by_cases hp:0<(T ty).size
  ·rw [show leavesQ T 19 ty=leafL T 19 ty from if_pos hp] at hYd ⊢
   exact callsIn_wide.2 (callsIn_wide.1 (leaves1_in g T S hO.ty w0 hO.tab ty hp Bt By hBt hBy ct cy l J Jx Wd hWW hJ (fun pre x W1 h2 h3=>yield_any (hYd pre x W1 h2 h3)) h0))
  ·have ha:=ask_tab g T S ty w0 hO.tab;rw [show askE T ty=100 from if_neg hp] at ha
   exact bad 100 (by decide) ha (if_neg hp)
theorem leavesQ_few {T:Int→TyI} (hT:Typed T) (ty:Int):(leavesQ T 19 ty).length≤4096:=by
 unfold leavesQ
 split
 ·rename_i h
  have h1:=leafL_len hT 19 ty h (rank19 hT ty);have h2:=(hT.size ty).2.2;omega
 ·exact Nat.zero_le _
theorem zeroQ_few {p:Option Addr} {T:Int→TyI} (hT:Typed T) (ty:Int):(zeroQ p T ty).1.length≤4096:=by
 have h2:=(hT.size ty).2.2;unfold zeroQ
 split
 ·exact Nat.zero_le _
 ·split
  ·show (List.replicate _ _).length≤4096
   rw [List.length_replicate];omega
  ·exact Nat.zero_le _
theorem block_cut {F:Fence} {n:Nat} {P:Program} {c:Code} {id:Nat} {K:Act→World→Prop} {Q:Exit→Act→World→Prop} {a:Act} {w:World} (X:Act→Act→World→Prop) (h:∀ K1:Act→World→Prop,Hid (∀ a' w',X a a' w'→K1 a' w')→c.wpIn F n P (Exit.inBlock id (Exit.then K1 (fun _ _ _=>False))) a w) (k:∀ a' w',X a a' w'→K a' w'):c.wpIn F n P (Exit.inBlock id (Exit.then K Q)) a w :=
 wpIn_mono (h (fun a' w'=>X a a' w') (Lib.hid fun _ _ hx=>hx)) fun e a' w' hx=>by
  cases e with
  | normal=>exact k _ _ hx
  | exit id' =>
   simp only [Exit.inBlock] at hx ⊢
   split at hx
   ·rename_i h1
    rw [if_pos h1];exact k _ _ hx
   ·exact hx.elim
  | _=>exact hx.elim
theorem leaves_ne_nil (lb:Array Value) (w:World):(binOp .eql 70 (.func (.func 66) #[] lb) .nilFunc).run Tryz.prog w=.ok (.bool false) w:=by kernel_rfl
theorem law_qzero_in (gen bound:Int) (A:Option Addr) (n c:Nat) (ls:List InstA) (ty stop:Int) (w:World) (hM:ModS w w.heap.size A n ls) (hn:n≤3600000000000) (hP:Pow w) (hE:Errs w)
  (hN:∀ x∈ls,(∀ a∈x.1.2.2.2,0≤a.2.1∧a.2.1<4294967296)∧(0≤x.1.1∧x.1.1<65536)) :
  CallsIn Fence.wide 9 Tryz.prog 10 #[.agg (modC gen bound A n c),.int .u32 ty,.int .i64 stop] w (BoolIs true w):=by
 have k1:=((Blk.new w 25 (modC gen bound A n c)).alloc (.cells #[.int .i64 stop] 3)).alloc (.cells #[.bool false] 4);have k5:=(Blk.new (w.alloc (.cells (modC gen bound A n c) 25)) 3 #[.int .i64 stop]).alloc (.cells #[.bool false] 4);have k6:=Blk.new ((w.alloc (.cells (modC gen bound A n c) 25)).alloc (.cells #[.int .i64 stop] 3)) 4 #[.bool false];simp only [World.size_alloc] at k5 k6;have hb:=(((Below.refl w.heap.size w).alloc (Nat.le_refl _) (.cells (modC gen bound A n c) 25)).alloc (by simp) (.cells #[.int .i64 stop] 3)).alloc (by simp;omega) (.cells #[.bool false] 4)
 have hs1:(((w.alloc (.cells (modC gen bound A n c) 25)).alloc (.cells #[.int .i64 stop] 3)).alloc (.cells #[.bool false] 4)).heap.size=w.heap.size+3:=by simp
 have hbo:=both_any gen bound A n c ls _ (hM.step hb) hn (hP.step hb) (hE.step hb) hN;have HPE:=Lib.hid (And.intro hP hE);have hfn:=leaves_ne_nil;clear hM hN hP hE;unfold modC at *;obtain ⟨z0,z1,z2⟩:=three_ k1;refine callsIn_of_wp_marks Tryz.func10 rfl trivial ?_ rfl;simp only [Tryz.ntmps10,List.size_toArray,List.length_cons,List.length_nil,Nat.reduceAdd,Nat.reduceSub,Array.replicate_succ,Array.replicate_zero,List.push_toArray,List.append_toArray,List.nil_append,List.cons_append];gi_wp2_with fail;generalize (((w.alloc (.cells #[.int .u32 gen,.int .u32 bound,.slice A n c] 25)).alloc (.cells #[.int .i64 stop] 3)).alloc (.cells #[.bool false] 4))=W1 at *;have HS1:=Lib.hid hs1;clear hs1;refine ⟨trivial,(callsIn_wide.2 hbo).mono ?_⟩;rintro e w1 ⟨hb2,p,q,T,S,ord,rfl,hV,hQ,hpq⟩;have HV:=Lib.hid hV;have HQ:=Lib.hid hQ;have HPQ:=Lib.hid hpq;have B:=below_cut hb hb2 (Nat.le_refl _);replace k5:=k5.step hb2
 replace k6:=k6.step hb2
 clear hbo hV hQ hpq z0 z1 z2 k1 hb hb2;have hfew:=zeroQ_few (p:=q) HQ.out.ok.ty ty;have hfewL:=leavesQ_few HQ.out.ok.ty ty;obtain ⟨r,hr⟩:∃ r,r=zeroQ q T ty:=⟨_,rfl⟩;rw [← hr] at hfew;have HR:=Lib.hid hr;clear hr;obtain ⟨xs,E⟩:=r;dsimp only at hfew;have hz:=qzero_any q T ord ty w1 HQ.out;rw [← HR.out] at hz;unfold QPut at hz;dsimp only at hz;gi_wp2_with fail;refine ⟨trivial,(callsIn_wide.2 hz).mono ?_⟩;rintro e w2 ⟨Ax,cx,rfl,hox,hb2⟩;have Rx:=Lib.hid (Reads.of_own hox);replace HV:=Lib.hid (HV.out.on hb2)
 replace HQ:=Lib.hid (HQ.out.on hb2)
 replace B:=below_cut B hb2 (Nat.le_refl _)
 replace k5:=k5.step hb2
 replace k6:=k6.step hb2
 have hz2:=vzero_q p T S ty w2 HV.out;rw [zeroQ_eq HPQ.out,← HR.out] at hz2;unfold QPut at hz2;dsimp only at hz2;clear hz hox hb2;gi_wp2_with fail;refine ⟨trivial,(callsIn_wide.2 hz2).mono ?_⟩;rintro e w3 ⟨Ay,cy,rfl,hoy,hb3⟩;have hsm:=words_same Ay Ax xs.length xs.length cy cx xs xs w3 (by omega) (Reads.of_own hoy) (rd_on Rx.out hb3)
 rw [same_refl] at hsm;have eE:(E != E)=false:=by simp
 replace HV:=Lib.hid (HV.out.on hb3)
 replace HQ:=Lib.hid (HQ.out.on hb3)
 replace B:=below_cut B hb3 (Nat.le_refl _)
 replace k5:=k5.step hb3
 replace k6:=k6.step hb3
 clear hz2 hoy hb3 Rx;gi_wp2_with fail;refine ⟨trivial,(callsIn_wide.2 hsm).mono ?_⟩;rintro e w4 ⟨rfl,hd4⟩;have hb4:=hd4.below w3.heap.size;replace HV:=Lib.hid (HV.out.on hb4)
 replace HQ:=Lib.hid (HQ.out.on hb4)
 replace B:=below_cut B hb4 (Nat.le_refl _)
 replace k5:=k5.step hb4
 replace k6:=k6.step hb4
 have hlv:=qleaves_any q T ord 19 ty w4 HQ.out (rank19 HQ.out.ok.ty ty);unfold QWords at hlv;clear hsm hd4 hb4;gi_wp2_with fail;refine ⟨trivial,(callsIn_wide.2 hlv).mono ?_⟩;rintro e w5 ⟨Al,cl,rfl,hol,hb5⟩;obtain ⟨L,hL⟩:∃ L,L=leavesQ T 19 ty:=⟨_,rfl⟩;rw [← hL] at hol hfewL ⊢;have HL:=Lib.hid hL;have hbl:=(Below.refl w5.heap.size w5).alloc (Nat.le_refl _) (.cells #[.slice Al L.length cl] 63);have hb6:=below_cut hb5 hbl (Nat.le_refl _);replace HV:=Lib.hid (HV.out.on hb6)
 replace HQ:=Lib.hid (HQ.out.on hb6)
 replace B:=below_cut B hb6 (Nat.le_refl _)
 replace k5:=k5.step hb6
 replace k6:=k6.step hb6
 have k14:=Blk.new w5 63 #[.slice Al L.length cl];have RL:=Lib.hid (rd_on (Reads.of_own hol) hbl);have HS6:=Lib.hid (show (w5.alloc (.cells #[.slice Al L.length cl] 63)).heap.size=w5.heap.size+1 by simp)
 clear hlv hol hL hb5 hbl hb6;gi_wp2_with fail;generalize w5.alloc (.cells #[.slice Al L.length cl] 63)=W6 at *;refine ⟨trivial,(leaves_box _ (.pointer p) _ rfl ty W6).mono ?_⟩;rintro e w7 ⟨rfl,rfl⟩;have hbX:=((Below.refl W6.heap.size W6).alloc (Nat.le_refl _) (.cells #[.pointer p] 55)).alloc (by simp) (.cells #[.int .u32 ty] 22)
 have kt:=(Blk.new W6 55 #[.pointer p]).alloc (.cells #[.int .u32 ty] 22);have ky:=Blk.new (W6.alloc (.cells #[.pointer p] 55)) 22 #[.int .u32 ty];rw [World.size_alloc] at ky;have HS8:=Lib.hid (show ((W6.alloc (.cells #[.pointer p] 55)).alloc (.cells #[.int .u32 ty] 22)).heap.size=W6.heap.size+2 by simp)
 replace HV:=Lib.hid (HV.out.on hbX)
 replace B:=below_cut B hbX (Nat.le_refl _)
 replace k5:=k5.step hbX
 replace k6:=k6.step hbX
 replace k14:=k14.step hbX
 replace RL:=Lib.hid (rd_on RL.out hbX)
 clear hbX HQ;gi_wp2_with fail;generalize (W6.alloc (.cells #[.pointer p] 55)).alloc (.cells #[.int .u32 ty] 22)=W8 at *;have ct:=kt.cell 0;have cyy:=ky.cell 0;simp at ct cyy;have kN:=Blk.new W8 3 #[.int .i64 0];have hb9:=(Below.refl W8.heap.size W8).alloc (Nat.le_refl _) (.cells #[.int .i64 0] 3);have HS9:=Lib.hid (show (W8.alloc (.cells #[.int .i64 0] 3)).heap.size=W8.heap.size+1 by simp)
 -- THE LOOPS
 have hst1:=leavesV_stops p T S ty W8 _ HV.out W6.heap.size (W6.heap.size+1) (by have:=HS8.out;omega) (by have:=HS8.out;omega) ct cyy hb9
 rw [← HL.out] at hst1;have hgn:W8.heap.size=W6.heap.size+1+1:=by have:=HS8.out;omega
 rw [hgn] at kN;have hgn1:W8.heap.size≤W6.heap.size+1+1:=Nat.le_of_eq hgn;have hgn2:W6.heap.size+1+1≤W8.heap.size:=Nat.le_of_eq hgn.symm;clear hgn;have hg1:w.heap.size+1<W8.heap.size:=by have:=k5.lt;omega
 have hg2:w.heap.size+1+1<W8.heap.size:=by have:=k6.lt;omega
 generalize W8.alloc (.cells #[.int .i64 0] 3)=W9 at *;have hs9:W8.heap.size+1≤W9.heap.size:=Nat.le_of_eq HS9.out.symm;refine block_cut (fun a a' W'=>∃ D k,a'={ a with defers:={ target:=.collected D,args:=#[] } :: a.defers }∧(Blk W' (W6.heap.size+1+1) 3 #[.int .i64 (k:Nat)]∧Below W8.heap.size W8 W')∧(k=L.length∨((k:Nat):Int)=stop)∧k≤4096∧W9.heap.size≤D∧W'.heap[D]?=some (.deferred (some []))) ?_ ?_
 ·intro K1 hK1;refine wpIn_range_w rfl (by omega) (gf:=66) (lb:=#[.pointer (some ⟨W6.heap.size,0,none⟩),.pointer (some ⟨W6.heap.size+1,0,none⟩)]) rfl trivial (enters_of Tryz.func66 (by kernel_rfl) rfl)
   hst1 (fun h k=>h.trans k) (fun U o o' ho _=>(Below.refl W8.heap.size U).grown (grownBy_putObj' U _ o') (by have:=(Array.getElem?_eq_some_iff.1 ho).1;omega) (fun k e=>by cases e;omega)) (fun _=>rfl)
   (fun pre U=>(Blk U (W6.heap.size+1+1) 3 #[.int .i64 (pre.length:Nat)]∧Below W8.heap.size W8 U)∧∃ rest,L=pre.map (·.2)++rest)
   (fun c pre U=>c=Code.exit 0∧(Blk U (W6.heap.size+1+1) 3 #[.int .i64 (pre.length:Nat)]∧Below W8.heap.size W8 U)∧((pre.length:Nat):Int)=stop∧pre.length≤4096)
   (fun pre X Y row h hg hr=>⟨⟨h.1.1.grown hg (noncells (fun r e=>(hr r e).2) h.1.1),h.1.2.grown hg h.1.2.size (fun k e=>by have:=(hr k e).1;omega)⟩,h.2⟩)
   (fun c pre X Y row h hg hr=>⟨h.1,⟨h.2.1.1.grown hg (noncells (fun r e=>(hr r e).2) h.2.1.1),h.2.1.2.grown hg h.2.1.2.size (fun k e=>by have:=(hr k e).1;omega)⟩,h.2.2⟩)
   ⟨⟨kN,hb9⟩,L,rfl⟩
   (fun pre x a' U=>NextF L pre x U∧a'={ tmps:=#[.agg #[.int .u32 gen,.int .u32 bound,.slice A n c],.int .u32 ty,.int .i64 stop,.pointer (some ⟨w.heap.size,0,none⟩),undef,.pointer (some ⟨w.heap.size+1,0,none⟩),.pointer (some ⟨w.heap.size+1+1,0,none⟩),.pointer p,.pointer q,.bool true,.slice Ax xs.length cx,.int .i64 E,.slice Ay xs.length cy,.int .i64 E,.pointer (some ⟨w5.heap.size,0,none⟩),.func (.func 66) #[] #[.pointer (some ⟨W6.heap.size,0,none⟩),.pointer (some ⟨W6.heap.size+1,0,none⟩)],.pointer (some ⟨W6.heap.size+1+1,0,none⟩),.int .i64 (x.1:Nat),.int .u32 x.2,undef,undef,.tuple #[.pointer p,.pointer q,.bool true],.agg #[.int .u32 gen,.int .u32 bound,.slice A n c],.tuple #[.pointer p,.pointer q,.bool true],.pointer p,.pointer q,.bool true,.bool true,.bool false,.tuple #[.slice Ax xs.length cx,.int .i64 E],.pointer q,.int .u32 ty,.tuple #[.slice Ax xs.length cx,.int .i64 E],.slice Ax xs.length cx,.int .i64 E,.tuple #[.slice Ay xs.length cy,.int .i64 E],.pointer p,.int .u32 ty,.tuple #[.slice Ay xs.length cy,.int .i64 E],.slice Ay xs.length cy,.int .i64 E,.int .i64 E,.int .i64 E,.bool false,.bool false,.slice Ay xs.length cy,.slice Ax xs.length cx,.bool true,.bool false,.bool false,.pointer q,.int .u32 ty,.slice Al L.length cl,.pointer p,.int .u32 ty,.func (.func 66) #[] #[.pointer (some ⟨W6.heap.size,0,none⟩),.pointer (some ⟨W6.heap.size+1,0,none⟩)],.func (.func 66) #[] #[.pointer (some ⟨W6.heap.size,0,none⟩),.pointer (some ⟨W6.heap.size+1,0,none⟩)],.bool false,.func (.func 66) #[] #[.pointer (some ⟨W6.heap.size,0,none⟩),.pointer (some ⟨W6.heap.size+1,0,none⟩)],.int .i64 (x.1:Nat),.int .u32 x.2,undef,undef,undef,undef,undef,undef,undef,undef,undef,undef,undef,undef,undef,undef,undef,undef,undef,undef,undef,undef,undef,undef,undef,undef,undef,undef,undef,undef,undef,undef,undef,undef,undef,undef,undef,undef,undef,undef,undef,undef,undef,undef,undef,undef,undef,undef,undef,undef,undef,undef,undef,undef,undef,undef,undef,undef,undef,undef,undef,undef],defers:=[] })
   ?hax ?assign ?body ?done ?stop
  case hax =>
   rintro pre x a' _ X Y row ⟨g0,g1⟩ hg hr;exact ⟨g0,g1⟩
  case assign =>
   rintro l pre x U K hsW hI hGx hK;dsimp only [lfA];gi_wp2_with fail;exact hK _ _ (KeepsFrom.refl _ _) (Below.refl _ _) hI ⟨hGx,rfl⟩
  case body =>
   rintro l pre x a' U hsW ⟨r,hr⟩ ⟨⟨kb,hbU⟩,-⟩ ⟨⟨hx1,rest,hx2⟩,rfl⟩;obtain ⟨x1,x2⟩:=x;replace hx1:x1=pre.length:=hx1
   replace hx2:L=pre.map (·.2)++x2 :: rest:=hx2
   subst hx1;have hpl:pre.length<L.length:=by
    have:=congrArg List.length hx2;rw [List.length_append,List.length_map,List.length_cons] at this;omega
   have hxL:ix L pre.length=x2:=by
    rw [ix_of hpl];simp only [hx2];rw [List.getElem_append_right (by rw [List.length_map];exact Nat.le_refl _)]
    simp
   have hnext:∃ rest,L=(pre++[(pre.length,x2)]).map (·.2)++rest:=⟨rest,by rw [hx2,List.map_append];simp⟩
   have hlen1:(pre++[(pre.length,x2)]).length=pre.length+1:=by simp
   have k5U:=k5.step hbU;have k14U:=k14.step hbU;obtain ⟨b,off,hAl,hbb,hcc⟩:=(rd_on RL.out hbU).ints (by omega)
   have c2:=hcc pre.length hpl;rw [hxL] at c2;have c5:=k5U.cell 0;have c14:=k14U.cell 0;have cb:=kb.cell 0;have fb:=kb.frozen 0;simp at c5 c14 cb;have HNX:=Lib.hid hnext;have HLN:=Lib.hid hlen1;clear hx2 hxL hnext hlen1 hcc k5U k14U;generalize pre.length=N at *;have kb2:Blk (U.setCell ⟨W6.heap.size+1+1,0,none⟩ (.int .i64 ((N:Int)+1))) (W6.heap.size+1+1) 3 #[.int .i64 ((N+1:Nat))]:=by
    have h9:=kb.set_ 0 (.int .i64 ((N:Int)+1));rw [show (((N+1:Nat)):Int)=(N:Int)+1 by omega]
    simpa using h9
   have hbU2:=hbU.setCell (p:=⟨W6.heap.size+1+1,0,none⟩) (by show W8.heap.size≤W6.heap.size+1+1;omega) (.int .i64 ((N:Int)+1))
   have hbK:=(Below.refl W8.heap.size U).setCell (p:=⟨W6.heap.size+1+1,0,none⟩) (by show W8.heap.size≤W6.heap.size+1+1;omega) (.int .i64 ((N:Int)+1))
   have hbU2':=hbU2;have hw1:IntKind.i64.wrap ((N:Int)+1)=(N:Int)+1:=IntWalk.i64_in _ (by omega)
   have d1:decide (((N:Nat):Int)≥(L.length:Nat))=false:=by rw [decide_eq_false_iff_not];omega
   have d1n:¬ L.length≤N:=by omega
   have hlt2:((N:Nat):Int)<(L.length:Nat):=by omega
   have e1:(((N:Nat):Int) != (N:Nat))=false:=by simp
   have e2:(x2 != x2)=false:=by simp
   have hlow:(W6.heap.size+1+1)≠w.heap.size+1:=by omega
   have c5b:=(hbK.cell (p:=⟨w.heap.size+1,0,none⟩) (by show w.heap.size+1<W8.heap.size;omega)).trans c5
   have m2:=kb2.cell 0;simp at m2;subst hAl
   by_cases hst:(N:Int)+1=stop
   ·have e3:((N:Int)+1==stop)=true:=by rw [hst];simp
    have HST:=Lib.hid hst;clear hst kb;gi_wp2_with fail;exact ⟨(KeepsOthers.setCell _ _ _).from _,rfl,⟨by rw [HLN.out];exact kb2,hbU2'⟩,by rw [HLN.out];have:=HST.out;omega,by rw [HLN.out];omega⟩
   ·have e3:((N:Int)+1==stop)=false:=by rw [beq_eq_false_iff_ne];exact hst
    clear hst kb;gi_wp2_with fail;exact ⟨(KeepsOthers.setCell _ _ _).from _,hbK,⟨by rw [HLN.out];exact kb2,hbU2'⟩,HNX.out⟩
  case done =>
   rintro D ys U hD hS ⟨⟨kb,hbU⟩,-⟩ hK;have hyl:ys.length=L.length:=by rw [← hS,List.length_map]
   exact hK1.out _ _ ⟨D,ys.length,rfl,⟨kb,hbU⟩,.inl hyl,by omega,hD,hK⟩
  case stop =>
   rintro D c pre U hD _ ⟨rfl,⟨kb,hbU⟩,hst,h4⟩ hK;gi_wp2_with fail;exact hK1.out _ _ ⟨D,pre.length,rfl,⟨kb,hbU⟩,.inr hst,h4,hD,hK⟩
 ·rintro a' U ⟨D1,k,rfl,⟨kb,hbU⟩,hk,hk4,hD1,hdd⟩;clear hst1 kN hb9
  by_cases hkL:k=L.length
  ·have e5:(((k:Nat):Int) != (L.length:Nat))=false:=by rw [hkL];simp
   clear hkL;have c5:=(k5.step hbU).cell 0;have c14:=(k14.step hbU).cell 0;have cb:=kb.cell 0;have fb:=kb.frozen 0;simp at c5 c14 cb;have kN2:Blk (U.setCell ⟨W6.heap.size+1+1,0,none⟩ (.int .i64 0)) (W6.heap.size+1+1) 3 #[.int .i64 ((0:Nat):Int)]:=by simpa using kb.set_ 0 (.int .i64 0)
   have hbU2:=hbU.setCell (p:=⟨W6.heap.size+1+1,0,none⟩) (by show W8.heap.size≤W6.heap.size+1+1;omega) (.int .i64 0)
   have hdd2:(U.setCell ⟨W6.heap.size+1+1,0,none⟩ (.int .i64 0)).heap[D1]?=some (.deferred (some [])):=(Below.heap_setCell _ _ _ _ (show D1≠W6.heap.size+1+1 by omega)).trans hdd
   have hst2:=leavesV_stops p T S ty W8 _ HV.out W6.heap.size (W6.heap.size+1) (by omega) (by omega) ct cyy hbU2
   rw [← HL.out] at hst2;clear kb hk;gi_wp2_with fail;generalize U.setCell ⟨W6.heap.size+1+1,0,none⟩ (.int .i64 0)=U2 at *;have hsU2:W9.heap.size≤U2.heap.size:=by have:=(Array.getElem?_eq_some_iff.1 hdd2).1;have:=kN2.lt;omega
   have hD1l:=(Array.getElem?_eq_some_iff.1 hdd2).1;clear c5 c14 cb fb hdd;refine block_cut (fun a a' W'=>∃ D,a'={ a with defers:={ target:=.collected D,args:=#[] } :: a.defers }∧(Blk W' (W6.heap.size+1+1) 3 #[.int .i64 (L.length:Nat)]∧Below W8.heap.size W8 W')∧W'.heap[D1]?=some (.deferred (some []))∧D1<D∧W'.heap[D]?=some (.deferred (some []))) ?_ ?_
   ·intro K1 hK1;refine wpIn_range_w rfl (by omega) (gf:=66) (lb:=#[.pointer (some ⟨W6.heap.size,0,none⟩),.pointer (some ⟨W6.heap.size+1,0,none⟩)]) rfl trivial (enters_of Tryz.func66 (by kernel_rfl) rfl)
     hst2 (fun h k=>h.trans k) (fun U o o' ho _=>(Below.refl W8.heap.size U).grown (grownBy_putObj' U _ o') (by have:=(Array.getElem?_eq_some_iff.1 ho).1;omega) (fun k e=>by cases e;omega)) (fun _=>rfl)
     (fun pre U=>(Blk U (W6.heap.size+1+1) 3 #[.int .i64 (pre.length:Nat)]∧Below W8.heap.size W8 U)∧(∃ rest,L=pre.map (·.2)++rest)∧U.heap[D1]?=some (.deferred (some [])))
     (fun _ _ _=>False)
     (fun pre X Y row h hg hr=>⟨⟨h.1.1.grown hg (noncells (fun r e=>(hr r e).2) h.1.1),h.1.2.grown hg h.1.2.size (fun k e=>by have:=(hr k e).1;omega)⟩,h.2.1,(hg.block D1 (by have:=(Array.getElem?_eq_some_iff.1 h.2.2).1;omega) (fun e=>by have:=(hr D1 e.symm).1;omega)).trans h.2.2⟩)
     (fun c pre X Y row h hg hr=>h)
     ⟨⟨kN2,hbU2⟩,⟨L,rfl⟩,hdd2⟩
     (fun pre x a' U=>NextF L pre x U∧a'={ tmps:=#[.agg #[.int .u32 gen,.int .u32 bound,.slice A n c],.int .u32 ty,.int .i64 stop,.pointer (some ⟨w.heap.size,0,none⟩),undef,.pointer (some ⟨w.heap.size+1,0,none⟩),.pointer (some ⟨w.heap.size+1+1,0,none⟩),.pointer p,.pointer q,.bool true,.slice Ax xs.length cx,.int .i64 E,.slice Ay xs.length cy,.int .i64 E,.pointer (some ⟨w5.heap.size,0,none⟩),.func (.func 66) #[] #[.pointer (some ⟨W6.heap.size,0,none⟩),.pointer (some ⟨W6.heap.size+1,0,none⟩)],.pointer (some ⟨W6.heap.size+1+1,0,none⟩),undef,undef,.int .i64 (x.1:Nat),.int .u32 x.2,.tuple #[.pointer p,.pointer q,.bool true],.agg #[.int .u32 gen,.int .u32 bound,.slice A n c],.tuple #[.pointer p,.pointer q,.bool true],.pointer p,.pointer q,.bool true,.bool true,.bool false,.tuple #[.slice Ax xs.length cx,.int .i64 E],.pointer q,.int .u32 ty,.tuple #[.slice Ax xs.length cx,.int .i64 E],.slice Ax xs.length cx,.int .i64 E,.tuple #[.slice Ay xs.length cy,.int .i64 E],.pointer p,.int .u32 ty,.tuple #[.slice Ay xs.length cy,.int .i64 E],.slice Ay xs.length cy,.int .i64 E,.int .i64 E,.int .i64 E,.bool false,.bool false,.slice Ay xs.length cy,.slice Ax xs.length cx,.bool true,.bool false,.bool false,.pointer q,.int .u32 ty,.slice Al L.length cl,.pointer p,.int .u32 ty,.func (.func 66) #[] #[.pointer (some ⟨W6.heap.size,0,none⟩),.pointer (some ⟨W6.heap.size+1,0,none⟩)],.func (.func 66) #[] #[.pointer (some ⟨W6.heap.size,0,none⟩),.pointer (some ⟨W6.heap.size+1,0,none⟩)],.bool false,.func (.func 66) #[] #[.pointer (some ⟨W6.heap.size,0,none⟩),.pointer (some ⟨W6.heap.size+1,0,none⟩)],undef,undef,undef,undef,undef,undef,undef,undef,undef,undef,undef,undef,undef,undef,undef,undef,undef,undef,undef,undef,undef,undef,undef,undef,.int .i64 (k:Nat),.slice Al L.length cl,.int .i64 (L.length:Nat),.bool false,.bool false,undef,undef,undef,.bool false,.func (.func 66) #[] #[.pointer (some ⟨W6.heap.size,0,none⟩),.pointer (some ⟨W6.heap.size+1,0,none⟩)],.int .i64 (x.1:Nat),.int .u32 x.2,undef,undef,undef,undef,undef,undef,undef,undef,undef,undef,undef,undef,undef,undef,undef,undef,undef,undef,undef,undef,undef,undef,undef,undef,undef,undef],defers:=[] })
     ?hax ?assign ?body ?done ?stop
    case hax =>
     rintro pre x a' _ X Y row ⟨g0,g1⟩ hg hr;exact ⟨g0,g1⟩
    case assign =>
     rintro l pre x U K hsW hI hGx hK;dsimp only [lfA];gi_wp2_with fail;exact hK _ _ (KeepsFrom.refl _ _) (Below.refl _ _) hI ⟨hGx,rfl⟩
    case body =>
     rintro l pre x a' U hsW ⟨r,hr⟩ ⟨⟨kb,hbU⟩,-,hdU⟩ ⟨⟨hx1,rest,hx2⟩,rfl⟩;obtain ⟨x1,x2⟩:=x;replace hx1:x1=pre.length:=hx1
     replace hx2:L=pre.map (·.2)++x2 :: rest:=hx2
     subst hx1;have hpl:pre.length<L.length:=by
      have:=congrArg List.length hx2;rw [List.length_append,List.length_map,List.length_cons] at this;omega
     have hxL:ix L pre.length=x2:=by
      rw [ix_of hpl];simp only [hx2];rw [List.getElem_append_right (by rw [List.length_map];exact Nat.le_refl _)]
      simp
     have hnext:∃ rest,L=(pre++[(pre.length,x2)]).map (·.2)++rest:=⟨rest,by rw [hx2,List.map_append];simp⟩
     have hlen1:(pre++[(pre.length,x2)]).length=pre.length+1:=by simp
     have k5U:=k5.step hbU;have k14U:=k14.step hbU;obtain ⟨b,off,hAl,hbb,hcc⟩:=(rd_on RL.out hbU).ints (by omega)
     have c2:=hcc pre.length hpl;rw [hxL] at c2;have c5:=k5U.cell 0;have c14:=k14U.cell 0;have cb:=kb.cell 0;have fb:=kb.frozen 0;simp at c5 c14 cb;have HNX:=Lib.hid hnext;have HLN:=Lib.hid hlen1;clear hx2 hxL hnext hlen1 hcc k5U k14U;generalize pre.length=N at *;have kb2:Blk (U.setCell ⟨W6.heap.size+1+1,0,none⟩ (.int .i64 ((N:Int)+1))) (W6.heap.size+1+1) 3 #[.int .i64 ((N+1:Nat))]:=by
      have h9:=kb.set_ 0 (.int .i64 ((N:Int)+1));rw [show (((N+1:Nat)):Int)=(N:Int)+1 by omega]
      simpa using h9
     have hbU2:=hbU.setCell (p:=⟨W6.heap.size+1+1,0,none⟩) (by show W8.heap.size≤W6.heap.size+1+1;omega) (.int .i64 ((N:Int)+1))
     have hbK:=(Below.refl W8.heap.size U).setCell (p:=⟨W6.heap.size+1+1,0,none⟩) (by show W8.heap.size≤W6.heap.size+1+1;omega) (.int .i64 ((N:Int)+1))
     have hbU2':=hbU2;have hw1:IntKind.i64.wrap ((N:Int)+1)=(N:Int)+1:=IntWalk.i64_in _ (by omega)
     have d1:decide (((N:Nat):Int)≥(L.length:Nat))=false:=by rw [decide_eq_false_iff_not];omega
     have d1n:¬ L.length≤N:=by omega
     have hlt2:((N:Nat):Int)<(L.length:Nat):=by omega
     have e1:(((N:Nat):Int) != (N:Nat))=false:=by simp
     have e2:(x2 != x2)=false:=by simp
     have hlow:(W6.heap.size+1+1)≠w.heap.size+1:=by omega
     have c5b:=(hbK.cell (p:=⟨w.heap.size+1,0,none⟩) (by show w.heap.size+1<W8.heap.size;omega)).trans c5
     have m2:=kb2.cell 0;simp at m2;subst hAl;clear kb;gi_wp2_with fail;exact ⟨(KeepsOthers.setCell _ _ _).from _,hbK,⟨by rw [HLN.out];exact kb2,hbU2'⟩,HNX.out,(Below.heap_setCell _ _ _ _ (show D1≠W6.heap.size+1+1 by omega)).trans hdU⟩
    case done =>
     rintro D ys U hD hS ⟨⟨kb,hbU⟩,-,hdU⟩ hK;have hyl:ys.length=L.length:=by rw [← hS,List.length_map]
     exact hK1.out _ _ ⟨D,rfl,⟨by rw [← hyl];exact kb,hbU⟩,hdU,by omega,hK⟩
    case stop =>
     rintro D c pre U _ _ h _;exact h.elim
   ·rintro a' V ⟨D2,rfl,⟨kb3,hbV⟩,hd1,hD12,hd2⟩;have BV:=below_cut B hbV (Nat.le_refl _);have c14:=(k14.step hbV).cell 0;have cb:=kb3.cell 0;simp at c14 cb;have haw:=awake12_any V (HPE.out.1.step BV) (HPE.out.2.step BV);clear hst2 kN2 hbU2 hdd2;gi_wp2_with fail;refine ⟨trivial,(callsIn_wide.2 haw).mono ?_⟩;rintro e Y ⟨rfl,hbY⟩;have k3Y:=(k6.step hbV).step hbY;have hBY:=below_cut BV hbY (Nat.le_refl _);have q3:=k3Y.cell 0;have g3:=k3Y.frozen 0;simp at q3;have hd1Y:=(hbY.block D1 (Array.getElem?_eq_some_iff.1 hd1).1).trans hd1;have hd2Y:=(hbY.block D2 (Array.getElem?_eq_some_iff.1 hd2).1).trans hd2;have k3Z:Blk (Y.setCell ⟨w.heap.size+1+1,0,none⟩ (.bool true)) (w.heap.size+1+1) 4 #[.bool true]:=by simpa using k3Y.set_ 0 (.bool true)
    have hd1Z:(Y.setCell ⟨w.heap.size+1+1,0,none⟩ (.bool true)).heap[D1]?=some (.deferred (some [])):=(Below.heap_setCell _ _ _ _ (show D1≠w.heap.size+1+1 by omega)).trans hd1Y
    have hd2Z:(Y.setCell ⟨w.heap.size+1+1,0,none⟩ (.bool true)).heap[D2]?=some (.deferred (some [])):=(Below.heap_setCell _ _ _ _ (show D2≠w.heap.size+1+1 by omega)).trans hd2Y
    have hBZ:=hBY.setCell (p:=⟨w.heap.size+1+1,0,none⟩) (by show w.heap.size≤w.heap.size+1+1;omega) (.bool true)
    clear haw;gi_wp2_with fail;generalize Y.setCell ⟨w.heap.size+1+1,0,none⟩ (.bool true)=Z at *;have k3P:Blk (Z.putObj D2 (.deferred none)) (w.heap.size+1+1) 4 #[.bool true]:=(World.putObj_heap_other (by omega)).trans k3Z
    have hd1P:(Z.putObj D2 (.deferred none)).heap[D1]?=some (.deferred (some [])):=(World.putObj_heap_other (by omega)).trans hd1Z
    have k3R:Blk ((Z.putObj D2 (.deferred none)).putObj D1 (.deferred none)) (w.heap.size+1+1) 4 #[.bool true]:=(World.putObj_heap_other (by omega)).trans k3P
    have m1:=k3R.cell 0;simp at m1;have hwB:=B.size;have hbl:=(hBZ.trans (belowK_b (n₀:=w.heap.size) (w:=W8) hwB Z D2 _ (.deferred none) (by omega) hd2Z rfl rfl)).trans (belowK_b (n₀:=w.heap.size) (w:=W8) hwB _ D1 _ (.deferred none) (by omega) hd1P rfl rfl)
    refine ⟨by simp,.inl ⟨_,_,rfl,run_takeDeferred hd2Z,?_⟩⟩
    refine ⟨by simp,.inl ⟨_,_,rfl,run_takeDeferred hd1P,?_⟩⟩
    refine ⟨.bool true,by rw [results_c1 rfl];go_simp,?_⟩
    exact ⟨rfl,hbl⟩
  ·have hst:((k:Nat):Int)=stop:=hk.resolve_left hkL;have e5:(((k:Nat):Int) != (L.length:Nat))=true:=by rw [bne_iff_ne];omega
   have e6:(((k:Nat):Int) != stop)=false:=by rw [hst];simp
   clear hst hkL;have c5:=(k5.step hbU).cell 0;have c14:=(k14.step hbU).cell 0;have cb:=kb.cell 0;have fb:=kb.frozen 0;simp at c5 c14 cb;have kN2:Blk (U.setCell ⟨W6.heap.size+1+1,0,none⟩ (.int .i64 0)) (W6.heap.size+1+1) 3 #[.int .i64 ((0:Nat):Int)]:=by simpa using kb.set_ 0 (.int .i64 0)
   have hbU2:=hbU.setCell (p:=⟨W6.heap.size+1+1,0,none⟩) (by show W8.heap.size≤W6.heap.size+1+1;omega) (.int .i64 0)
   have hdd2:(U.setCell ⟨W6.heap.size+1+1,0,none⟩ (.int .i64 0)).heap[D1]?=some (.deferred (some [])):=(Below.heap_setCell _ _ _ _ (show D1≠W6.heap.size+1+1 by omega)).trans hdd
   have hst2:=leavesV_stops p T S ty W8 _ HV.out W6.heap.size (W6.heap.size+1) (by omega) (by omega) ct cyy hbU2
   rw [← HL.out] at hst2;clear kb hk;gi_wp2_with fail;generalize U.setCell ⟨W6.heap.size+1+1,0,none⟩ (.int .i64 0)=U2 at *;have hsU2:W9.heap.size≤U2.heap.size:=by have:=(Array.getElem?_eq_some_iff.1 hdd2).1;have:=kN2.lt;omega
   have hD1l:=(Array.getElem?_eq_some_iff.1 hdd2).1;clear c5 c14 cb fb hdd;refine block_cut (fun a a' W'=>∃ D,a'={ a with defers:={ target:=.collected D,args:=#[] } :: a.defers }∧(Blk W' (W6.heap.size+1+1) 3 #[.int .i64 (L.length:Nat)]∧Below W8.heap.size W8 W')∧W'.heap[D1]?=some (.deferred (some []))∧D1<D∧W'.heap[D]?=some (.deferred (some []))) ?_ ?_
   ·intro K1 hK1;refine wpIn_range_w rfl (by omega) (gf:=66) (lb:=#[.pointer (some ⟨W6.heap.size,0,none⟩),.pointer (some ⟨W6.heap.size+1,0,none⟩)]) rfl trivial (enters_of Tryz.func66 (by kernel_rfl) rfl)
     hst2 (fun h k=>h.trans k) (fun U o o' ho _=>(Below.refl W8.heap.size U).grown (grownBy_putObj' U _ o') (by have:=(Array.getElem?_eq_some_iff.1 ho).1;omega) (fun k e=>by cases e;omega)) (fun _=>rfl)
     (fun pre U=>(Blk U (W6.heap.size+1+1) 3 #[.int .i64 (pre.length:Nat)]∧Below W8.heap.size W8 U)∧(∃ rest,L=pre.map (·.2)++rest)∧U.heap[D1]?=some (.deferred (some [])))
     (fun _ _ _=>False)
     (fun pre X Y row h hg hr=>⟨⟨h.1.1.grown hg (noncells (fun r e=>(hr r e).2) h.1.1),h.1.2.grown hg h.1.2.size (fun k e=>by have:=(hr k e).1;omega)⟩,h.2.1,(hg.block D1 (by have:=(Array.getElem?_eq_some_iff.1 h.2.2).1;omega) (fun e=>by have:=(hr D1 e.symm).1;omega)).trans h.2.2⟩)
     (fun c pre X Y row h hg hr=>h)
     ⟨⟨kN2,hbU2⟩,⟨L,rfl⟩,hdd2⟩
     (fun pre x a' U=>NextF L pre x U∧a'={ tmps:=#[.agg #[.int .u32 gen,.int .u32 bound,.slice A n c],.int .u32 ty,.int .i64 stop,.pointer (some ⟨w.heap.size,0,none⟩),undef,.pointer (some ⟨w.heap.size+1,0,none⟩),.pointer (some ⟨w.heap.size+1+1,0,none⟩),.pointer p,.pointer q,.bool true,.slice Ax xs.length cx,.int .i64 E,.slice Ay xs.length cy,.int .i64 E,.pointer (some ⟨w5.heap.size,0,none⟩),.func (.func 66) #[] #[.pointer (some ⟨W6.heap.size,0,none⟩),.pointer (some ⟨W6.heap.size+1,0,none⟩)],.pointer (some ⟨W6.heap.size+1+1,0,none⟩),undef,undef,.int .i64 (x.1:Nat),.int .u32 x.2,.tuple #[.pointer p,.pointer q,.bool true],.agg #[.int .u32 gen,.int .u32 bound,.slice A n c],.tuple #[.pointer p,.pointer q,.bool true],.pointer p,.pointer q,.bool true,.bool true,.bool false,.tuple #[.slice Ax xs.length cx,.int .i64 E],.pointer q,.int .u32 ty,.tuple #[.slice Ax xs.length cx,.int .i64 E],.slice Ax xs.length cx,.int .i64 E,.tuple #[.slice Ay xs.length cy,.int .i64 E],.pointer p,.int .u32 ty,.tuple #[.slice Ay xs.length cy,.int .i64 E],.slice Ay xs.length cy,.int .i64 E,.int .i64 E,.int .i64 E,.bool false,.bool false,.slice Ay xs.length cy,.slice Ax xs.length cx,.bool true,.bool false,.bool false,.pointer q,.int .u32 ty,.slice Al L.length cl,.pointer p,.int .u32 ty,.func (.func 66) #[] #[.pointer (some ⟨W6.heap.size,0,none⟩),.pointer (some ⟨W6.heap.size+1,0,none⟩)],.func (.func 66) #[] #[.pointer (some ⟨W6.heap.size,0,none⟩),.pointer (some ⟨W6.heap.size+1,0,none⟩)],.bool false,.func (.func 66) #[] #[.pointer (some ⟨W6.heap.size,0,none⟩),.pointer (some ⟨W6.heap.size+1,0,none⟩)],undef,undef,undef,undef,undef,undef,undef,undef,undef,undef,undef,undef,undef,undef,undef,undef,undef,undef,undef,undef,undef,undef,undef,undef,.int .i64 (k:Nat),.slice Al L.length cl,.int .i64 (L.length:Nat),.bool true,.bool true,.int .i64 (k:Nat),.int .i64 stop,.bool false,.bool false,.func (.func 66) #[] #[.pointer (some ⟨W6.heap.size,0,none⟩),.pointer (some ⟨W6.heap.size+1,0,none⟩)],.int .i64 (x.1:Nat),.int .u32 x.2,undef,undef,undef,undef,undef,undef,undef,undef,undef,undef,undef,undef,undef,undef,undef,undef,undef,undef,undef,undef,undef,undef,undef,undef,undef,undef],defers:=[] })
     ?hax ?assign ?body ?done ?stop
    case hax =>
     rintro pre x a' _ X Y row ⟨g0,g1⟩ hg hr;exact ⟨g0,g1⟩
    case assign =>
     rintro l pre x U K hsW hI hGx hK;dsimp only [lfA];gi_wp2_with fail;exact hK _ _ (KeepsFrom.refl _ _) (Below.refl _ _) hI ⟨hGx,rfl⟩
    case body =>
     rintro l pre x a' U hsW ⟨r,hr⟩ ⟨⟨kb,hbU⟩,-,hdU⟩ ⟨⟨hx1,rest,hx2⟩,rfl⟩;obtain ⟨x1,x2⟩:=x;replace hx1:x1=pre.length:=hx1
     replace hx2:L=pre.map (·.2)++x2 :: rest:=hx2
     subst hx1;have hpl:pre.length<L.length:=by
      have:=congrArg List.length hx2;rw [List.length_append,List.length_map,List.length_cons] at this;omega
     have hxL:ix L pre.length=x2:=by
      rw [ix_of hpl];simp only [hx2];rw [List.getElem_append_right (by rw [List.length_map];exact Nat.le_refl _)]
      simp
     have hnext:∃ rest,L=(pre++[(pre.length,x2)]).map (·.2)++rest:=⟨rest,by rw [hx2,List.map_append];simp⟩
     have hlen1:(pre++[(pre.length,x2)]).length=pre.length+1:=by simp
     have k5U:=k5.step hbU;have k14U:=k14.step hbU;obtain ⟨b,off,hAl,hbb,hcc⟩:=(rd_on RL.out hbU).ints (by omega)
     have c2:=hcc pre.length hpl;rw [hxL] at c2;have c5:=k5U.cell 0;have c14:=k14U.cell 0;have cb:=kb.cell 0;have fb:=kb.frozen 0;simp at c5 c14 cb;have HNX:=Lib.hid hnext;have HLN:=Lib.hid hlen1;clear hx2 hxL hnext hlen1 hcc k5U k14U;generalize pre.length=N at *;have kb2:Blk (U.setCell ⟨W6.heap.size+1+1,0,none⟩ (.int .i64 ((N:Int)+1))) (W6.heap.size+1+1) 3 #[.int .i64 ((N+1:Nat))]:=by
      have h9:=kb.set_ 0 (.int .i64 ((N:Int)+1));rw [show (((N+1:Nat)):Int)=(N:Int)+1 by omega]
      simpa using h9
     have hbU2:=hbU.setCell (p:=⟨W6.heap.size+1+1,0,none⟩) (by show W8.heap.size≤W6.heap.size+1+1;omega) (.int .i64 ((N:Int)+1))
     have hbK:=(Below.refl W8.heap.size U).setCell (p:=⟨W6.heap.size+1+1,0,none⟩) (by show W8.heap.size≤W6.heap.size+1+1;omega) (.int .i64 ((N:Int)+1))
     have hbU2':=hbU2;have hw1:IntKind.i64.wrap ((N:Int)+1)=(N:Int)+1:=IntWalk.i64_in _ (by omega)
     have d1:decide (((N:Nat):Int)≥(L.length:Nat))=false:=by rw [decide_eq_false_iff_not];omega
     have d1n:¬ L.length≤N:=by omega
     have hlt2:((N:Nat):Int)<(L.length:Nat):=by omega
     have e1:(((N:Nat):Int) != (N:Nat))=false:=by simp
     have e2:(x2 != x2)=false:=by simp
     have hlow:(W6.heap.size+1+1)≠w.heap.size+1:=by omega
     have c5b:=(hbK.cell (p:=⟨w.heap.size+1,0,none⟩) (by show w.heap.size+1<W8.heap.size;omega)).trans c5
     have m2:=kb2.cell 0;simp at m2;subst hAl;clear kb;gi_wp2_with fail;exact ⟨(KeepsOthers.setCell _ _ _).from _,hbK,⟨by rw [HLN.out];exact kb2,hbU2'⟩,HNX.out,(Below.heap_setCell _ _ _ _ (show D1≠W6.heap.size+1+1 by omega)).trans hdU⟩
    case done =>
     rintro D ys U hD hS ⟨⟨kb,hbU⟩,-,hdU⟩ hK;have hyl:ys.length=L.length:=by rw [← hS,List.length_map]
     exact hK1.out _ _ ⟨D,rfl,⟨by rw [← hyl];exact kb,hbU⟩,hdU,by omega,hK⟩
    case stop =>
     rintro D c pre U _ _ h _;exact h.elim
   ·rintro a' V ⟨D2,rfl,⟨kb3,hbV⟩,hd1,hD12,hd2⟩;have BV:=below_cut B hbV (Nat.le_refl _);have c14:=(k14.step hbV).cell 0;have cb:=kb3.cell 0;simp at c14 cb;have haw:=awake12_any V (HPE.out.1.step BV) (HPE.out.2.step BV);clear hst2 kN2 hbU2 hdd2;gi_wp2_with fail;refine ⟨trivial,(callsIn_wide.2 haw).mono ?_⟩;rintro e Y ⟨rfl,hbY⟩;have k3Y:=(k6.step hbV).step hbY;have hBY:=below_cut BV hbY (Nat.le_refl _);have q3:=k3Y.cell 0;have g3:=k3Y.frozen 0;simp at q3;have hd1Y:=(hbY.block D1 (Array.getElem?_eq_some_iff.1 hd1).1).trans hd1;have hd2Y:=(hbY.block D2 (Array.getElem?_eq_some_iff.1 hd2).1).trans hd2;have k3Z:Blk (Y.setCell ⟨w.heap.size+1+1,0,none⟩ (.bool true)) (w.heap.size+1+1) 4 #[.bool true]:=by simpa using k3Y.set_ 0 (.bool true)
    have hd1Z:(Y.setCell ⟨w.heap.size+1+1,0,none⟩ (.bool true)).heap[D1]?=some (.deferred (some [])):=(Below.heap_setCell _ _ _ _ (show D1≠w.heap.size+1+1 by omega)).trans hd1Y
    have hd2Z:(Y.setCell ⟨w.heap.size+1+1,0,none⟩ (.bool true)).heap[D2]?=some (.deferred (some [])):=(Below.heap_setCell _ _ _ _ (show D2≠w.heap.size+1+1 by omega)).trans hd2Y
    have hBZ:=hBY.setCell (p:=⟨w.heap.size+1+1,0,none⟩) (by show w.heap.size≤w.heap.size+1+1;omega) (.bool true)
    clear haw;gi_wp2_with fail;generalize Y.setCell ⟨w.heap.size+1+1,0,none⟩ (.bool true)=Z at *;have k3P:Blk (Z.putObj D2 (.deferred none)) (w.heap.size+1+1) 4 #[.bool true]:=(World.putObj_heap_other (by omega)).trans k3Z
    have hd1P:(Z.putObj D2 (.deferred none)).heap[D1]?=some (.deferred (some [])):=(World.putObj_heap_other (by omega)).trans hd1Z
    have k3R:Blk ((Z.putObj D2 (.deferred none)).putObj D1 (.deferred none)) (w.heap.size+1+1) 4 #[.bool true]:=(World.putObj_heap_other (by omega)).trans k3P
    have m1:=k3R.cell 0;simp at m1;have hwB:=B.size;have hbl:=(hBZ.trans (belowK_b (n₀:=w.heap.size) (w:=W8) hwB Z D2 _ (.deferred none) (by omega) hd2Z rfl rfl)).trans (belowK_b (n₀:=w.heap.size) (w:=W8) hwB _ D1 _ (.deferred none) (by omega) hd1P rfl rfl)
    refine ⟨by simp,.inl ⟨_,_,rfl,run_takeDeferred hd2Z,?_⟩⟩
    refine ⟨by simp,.inl ⟨_,_,rfl,run_takeDeferred hd1P,?_⟩⟩
    refine ⟨.bool true,by rw [results_c1 rfl];go_simp,?_⟩
    exact ⟨rfl,hbl⟩
theorem law_qzero (gen bound:Int) (A:Option Addr) (n c:Nat) (ls:List InstA) (ty stop:Int) (w:World) (hM:ModS w w.heap.size A n ls) (hn:n≤3600000000000) (hP:Pow w) (hE:Errs w)
  (hN:∀ x∈ls,(∀ a∈x.1.2.2.2,0≤a.2.1∧a.2.1<4294967296)∧(0≤x.1.1∧x.1.1<65536)) :
  Calls Tryz.prog 10 #[.agg (modC gen bound A n c),.int .u32 ty,.int .i64 stop] w (BoolIs true w):=callsIn_wide.1 (law_qzero_in gen bound A n c ls ty stop w hM hn hP hE hN)
end Go.Proofs.YteelmakkogdieaaGreatDoor
