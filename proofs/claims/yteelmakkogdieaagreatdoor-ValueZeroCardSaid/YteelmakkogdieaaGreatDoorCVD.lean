/- Walks: value.Parse. -/
import Derived.Test.YteelmakkogdieaaGreatDoorCVB
import Derived.Test.YteelmakkogdieaaGreatDoorCTQ
import Derived.Test.YteelmakkogdieaaGreatDoorCUC
import Derived.Lib.ItoaMem
import Derived.Sort.Grow
import Derived.Shelf.LaysM
import Derived.Lib.Walk
import Derived.WalkKit
import Derived.BigCall
import Derived.BigGuard
import Derived.Test.YteelmakkogdieaaGreatDoorCUE
import Derived.Test.YteelmakkogdieaaGreatDoorCVA
set_option maxRecDepth 100000
set_option maxHeartbeats 8000000
namespace Go.Proofs.YteelmakkogdieaaGreatDoor
section
open Go.RowKit
def ParseIs (T:Int→TyI) (ty:Int) (s:ByteArray) (w:World) (e:Ending) (w':World):Prop :=
 Below w.heap.size w w'∧((∃ r ws A c,parseR T 19 ty s.data.toList=(r,some ws)∧blanksL r=[]∧e=.returned (.tuple #[.slice A ws.length c,.agg #[.int .i64 0,.int .i64 0]])∧w'.ownsRow w.heap.size 22 1 (.slice A ws.length c) ws.length (Ints .u32 ws)) ∨
  (∃ at_:Nat,at_≤s.size∧e=.returned (.tuple #[.slice none 0 0,.agg #[.int .i64 120,.int .i64 (at_:Nat)]])∧¬ ∃ r ws,parseR T 19 ty s.data.toList=(r,some ws)∧blanksL r=[]))
theorem parse_any (gt:Nat) (T:Int→TyI) (S:Int→SlI) (ty:Int) (s:ByteArray) (w:World) (hO:RdOk w gt T S) (hp:0<(T ty).size) (hs:s.size≤140737488351232) :
  Calls Tryz.prog 71 #[.pointer (some ⟨gt,0,none⟩),.int .u32 ty,.string s] w (ParseIs T ty s w):=by
 have hbs:=(Below.refl w.heap.size w).alloc (Nat.le_refl _) (.cells #[.int .i64 0,.int .i64 0] 29);have kS:=Blk.new w 29 #[.int .i64 0,.int .i64 0];have hask:=asked_any gt T S ty _ (hO.tab.step hbs);have ea:askE T ty=0:=if_pos hp;rw [ea] at hask;have HO:=Lib.hid hO;have hq:rankT (T ty)<((19:Nat):Int):=by have:=(rankT_bd hO.ty ty).2;omega
 have h4:=(hO.ty.size ty).2.2;clear ea hO;go_enter Tryz.func71,Tryz.ntmps71;go_wp2_with fail;refine hask.mono ?_;rintro e w1 ⟨rfl,hb1⟩;have kS1:=kS.step hb1;have hb2:=below_cut hbs hb1 (Nat.le_refl _);have hO1:RdOk w1 gt T S:=⟨HO.out.ty,HO.out.tab.step hb2,HO.out.pow.step hb2,HO.out.err.step hb2⟩;have hr0:RdS w1 (w1.alloc (.cells #[.pointer (some ⟨gt,0,none⟩),.string s,.int .i64 0,.slice none 0 0] 197)) w1.heap.size (some ⟨gt,0,none⟩) s 0 [] :=
  ⟨⟨none,0,Blk.new w1 197 _,World.ownsRow_nil _ _ _ _⟩,Nat.le_refl _,Nat.zero_le _,hs,(Below.refl _ _).alloc (Nat.le_refl _) _⟩
 have hval:=valueV_any w1 w1.heap.size gt T S s hO1 19 ty 0 [] _ hp hq hr0 (by simp;omega)
 clear hask hr0;go_wp2_with fail;generalize (w1.alloc (.cells #[.pointer (some ⟨gt,0,none⟩),.string s,.int .i64 0,.slice none 0 0] 197))=W2 at *;refine hval.mono ?_;rintro e w3 ⟨a3,ws3,ok,rfl,hr3,hd3,hok⟩;rw [List.drop_zero] at hd3 hok;have hbk:=blanks_any w1 w3 _ _ s a3 ws3 hr3;clear hval;go_wp2_with fail;refine hbk.mono ?_;rintro e w4 ⟨rfl,a4,hr4,hd4⟩;have ha4:=hr4.at_;have hb4:=hr4.below;have kS4:=kS1.step hb4;have hb5:=below_cut hb2 hb4 (Nat.le_refl _);have hsl:s.data.toList.length=s.size:=by simp
 rw [hd3] at hd4;obtain ⟨A,c,hk,ho⟩:=hr4.blk;obtain ⟨z0,z1,z2,z3⟩:=four_ hk;obtain ⟨y0,y1⟩:=two_ kS4;have fz:=kS4.frozen;clear hbk hr3 hd3;have hgood:∀ ws,(parseR T 19 ty s.data.toList).2=some ws→(¬ a4<s.size)→∃ r,parseR T 19 ty s.data.toList=(r,some ws)∧blanksL r=[]:=fun ws h1 h2=>by
  refine ⟨_,Prod.ext rfl h1,?_⟩;rw [← hd4,List.drop_of_length_le (by omega)]
 have hbad:a4<s.size→¬ ∃ r ws,parseR T 19 ty s.data.toList=(r,some ws)∧blanksL r=[]:=fun h1 ⟨r,ws,h2,h3⟩=>by
  rw [h2] at hd4;simp only at hd4;rw [h3] at hd4;have:=congrArg List.length hd4;rw [List.length_drop,List.length_nil] at this;omega
 have HG:=Lib.hid hgood;have HB:=Lib.hid hbad;have HK:=Lib.hid hok;clear hgood hbad hd4
 rcases hok with ⟨rfl,vs,hvs,hws⟩ | ⟨rfl,hno⟩
 ·rw [List.nil_append] at hws;subst hws;have HV:=Lib.hid hvs;clear hvs
  by_cases hlt:a4<s.size
  ·have d1:decide (((a4:Nat):Int)<(s.size:Nat))=true:=by rw [decide_eq_true_eq];omega
   have HX:=Lib.hid (HB.out hlt);go_upto_region 8 with fail
   go_region
   all_goals
    go_wp2_with fail;exact bodyPost_ret (spot_end rfl _ rfl rfl (spot_put (Blk.drewN kS4 _) (.int .i64 120) (.int .i64 (a4:Nat)))) rfl ⟨((below_drewN hb5 _).setCell (p:=⟨w.heap.size,0,none⟩) (Nat.le_refl _) _).setCell (p:=⟨w.heap.size,1,none⟩) (Nat.le_refl _) _,.inr ⟨a4,ha4,rfl,HX.out⟩⟩
  ·have d1:decide (((a4:Nat):Int)<(s.size:Nat))=false:=by rw [decide_eq_false_iff_not];omega
   obtain ⟨r,hr1,hr2⟩:=HG.out _ HV.out hlt;have HX:=Lib.hid hr1;have HY:=Lib.hid hr2;clear hr1 hr2;go_wp2_with fail;have hne:(Value.slice A ws3.length c).ownBlock≠some w.heap.size:=own_blk_ne ho kS4 (by decide)
   exact bodyPost_ret (spot_end rfl _ rfl rfl (spot_put kS4 (.int .i64 0) (.int .i64 0))) rfl ⟨(hb5.setCell (p:=⟨w.heap.size,0,none⟩) (Nat.le_refl _) _).setCell (p:=⟨w.heap.size,1,none⟩) (Nat.le_refl _) _,.inl ⟨r,ws3,A,c,HX.out,HY.out,rfl,own_set_other (p:=⟨w.heap.size,1,none⟩) (own_set_other (p:=⟨w.heap.size,0,none⟩) (own_base ho hb2.size) hne _) hne _⟩⟩
 ·have HX:Hid (¬ ∃ r ws,parseR T 19 ty s.data.toList=(r,some ws)∧blanksL r=[]):=Lib.hid (fun ⟨r,ws,h2,_⟩=>by rw [h2] at hno;cases hno)
  clear hno;go_upto_region 8 with fail
  go_region
  all_goals
   go_wp2_with fail;exact bodyPost_ret (spot_end rfl _ rfl rfl (spot_put (Blk.drewN kS4 _) (.int .i64 120) (.int .i64 (a4:Nat)))) rfl ⟨((below_drewN hb5 _).setCell (p:=⟨w.heap.size,0,none⟩) (Nat.le_refl _) _).setCell (p:=⟨w.heap.size,1,none⟩) (Nat.le_refl _) _,.inr ⟨a4,ha4,rfl,HX.out⟩⟩
end
section
open Go.RowKit Go.Sort Go.Lib
theorem holds_zero0 (w:World) (T:TypeId) (nd:Nat) (hs:nd≤24):Holds (fun (b:UInt8)=>Value.int .u8 (b.toNat:Int)) (w.alloc (.cells zeros24 T)) w.heap.size 0 (Array.replicate nd (0:UInt8)):=fun j hj=>by
 have hj':j<nd:=by simpa using hj
 refine ⟨?_,World.frozen?_alloc_new _ _ _ _⟩;rw [World.cell?_alloc_new,zeros24_at _ (by omega),getElem!_pos _ j hj]
 simp
theorem fin_pos0 (w:World) (o:Obj) (dk:Array UInt8) (k:Nat):∃ os,(putRow (fun (b:UInt8)=>Value.int .u8 (b.toNat:Int)) (w.alloc o) w.heap.size 0 dk).drewN k=grow (w.drewN k) os:=by
 rw [alloc_eq_grow];obtain ⟨os',_,e⟩:=putRow_grow_new (fun (b:UInt8)=>Value.int .u8 (b.toNat:Int)) w #[o] w.heap.size 0 dk (Nat.le_refl _)
 exact ⟨os',by rw [e];rfl⟩
theorem fmtU_in (u:Nat) (hu64:u<18446744073709551616) (w:World) (hP:Pow w) :
  Calls Tryz.prog 243 #[.int .u64 (u:Nat),.int .i64 10] w fun e w'=>e=.returned (.string ⟨(Lib.itoa (u:Nat)).toArray⟩)∧Below w.heap.size w w':=by
 rw [itoa_nonneg u]
 by_cases hs:u<100
 ·have hsm:=Tryz.internal_strconv_small u hs w;have d1:decide (((u:Nat):Int)<100)=true:=by rw [decide_eq_true_eq];omega
  have d1b:decide (u<100)=true:=by rw [decide_eq_true_eq];omega
  have hw1:IntKind.i64.wrap ((u:Nat):Int)=(u:Nat):=IntWalk.i64_in _ (by omega)
  go_enter Tryz.func243,Tryz.ntmps243;go_wp2_with fail;refine hsm.mono ?_;rintro e w1 ⟨rfl,rfl⟩;go_wp2_with fail;go_ret
  exact ⟨rfl,Below.refl _ _⟩
 ·have hu1:1≤u:=by omega
  have d1:decide (((u:Nat):Int)<100)=false:=by rw [decide_eq_false_iff_not];omega
  have d1b:decide (u<100)=false:=by rw [decide_eq_false_iff_not];omega
  have hnd20:nDigits u≤20:=by have:=numDigits_eq u hu1 hu64;split at this <;> omega
  have hnd:=Tryz.internal_strconv_numDigits u hu1 hu64 (w.alloc (.cells zeros24 270)) (Lib.tabIs_alloc hP _);have hH0:=holds_zero0 w 270 (nDigits u) (by omega)
  have hfmt:=Tryz.internal_strconv_formatBase10 w.heap.size 0 24 u (Array.replicate (nDigits u) 0) (w.alloc (.cells zeros24 270)) hH0 (by rw [Array.size_replicate];exact lt_pow_nDigits u) hu64 (by rw [Array.size_replicate];omega)
  rw [Array.size_replicate] at hfmt;have HH0:=Lib.hid hH0;have hal:Tryz.prog.arrayLen 270=24:=by simp [Program.arrayLen,Tryz.underlying270]
  have hsl:∀ W,(Instr.sliceAt 270 (.pointer (some ⟨w.heap.size,0,none⟩)) none (some (.int .i64 ((nDigits u:Nat):Int))) none).run Tryz.prog W=.ok (.slice (some ⟨w.heap.size,0,none⟩) (nDigits u) 24) W:=fun W=>by
   rw [run_sliceAt_array_h W 270 ⟨w.heap.size,0,none⟩ (by simp [Program.arrayLen,Program.elem,Tryz.underlying270]) .i64 ((nDigits u:Nat):Int) (by omega) (by rw [hal];omega)]
   go_simp
  clear hH0 hal;go_enter Tryz.func243,Tryz.ntmps243;go_wp2_with fail;refine hnd.mono ?_;rintro e w1 ⟨rfl,rfl⟩;clear hnd;go_wp2_with fail;refine hfmt.mono ?_;rintro e w2 ⟨rfl,k,v',dk,rfl,hF⟩;have hcv:(convert 230 9 (.slice (some ⟨w.heap.size,0,none⟩) (nDigits u) 24)).run Tryz.prog ((putRow (fun (b:UInt8)=>Value.int .u8 (b.toNat:Int)) (w.alloc (.cells zeros24 270)) w.heap.size 0 dk).drewN k)=.ok (.string ⟨(decDigits u).toArray⟩) ((putRow (fun (b:UInt8)=>Value.int .u8 (b.toNat:Int)) (w.alloc (.cells zeros24 270)) w.heap.size 0 dk).drewN k):=by
   have h:=run_convert_bytes_back (P:=Tryz.prog) ((putRow (fun (b:UInt8)=>Value.int .u8 (b.toNat:Int)) (w.alloc (.cells zeros24 270)) w.heap.size 0 dk).drewN k) 230 9 5 ⟨w.heap.size,0,none⟩ 24 (decDigits u) Tryz.underlying230 Tryz.underlying5 Tryz.underlying9 (fun j hj=>by
    rw [row_is_numeral hF j hj,Lib.add_plain,World.cell?_drewN];exact cell?_putRow (fun (b:UInt8)=>Value.int .u8 (b.toNat:Int)) _ w.heap.size 0 _ dk HH0.out (by rw [hF.size,Array.size_replicate]) j (by rw [hF.size];rw [decDigits_length] at hj;exact hj))
   rw [decDigits_length] at h;exact h
  obtain ⟨os,eo⟩:=fin_pos0 w (.cells zeros24 270) dk k;have HE:=Lib.hid eo;clear hfmt eo;go_wp2_with fail;go_ret
  exact ⟨rfl,by rw [HE.out];exact Lib.below_grow _ _ (Nat.le_refl _) _ _⟩
theorem fmtU_any (n:Int) (h0:0≤n∧n<18446744073709551616) (w:World) (hP:Pow w) :
  Calls Tryz.prog 206 #[.int .u64 n,.int .i64 10] w fun e w'=>e=.returned (.string ⟨(Lib.itoa n).toArray⟩)∧Below w.heap.size w w':=by
 obtain ⟨u,rfl⟩:∃ u:Nat,n=u:=⟨n.toNat,by omega⟩
 have h:=fmtU_in u (by omega) w hP
 go_enter Tryz.func206,Tryz.ntmps206;go_wp2_with fail;refine h.mono ?_;rintro e w1 ⟨rfl,hb⟩;go_wp2_with fail;go_ret
 exact ⟨rfl,hb⟩
end
section
open Go.RowKit
theorem slStr:SliceOf Tryz.prog 211 9 (.string ⟨#[]⟩) 1 16:=⟨Tryz.underlying211,by kernel_rfl,rfl,by decide⟩
def StrV (s:List UInt8) (w:World) (e:Ending) (w':World):Prop:=e=.returned (.string (bs s))∧Below w.heap.size w w'
theorem i32_sg {v:Int} (h:0≤v∧v<4294967296):IntKind.i32.wrap v=sgV true v:=by
 unfold sgV;simp [IntKind.wrap,IntKind.signed,IntKind.bits]
 split <;> omega
theorem leaf_any (gt:Nat) (T:Int→TyI) (S:Int→SlI) (ty v:Int) (w:World) (hO:RdOk w gt T S) (hk:(T ty).kind=2∨(T ty).kind=3) (hv:0≤v∧v<4294967296) :
  Calls Tryz.prog 163 #[.pointer (some ⟨gt,0,none⟩),.int .u32 ty,.int .u32 v] w (StrV (leafB (T ty) v) w):=by
 have hkd:=kindM_any _ _ _ ty w hO.tab.tab;have hsg:=fun w' (hb:Below w.heap.size w w')=>signedM_any _ _ _ ty w' (hO.tab.step hb).tab
 have hit:=fun w' (hb:Below w.heap.size w w') (n:Int) hn=>itoaV_any n w' (hO.pow.step hb) hn
 have hfu:=fun w' (hb:Below w.heap.size w w')=>fmtU_any v (by omega) w' (hO.pow.step hb)
 obtain ⟨r,hr⟩:∃ r,r=leafB (T ty) v:=⟨_,rfl⟩;rw [← hr];have HR:=Lib.hid hr;have HO:=Lib.hid hO;clear hr hO
 rcases hk with h2 | h3
 ·rw [h2] at hkd;have hfb:=fun (b:Bool) w'=>Tryz.strconv_FormatBool b w'
  by_cases h1:v=1
  ·have e1:(v==1)=true:=by rw [h1];rfl
   have hb:=hfb true;have HRV:=Lib.hid (show r=trueB by rw [HR.out];unfold leafB;rw [if_pos h2,if_pos h1])
   clear h2 hfb;go_enter Tryz.func163,Tryz.ntmps163;go_wp2_with fail;refine hkd.mono ?_;rintro e w1 ⟨rfl,hb1⟩;go_wp2_with fail;refine (hb w1).mono ?_;rintro e w2 ⟨rfl,rfl⟩;go_wp2_with fail;go_ret
   exact ⟨by rw [HRV.out];rfl,hb1⟩
  ·have e1:(v==1)=false:=by simpa using h1
   have hb:=hfb false;have HRV:=Lib.hid (show r=falseB by rw [HR.out];unfold leafB;rw [if_pos h2,if_neg h1])
   clear h2 hfb;go_enter Tryz.func163,Tryz.ntmps163;go_wp2_with fail;refine hkd.mono ?_;rintro e w1 ⟨rfl,hb1⟩;go_wp2_with fail;refine (hb w1).mono ?_;rintro e w2 ⟨rfl,rfl⟩;go_wp2_with fail;go_ret
   exact ⟨by rw [HRV.out];rfl,hb1⟩
 ·have h2:(T ty).kind≠2:=by omega
  rw [h3] at hkd;have HRV:=Lib.hid (show r=Lib.itoa (sgV (T ty).signed v) by rw [HR.out];unfold leafB;rw [if_neg h2])
  clear h3 h2;generalize (T ty).signed=sg at *;go_enter Tryz.func163,Tryz.ntmps163;go_wp2_with fail;refine hkd.mono ?_;rintro e w1 ⟨rfl,hb1⟩;have h1:=hsg w1 hb1;go_wp2_with fail;refine h1.mono ?_;rintro e w2 ⟨rfl,hb2⟩;have hb3:=below_cut hb1 hb2 (Nat.le_refl _);clear h1 hkd;cases sg with
  | true =>
   have hw1:IntKind.i32.wrap v=sgV true v:=i32_sg hv;have hsb : -2147483648≤sgV true v∧sgV true v≤2147483647:=by unfold sgV;simp only [true_and];split <;> omega
   have hw2:IntKind.i64.wrap (sgV true v)=sgV true v:=IntWalk.i64_in _ (by omega)
   have h5:=hit w2 hb3 (sgV true v) (by omega)
   go_wp2_with fail;generalize sgV true v=x at *
   first
    | refine h5.mono ?_
    | (rw [hw1];refine h5.mono ?_)
    | (simp only [hw1,hw2];refine h5.mono ?_)
   rintro e w3 ⟨rfl,hb4⟩;go_wp2_with fail;go_ret
   exact ⟨by rw [HRV.out];rfl,below_cut hb3 hb4 (Nat.le_refl _)⟩
  | false =>
   have h5:=hfu w2 hb3;have hw3:IntKind.u64.wrap v=v:=by rw [IntKind.wrap_u64];omega
   have hw4:v % 18446744073709551616=v:=by omega
   go_wp2_with fail;refine h5.mono ?_;rintro e w3 ⟨rfl,hb4⟩;go_wp2_with fail;go_ret
   exact ⟨by rw [HRV.out];rfl,below_cut hb3 hb4 (Nat.le_refl _)⟩
def strN (f:Nat→List UInt8) (k:Nat):List Value:=(List.range k).map fun j=>Value.string (bs (f j))
theorem strN_step (f:Nat→List UInt8) (k:Nat):strN f (k+1)=strN f k++[.string (bs (f k))]:=by
 unfold strN;rw [List.range_succ,List.map_append];rfl
theorem Reads.strN_ {w:World} {B n:Nat} {A:Option Addr} {f:Nat→List UInt8} (h:Reads w B 1 A n (strN f n)) (hn:0<n) :
  ∃ b off,A=some ⟨b,off,none⟩∧b<B∧∀ (j:Nat) x,((List.range n).map fun j=>bs (f j))[j]?=some x→w.cell? ⟨b,off+j,none⟩=some (.string x):=by
 obtain ⟨ad,rfl,hb,hc⟩:=h.2 hn;obtain ⟨b,off,spot⟩:=ad;have h0:=hc 0 (.string (bs (f 0))) (by unfold strN;simp [hn])
 have hs:spot=none:=by simpa [Addr.add] using World.cell?_spot h0
 subst hs;refine ⟨b,off,rfl,hb,fun j x hj=>?_⟩
 rw [← add_plain];refine hc j (.string x) ?_;unfold strN;rw [List.getElem?_map] at hj ⊢;cases hlj:(List.range n)[j]? with
 | none=>rw [hlj] at hj;cases hj
 | some y =>
  rw [hlj] at hj;simp only [Option.map_some,Option.some.injEq] at hj ⊢;rw [hj]
theorem bs_listN (f:Nat→List UInt8) (n:Nat):(((List.range n).map fun j=>bs (f j)).map (·.data.toList))=(List.range n).map f:=by
 rw [List.map_map];apply List.map_congr_left
 intro x _;simp [bs]
def TextsV (gt:Nat) (T:Int→TyI) (w0:World) (q:Nat):Prop:=∀ (ty:Int) (A:Option Addr) (n c:Nat) (ws:List Int) (w:World),0<(T ty).size→rankT (T ty)<(q:Int)→Below w0.heap.size w0 w→Reads w w.heap.size 1 A n (Ints .u32 ws)→n≤c→okV T q ty ws →
 Calls Tryz.prog 126 #[.pointer (some ⟨gt,0,none⟩),.int .u32 ty,.slice A n c] w (StrV (textV T q ty ws) w)
theorem text_in (gt:Nat) (T:Int→TyI) (S:Int→SlI) (w0:World) (hO:RdOk w0 gt T S):∀ q:Nat,q≤19→TextsV gt T w0 q
 | 0,_=>fun ty _ _ _ _ _ _ hq _ _ _ _=>absurd hq (by have:=(rankT_bd hO.ty ty).1;omega)
 | q+1,hq19=>fun ty A n c ws w hs hq hb0 hr hnc hok=>by
  have ih:=text_in gt T S w0 hO q (by omega)
  have hOw:RdOk w gt T S:=⟨hO.ty,hO.tab.step hb0,hO.pow.step hb0,hO.err.step hb0⟩;have hlen:=hr.len;have hcn:=countM_any _ _ _ ty w hOw.tab.tab (hOw.tab.mild _)
  by_cases hc:cntT (T ty)=0
  ·obtain ⟨hz,hk⟩:=plain_bare hO.ty hs hc;have h1:=hok.1;rw [hz] at h1;have h2:=(hok.2 0 (by omega)).1
   have hR:textV T (q+1) ty ws=leafB (T ty) (ix ws 0):=if_pos hc;rw [hR];have hlf:=fun w' (hb:Below w.heap.size w w')=>leaf_any gt T S ty (ix ws 0) w' ⟨hO.ty,hOw.tab.step hb,hOw.pow.step hb,hOw.err.step hb⟩ hk h2
   obtain ⟨b,off,rfl,hbb,hcc⟩:=hr.ints (by omega)
   have x0:=hcc 0 (by omega)
   simp only [Nat.add_zero] at x0;have hn1:n=1:=by omega
   rw [hc] at hcn;have hl:=fun w' (hb:Below w.heap.size w w')=>(hb.cell (p:=⟨b,off,none⟩) hbb).trans x0
   have HO:=Lib.hid hO;unfold StrV at hlf ⊢;generalize leafB (T ty) (ix ws 0)=tx at *;generalize ix ws 0=x at *;have hi0:(0:Int)<(n:Nat):=by omega
   clear hc hz hk hok hs hq hR hcc hO hOw ih hr;go_enter Tryz.func126,Tryz.ntmps126;go_wp2_with fail;refine hcn.mono ?_;rintro e w1 ⟨rfl,hb1⟩;have y0:=hl w1 hb1;clear x0 hcn;go_wp2_with fail;refine (hlf w1 hb1).mono ?_;rintro e w2 ⟨rfl,hb2⟩;go_wp2_with fail;go_ret
   exact ⟨rfl,below_cut hb1 hb2 (Nat.le_refl _)⟩
  ·have hP:=parts_ok hO.ty hs hc;have hcb:=cnt_bd hO.ty ty;obtain ⟨m,hm⟩:∃ m:Nat,m=(cntT (T ty)).toNat:=⟨_,rfl⟩;rw [← hm] at hP;have hm0:0<m:=by omega
   have hm64:m≤65535:=by omega
   have hcm:cntT (T ty)=(m:Int):=hP.cnt;rw [hcm] at hcn;obtain ⟨f,hf⟩:∃ f:Nat→List UInt8,f=fun j=>textV T q (partN (T ty) j) (cutV T (T ty) j ws):=⟨_,rfl⟩
   have hR:textV T (q+1) ty ws=[123]++Lib.join ((List.range m).map f) [44,32]++[125]:=by
    rw [hf,hm];exact if_neg hc
   have hfew:=text_few hO.ty hq19 hs hq hok;have h96:=(hO.ty.size ty).2.2;rw [hR] at hfew ⊢;have hcut:=fun k (hk:k<m)=>okV_cut hO.ty hP hq hc hok hk
   have hst:=fun k (hk:k<m)=>hP.step hO.ty hk
   have hln:=hok.1;have hoff:=fun k (hk:k<m)=>off_sum hO.ty hs (j:=k) (by omega)
   obtain ⟨b,off,rfl,hbb,hcc⟩:=hr.ints (by have:=(hst 0 hm0);have:=hP.plain 0 hm0;omega)
   have HO:=Lib.hid hOw;have HO0:=Lib.hid hO;have HP:=Lib.hid hP;have IH:=Lib.hid ih;have HCUT:=Lib.hid hcut;have HST:=Lib.hid hst;have HOFF:=Lib.hid hoff;have HF:=Lib.hid hf;have HC:=Lib.hid hcc;have HFEW:=Lib.hid hfew;have HQ:=Lib.hid hq;have HLN:=Lib.hid (show ws.length=n∧(ws.length:Int)=(T ty).size from ⟨hlen,hln⟩)
   have HR:=Lib.hid hr;clear hc hs hq hok hR hcb hcm hm hP hO hOw ih hcut hst hoff hf hcc hr hfew hln hlen;go_enter Tryz.func126,Tryz.ntmps126;go_wp2_with fail;refine hcn.mono ?_;rintro e w1 ⟨rfl,hb1⟩;clear hcn;have dm:((m:Nat):Int)≠0:=by omega
   have dm2:(((m:Nat):Int)==0)=false:=by simpa using dm
   go_wp2_with fail;go_loopg [8,9,10,11,12,13,26] m (fun r u u9 u10 u11 u12 u13 i wr=>∃ k:Nat,k+r=m∧i=.int .i64 (k:Nat)∧wr.ownsRow w.heap.size 9 1 u k (strN f k)∧Below w.heap.size w wr)
   case atStart=>exact ⟨0,by omega,rfl,World.ownsRow_nil _ _ _ _,hb1⟩
   case round =>
    obtain ⟨k,hkr,rfl,ho,hbr⟩:=hrel;obtain ⟨A2,cc,rfl⟩:=own_shape ho
    by_cases hlt:k<m
    ·have d1:decide (((k:Nat):Int)<(m:Nat))=true:=by rw [decide_eq_true_eq];omega
     have hpt:=partM_any _ _ _ ty (k:Nat) wr (HO.out.tab.step hbr).tab (HO.out.tab.mild _);have hpn:(partT (T ty) (k:Nat)).1=partN (T ty) k:=rfl;rw [hpn] at hpt;have hst:=HST.out k hlt;have hpl:=HP.out.plain k hlt;obtain ⟨o,ho1⟩:∃ o:Nat,sumP T (T ty) k=(o:Int):=⟨(sumP T (T ty) k).toNat,by omega⟩
     obtain ⟨z,hz⟩:∃ z:Nat,(T (partN (T ty) k)).size=(z:Int):=⟨(T (partN (T ty) k)).size.toNat,by omega⟩
     have hof:=fun w' (hb:Below w.heap.size w w')=>offM_any _ _ _ ty (k:Nat) w' (HO.out.tab.step hb)
     rw [HOFF.out k hlt,ho1] at hof;have hsz:=fun w' (hb:Below w.heap.size w w')=>sizeM_any _ _ _ (partN (T ty) k) w' (HO.out.tab.step hb).tab
     rw [hz] at hsz;have hl2:=HLN.out;have hozn:o+z≤n:=by omega
     have hz1:1≤z:=by omega
     have hcp:¬ c=o:=by omega
     have hpc:o+z≤c:=by omega
     have wS:IntKind.i64.wrap (((o:Nat):Int)+(z:Nat))=(o:Nat)+(z:Nat):=IntWalk.i64_in _ (by omega)
     have hcv:cutV T (T ty) k ws=(ws.drop o).take z:=by unfold cutV;rw [ho1,hz];rfl
     have htx:=fun w' (hb:Below w.heap.size w w') c' (hc':z≤c')=>IH.out (partN (T ty) k) (some ⟨b,off+o,none⟩) z c' ((ws.drop o).take z) w' hpl (by have:=HP.out.low k hlt;have:=HQ.out;omega) (below_cut hb0 hb (Nat.le_refl _)) (reads_mid (fun j hj=>(hb.cell (p:=⟨b,off+j,none⟩) hbb).trans (HC.out j hj)) (Nat.lt_of_lt_of_le hbb hb.size) hl2.1 hozn) hc' (by rw [← hcv];exact HCUT.out k hlt)
     have hfk:f k=textV T q (partN (T ty) k) ((ws.drop o).take z):=by rw [HF.out,← hcv]
     rw [← hfk] at htx;have HSTR:=Lib.hid (strN_step f k);obtain ⟨fx,hfx⟩:∃ fx,fx=bs (f k):=⟨_,rfl⟩;unfold StrV at htx;rw [← hfx] at htx HSTR;have HO2:=Lib.hid ho;clear hpn hst hpl ho1 hz hcv hfk hfx ho hl2;generalize partN (T ty) k=pn at *;go_wp2_with fail;refine hpt.mono ?_;rintro e w2 ⟨rfl,hb2⟩;have hb3:=below_cut hbr hb2 (Nat.le_refl _);have hof2:=hof w2 hb3;clear hpt hof;go_wp2_with fail;refine hof2.mono ?_;rintro e w3 ⟨rfl,hb4⟩;have hb5:=below_cut hb3 hb4 (Nat.le_refl _);have hsz2:=hsz w3 hb5;clear hof2 hsz;go_wp2_with fail;refine hsz2.mono ?_;rintro e w4 ⟨rfl,hb6⟩;have hb7:=below_cut hb5 hb6 (Nat.le_refl _);have htx2:=htx w4 hb7;clear hsz2 htx;go_wp2_with fail;refine (htx2 (c-o) (by omega)).mono ?_
     rintro e w5 ⟨rfl,hb8⟩;have hb9:=below_cut hb7 hb8 (Nat.le_refl _);have hbk:=below_cut hb2 (below_cut hb4 (below_cut hb6 hb8 (Nat.le_refl _)) (Nat.le_refl _)) (Nat.le_refl _);have ho5:=own_below HO2.out hbk;have hs5:=hb9.size;clear htx2;go_wp2_with (at_builtin;refine ap_one slStr _ rfl _ _ rfl w.heap.size _ _ _ rfl ho5 _ _ rfl rfl (by omega) (by omega) (by omega) ?_;intro v' w6 ho6 hgr6 _;have hb10:=(hb9.alloc hb9.size (.cells #[.string fx] 9)).grown hgr6 (by simp;omega) (fun j hj=>(ho5.lt j hj).1);have HO6:=Lib.hid ho6;clear ho6)
     go_roundg (m-(k+1))
     case measure=>omega
     case rel=>exact ⟨k+1,by omega,by go_num,by rw [HSTR.out];exact HO6.out,hb10⟩
    ·obtain rfl:k=m:=by omega
     have d1:decide (((k:Nat):Int)<(k:Nat))=false:=by rw [decide_eq_false_iff_not];omega
     have hcap:=own_cap ho;obtain ⟨b2,o2,rfl,hb2,hc2⟩:=(Reads.of_own ho).strN_ hm0;have hj:=Tryz.strings_Join b2 o2 cc ((List.range k).map fun j=>bs (f j)) ⟨#[44,32]⟩ wr hc2 hb2 (by simp;omega) (by simp;omega)
     rw [bs_listN] at hj;simp only [List.length_map,List.length_range] at hj;have hjl:=HFEW.out;simp only [List.length_append,List.length_singleton] at hjl;have hj1:=hj (by show (Lib.join ((List.range k).map f) [44,32]).length≤_;omega)
     obtain ⟨J,hJ⟩:∃ J,J=Lib.join ((List.range k).map f) [44,32]:=⟨_,rfl⟩;have hJ2:Lib.join ((List.range k).map f) (⟨#[44,32]⟩:ByteArray).data.toList=J:=hJ.symm;rw [hJ2] at hj1;rw [← hJ] at hjl;have HJ:=Lib.hid hJ;clear hJ hJ2 hj hc2 ho;have hs1:¬ 9223372036854775807<1+(J.length+1):=by omega
     have hs2:¬ 9223372036854775807<1+J.length:=by omega
     have hs3:¬ 9223372036854775807<1+J.length+1:=by omega
     have hs4:¬ 9223372036854775807<J.length+1:=by omega
     go_wp2_with fail;refine hj1.mono ?_;rintro e w4 ⟨rfl,hb6⟩;have hb7:=below_cut hbr hb6 (Nat.le_refl _);go_wp2_with fail;go_ret
     refine ⟨?_,hb7⟩
     show Ending.returned (.string _)=_
     congr 2
     apply ByteArray.ext
     simp [bs]
     exact HJ.out
def TxtIs (T:Int→TyI) (ty:Int) (ws:List Int) (w:World) (e:Ending) (w':World):Prop :=
 Below w.heap.size w w'∧((fitsV T ty ws=true∧e=.returned (.tuple #[.string (bs (textV T 19 ty ws)),.int .i64 0]))∨(fitsV T ty ws=false∧e=.returned (.tuple #[.string ⟨#[]⟩,.int .i64 2])))
theorem txt_any (gt:Nat) (T:Int→TyI) (S:Int→SlI) (ty:Int) (A:Option Addr) (n c:Nat) (ws:List Int) (w:World) (hO:RdOk w gt T S) (hr:Reads w w.heap.size 1 A n (Ints .u32 ws)) (hnc:n≤c) (hp:0<(T ty).size) (hn:(n:Int)=(T ty).size) (hu:∀ k,k<ws.length→0≤ix ws k∧ix ws k<4294967296) :
  Calls Tryz.prog 69 #[.pointer (some ⟨gt,0,none⟩),.int .u32 ty,.slice A n c] w (TxtIs T ty ws w):=by
 have hgv:=given_well gt T S hO.ty ty A n c ws w hO.tab hr hp hn;have hfo:=fitsV_ok (T:=T) (ty:=ty) hu;have HO:=Lib.hid hO;have HR:=Lib.hid hr;have HQ:=Lib.hid (show rankT (T ty)<((19:Nat):Int) by have:=(rankT_bd hO.ty ty).2;omega)
 clear hO hr;cases hf:fitsV T ty ws with
 | true =>
  have hok:=(hfo.1 hf).2;rw [hf] at hgv;have htx:=fun w1 (hb:Below w.heap.size w w1)=>text_in gt T S w HO.out 19 (Nat.le_refl _) ty A n c ws w1 hp HQ.out hb ((HR.out.below hb).more hb.size) hnc hok
  have HF:=Lib.hid hf;unfold StrV at htx;clear hok hf hfo;go_enter Tryz.func69,Tryz.ntmps69;go_wp2_with fail;refine hgv.mono ?_;rintro e w1 ⟨rfl,hb1⟩;have h1:=htx w1 hb1;clear hgv htx;go_wp2_with fail;refine h1.mono ?_;rintro e w2 ⟨rfl,hb2⟩;go_wp2_with fail;go_ret2
  exact ⟨below_cut hb1 hb2 (Nat.le_refl _),.inl ⟨HF.out,rfl⟩⟩
 | false =>
  rw [hf] at hgv;have HF:=Lib.hid hf;clear hf hfo;go_enter Tryz.func69,Tryz.ntmps69;go_wp2_with fail;refine hgv.mono ?_;rintro e w1 ⟨rfl,hb1⟩;clear hgv;go_wp2_with fail;go_ret2
  exact ⟨hb1,.inr ⟨HF.out,rfl⟩⟩
end
end Go.Proofs.YteelmakkogdieaaGreatDoor
