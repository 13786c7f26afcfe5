/- Walks: awake, of the statements on values: the small module's values are told. -/
import Derived.Test.YteelmakkogdieaaGreatDoorCVE
import Derived.Test.YteelmakkogdieaaGreatDoorCUC
import Derived.Stop.LaidErr
import Derived.Stop.JoinedAt
import Derived.Plain9
import Derived.Test.YteelmakkogdieaaGreatDoorCTU
import Derived.Test.YteelmakkogdieaaGreatDoorCVB
import Derived.Test.YteelmakkogdieaaGreatDoorCVF
import Derived.Test.YteelmakkogdieaaGreatDoorCUA
set_option maxRecDepth 100000
set_option maxHeartbeats 4000000
namespace Go.Proofs.YteelmakkogdieaaGreatDoor
section
open Go.RowKit
theorem RdOk.on {w w':World} {gt:Nat} {T:Int→TyI} {S:Int→SlI} (h:RdOk w gt T S) (hb:Below w.heap.size w w'):RdOk w' gt T S:=⟨h.ty,h.tab.step hb,h.pow.step hb,h.err.step hb⟩
theorem well_typed {s:StN} (h:WellS s):Typed s.T:=⟨fun id=>(h.ok id).elim .inl (fun ⟨_,_,_,hk⟩=>.inr ⟨_,hk⟩),h.deep⟩
theorem small12_use:(∀ x∈small12L,∀ a∈x.2.2.2,0≤a.2.1∧a.2.1<4294967296)∧(∀ x∈small12L,0≤x.1∧x.1<65536):=by
 constructor
 ·decide
 ·decide
theorem awake12_any (w:World) (hP:Pow w) (hE:Errs w):Calls Tryz.prog 34 #[] w (BoolIs true w):=by
 have h1:=small12_any w;go_enter Tryz.func34,Tryz.ntmps34;go_wp2_with fail;refine h1.mono ?_;rintro e w1 ⟨A,c,ls,rfl,hM,hL,hb1⟩;have hN:=new_any 0 9 ls A small12L.length c w1 hM (hP.step hb1) (fun x hx=>small12_use.1 _ (hL ▸ List.mem_map.2 ⟨x,hx,rfl⟩)) (fun x hx=>small12_use.2 _ (hL ▸ List.mem_map.2 ⟨x,hx,rfl⟩))
 rw [hL,small12_new] at hN;obtain ⟨f1,f2,f3,f4,f5⟩:=small12_facts;generalize small12S=s at *;clear h1 hM hL;go_wp2_with fail;refine hN.mono ?_;rintro e w2 ⟨hb2,⟨-,hw,gt,rfl,hG⟩ | ⟨h0,-⟩⟩
 ·have hw:WellS s:=hw;have hG:TabG w2 (some ⟨gt,0,none⟩) s:=hG;obtain ⟨S,hT,-⟩:=hG;have hb3:=(below_cut hb1 hb2 (Nat.le_refl _)).alloc (below_cut hb1 hb2 (Nat.le_refl _)).size (.cells #[.int .i64 0,.int .i64 0] 29);have hbs:=(Below.refl w2.heap.size w2).alloc (Nat.le_refl _) (.cells #[.int .i64 0,.int .i64 0] 29);have hO:RdOk (w2.alloc (.cells #[.int .i64 0,.int .i64 0] 29)) gt s.T S:=⟨(well_typed hw),hT.step hbs,hP.step hb3,hE.step hb3⟩;have kS:=Blk.new w2 29 #[.int .i64 0,.int .i64 0];have hu:∀ k,k<([1,4294967295,5]:List Int).length→0≤ix [1,4294967295,5] k∧ix [1,4294967295,5] k<4294967296:=by decide
  obtain ⟨hp,hok⟩:=(fitsV_ok hu).1 f4;have hpt:=parse_text (well_typed hw) 19 4 [1,4294967295,5] [] [] hp (rank19 (well_typed hw) 4) hok blank_nil (fun c r h=>by cases h)
  rw [f3] at hpt;have HPT:Hid (parseR s.T 19 4 (⟨#[123,116,114,117,101,44,32,123,45,49,44,32,53,125,125]⟩:ByteArray).data.toList=([],some [1,4294967295,5])):=Lib.hid hpt;have HO:=Lib.hid hO;have HU:=Lib.hid hu;have HF:=Lib.hid (And.intro f1 (And.intro f2 (And.intro f3 (And.intro f4 f5))));have HH:=Lib.hid hp;clear hT hN hbs hO hw hu hp hok hpt f1 f2 f3 f4 f5 hP hE;go_wp2_with fail;refine (row12_any 1 4294967295 5 _).mono ?_;rintro e w3 ⟨g3,rfl,ho3,hb4⟩;have hx:=txt_any gt s.T S 4 (some ⟨g3,0,none⟩) 3 3 [1,4294967295,5] w3 (HO.out.on hb4) (Reads.of_own ho3) (Nat.le_refl _) HH.out (by rw [HF.out.1];rfl) HU.out
  unfold TxtIs at hx;rw [HF.out.2.2.1,HF.out.2.2.2.1] at hx;have kS4:=kS.step hb4;clear kS ho3;go_wp2_with fail;refine hx.mono ?_;rintro e w4 ⟨hb5,⟨-,rfl⟩ | ⟨h,-⟩⟩
  ·have hb6:=below_cut hb4 hb5 (Nat.le_refl _);have kS5:=kS4.step hb5;have hps:=parse_any gt s.T S 4 ⟨#[123,116,114,117,101,44,32,123,45,49,44,32,53,125,125]⟩ w4 (HO.out.on hb6) HH.out (by decide)
   have hstr:bs [123,116,114,117,101,44,32,123,45,49,44,32,53,125,125]=⟨#[123,116,114,117,101,44,32,123,45,49,44,32,53,125,125]⟩:=rfl;rw [hstr];clear hstr hx kS4;go_wp2_with fail;refine hps.mono ?_;rintro e w5 ⟨hb7,⟨r,ws,A5,c5,hpr,-,rfl,ho5⟩ | ⟨a,-,-,hno⟩⟩
   ·rw [HPT.out] at hpr;injection hpr with hr hws
    injection hws with hws
    subst hws;have hb8:=below_cut hb6 hb7 (Nat.le_refl _);have k5:=Blk.new w5 29 #[.int .i64 0,.int .i64 0];have hbt:=(Below.refl w5.heap.size w5).alloc (Nat.le_refl _) (.cells #[.int .i64 0,.int .i64 0] 29);have hb9:=below_cut hb8 hbt (Nat.le_refl _);have kS6:=(kS5.step hb7).step hbt;have ho6:=own_below ho5 hbt;have hr6:=Reads.of_own ho6;obtain ⟨z0,z1⟩:=two_ kS6;obtain ⟨y0,y1⟩:=two_ k5;have HR:=Lib.hid hr6;clear hps ho5 ho6 hr6 hbt kS5;go_wp2_with fail;refine (row12_any 1 4294967295 5 _).mono ?_;rintro e w6 ⟨g6,rfl,ho6,hb10⟩;have hb11:=below_cut hb9 hb10 (Nat.le_refl _);have hsm:=words_same A5 (some ⟨g6,0,none⟩) 3 3 c5 3 [1,4294967295,5] [1,4294967295,5] w6 (by omega) ((HR.out.below hb10).more hb10.size) (Reads.of_own ho6)
    rw [show sameB [1,4294967295,5] [1,4294967295,5]=true by simp [sameB]] at hsm
    go_wp2_with fail;refine hsm.mono ?_;rintro e w7 ⟨rfl,hd7⟩;have hb12:=hd7.below w6.heap.size;have hb13:=below_cut hb11 hb12 (Nat.le_refl _);have hr7:=((HR.out.below hb10).more hb10.size |>.below hb12).more hb12.size
    have hft:=fits_well gt s.T S HO.out.ty 4 A5 3 c5 [1,4294967295,5] w7 (HO.out.on (below_cut hb6 (below_cut hb7 (below_cut ((Below.refl w5.heap.size w5).alloc (Nat.le_refl _) (.cells #[.int .i64 0,.int .i64 0] 29)) (below_cut hb10 hb12 (Nat.le_refl _)) (Nat.le_refl _)) (Nat.le_refl _)) (Nat.le_refl _))).tab hr7 HH.out (by rw [HF.out.1];rfl)
    rw [HF.out.2.2.2.1] at hft;unfold BoolIs at hft;clear hsm hr7;go_wp2_with fail;refine hft.mono ?_;rintro e w8 ⟨rfl,hb14⟩;have hb15:=below_cut hb13 hb14 (Nat.le_refl _);clear hft;go_wp2_with fail;refine (row12_any 2 0 0 _).mono ?_;rintro e w9 ⟨g9,rfl,ho9,hb16⟩;have hb17:=below_cut hb15 hb16 (Nat.le_refl _);obtain ⟨b9,o9,e9,hbb9,hc9⟩:=(Reads.of_own ho9).ints (by omega)
    obtain ⟨rfl,rfl⟩:g9=b9∧0=o9:=by injection e9 with e9;injection e9 with e1 e2;exact ⟨e1,e2⟩
    have hr9:=reads_mid (p:=0) (m:=1) (n:=3) (l:=[2,0,0]) hc9 hbb9 rfl (by omega)
    have hO9:=HO.out.on (below_cut hb6 (below_cut hb7 (below_cut ((Below.refl w5.heap.size w5).alloc (Nat.le_refl _) (.cells #[.int .i64 0,.int .i64 0] 29)) (below_cut hb10 (below_cut hb12 (below_cut hb14 hb16 (Nat.le_refl _)) (Nat.le_refl _)) (Nat.le_refl _)) (Nat.le_refl _)) (Nat.le_refl _)) (Nat.le_refl _));have hft:=fits_well gt s.T S HO.out.ty 1 (some ⟨g9,0,none⟩) 1 3 [2] w9 hO9.tab hr9 (by rw [HF.out.2.1];decide) (by rw [HF.out.2.1];rfl)
    rw [HF.out.2.2.2.2] at hft;unfold BoolIs at hft;clear ho9 hc9 hr9 e9 hO9;go_wp2_with fail;refine hft.mono ?_;rintro e w10 ⟨rfl,hb18⟩;go_wp2_with fail;go_ret
    exact ⟨rfl,below_cut hb3 (below_cut hb17 hb18 (Nat.le_refl _)) (Nat.le_refl _)⟩
   ·exact absurd ⟨_,_,HPT.out,rfl⟩ hno
  ·cases h
 ·exact absurd rfl h0
end
section
open Go.ChangeShapes Go.WideShapes Go.ChangeAt Go.RowKit
theorem row_err (u : TypeId) (h : Tryz.prog.typeName? 3 u = some "*errors.errorString") : u = 336 :=
 typeName_ptr_named (nm := "errors.errorString") (by rw [show "*" ++ "errors.errorString" = "*errors.errorString" by decide]; kernel_rfl) (by kernel_rfl) (by decide) u (by rw [show "*" ++ "errors.errorString" = "*errors.errorString" by decide]; exact h)
theorem errs_of_laid {W:World} (h:laidMetH Tryz.prog tabs3 W):Errs W:=by
 have hc:Tryz.prog.cellsOf 338=1:=by kernel_rfl
 have hs:Tryz.prog.cellsOf 9=1:=by kernel_rfl
 have h1 := h.filter (fun x => x.1 == "strconv.ErrSyntax")
 have e1 : tabs3.filter (fun x => x.1 == "strconv.ErrSyntax") = [("strconv.ErrSyntax", Rows.laid_strconv_ErrSyntax)] := by kernel_rfl
 rw [e1,MakeChecks.laidMetH_plain _ _ _ (by kernel_rfl)] at h1
 have h2 := h.filter (fun x => x.1 == "strconv.ErrRange")
 have e2 : tabs3.filter (fun x => x.1 == "strconv.ErrRange") = [("strconv.ErrRange", Rows.laid_strconv_ErrRange)] := by kernel_rfl
 rw [e2,MakeChecks.laidMetH_plain _ _ _ (by kernel_rfl)] at h2
 obtain ⟨a,s,hv,-,-,-⟩:=laid_sentinel (g:=2) (ti:=247) (tp:=336) (te:=338) (ts:=9) h1 (by kernel_rfl) (by kernel_rfl) Tryz.underlying247 row_err Tryz.underlying336 Tryz.underlying338 rfl rfl Tryz.underlying9 hc hs
 obtain ⟨a',s',hv',-,-,-⟩:=laid_sentinel (g:=3) (ti:=247) (tp:=336) (te:=338) (ts:=9) h2 (by kernel_rfl) (by kernel_rfl) Tryz.underlying247 row_err Tryz.underlying336 Tryz.underlying338 rfl rfl Tryz.underlying9 hc hs
 exact ⟨⟨_,_,hv⟩,⟨_,_,hv'⟩⟩
end
section
open Go.RowKit
theorem rd_on {W W':World} {A:Option Addr} {n:Nat} {xs:List Value} (h:Reads W W.heap.size 1 A n xs) (hb:Below W.heap.size W W'):Reads W' W'.heap.size 1 A n xs:=(h.below hb).more hb.size
theorem same_refl (l:List Int):sameB l l=true:=by simp [sameB]
theorem okV_fits {T:Int→TyI} {ty:Int} {ws:List Int} (hp:0<(T ty).size) (hok:okV T 19 ty ws):(∀ k,k<ws.length→0≤ix ws k∧ix ws k<4294967296)∧fitsV T ty ws=true∧gvE T ty ws=0:=by
 have hu:∀ k,k<ws.length→0≤ix ws k∧ix ws k<4294967296:=fun k hk=>by
  have:=hok.1;exact (hok.2 k (by omega)).1
 have hf:=(fitsV_ok hu).2 ⟨hp,hok⟩;exact ⟨hu,hf,by unfold gvE;rw [if_pos hp,if_pos hf]⟩
theorem use_ {ls:List InstA} {L:List InstI} (hL:L=ls.map (·.1)) (hN:∀ x∈ls,(∀ a∈x.1.2.2.2,0≤a.2.1∧a.2.1<4294967296)∧(0≤x.1.1∧x.1.1<65536)):(∀ i∈L,∀ a∈i.2.2.2,0≤a.2.1∧a.2.1<4294967296)∧(∀ i∈L,0≤i.1∧i.1<65536):=by
 subst hL;refine ⟨fun i hi=>?_,fun i hi=>?_⟩
 ·obtain ⟨x,hx,rfl⟩:=List.mem_map.1 hi;exact (hN x hx).1
 ·obtain ⟨x,hx,rfl⟩:=List.mem_map.1 hi;exact (hN x hx).2
end
section
open Go.RowKit
def getV (T:Int→TyI) (ty:Int) (ws l:List Int):Int × List Int × Int :=
 if gvE T ty ws≠0 then (0,[],gvE T ty ws) else if (wkW T 0 ty l).2=0 then (0,[],121) else ((wkW T 0 ty l).2,segV' ws (wkW T 0 ty l).1 (T (wkW T 0 ty l).2).size,0)
def putG (T:Int→TyI) (ty:Int) (ws l part:List Int):List Int × Int:=if putE T ty ws l part=0 then (putV ws (wkW T 0 ty l).1 part,0) else ([],putE T ty ws l part)
theorem getV_ok {T:Int→TyI} {ty:Int} {ws:List Int} (l:List Int) (h:gvE T ty ws=0):getV T ty ws l=if (wkW T 0 ty l).2=0 then (0,[],121) else ((wkW T 0 ty l).2,segV' ws (wkW T 0 ty l).1 (T (wkW T 0 ty l).2).size,0):=by
 unfold getV;rw [if_neg (by rw [h];decide)]
abbrev U32 (ws:List Int):Prop:=∀ x∈ws,0≤x∧x<4294967296
theorem U32.at {ws:List Int} (h:U32 ws):∀ k,k<ws.length→0≤ix ws k∧ix ws k<4294967296:=fun _ hk=>h _ (ix_in hk)
structure PathOk (T:Int→TyI) (ty:Int) (ws l:List Int) (p a:Int) (old:List Int):Prop where
 plain:0<(T ty).size
 ok:okV T 19 ty ws
 gv:gvE T ty ws=0
 found:Found T ty l
 part:p=(wkW T 0 ty l).2
 at_:a=(wkW T 0 ty l).1
 old_:old=segV' ws a (T p).size
 pplain:0<(T p).size
 low:0≤a
 high:a+(T p).size≤(T ty).size
 leaf:∀ i:Nat,(i:Int)<(T p).size→ix (leafL T 19 ty) (a.toNat+i)=ix (leafL T 19 p) i
section
variable {T:Int→TyI} {ty p a:Int} {ws l old:List Int}
theorem PathOk.pok (h:PathOk T ty ws l p a old):okV T 19 p old:=by rw [h.old_];exact ok_seg h.ok h.low h.pplain h.high h.leaf
theorem PathOk.few (h:PathOk T ty ws l p a old) (hT:Typed T):ws.length≤4096∧old.length≤4096∧(old.length:Int)=(T p).size∧(ws.length:Int)=(T ty).size:=by
 have h1:=h.ok.1;have h2:=h.pok.1;have h3:=(hT.size ty).2.2;have h4:=(hT.size p).2.2;exact ⟨by omega,by omega,h2,h1⟩
theorem PathOk.fits (h:PathOk T ty ws l p a old):fitsV T p old=true∧gvE T p old=0:=⟨(okV_fits h.pplain h.pok).2.1,(okV_fits h.pplain h.pok).2.2⟩
theorem PathOk.put (h:PathOk T ty ws l p a old) {part x:List Int} (hu:U32 part) (hg:putG T ty ws l part=(x,0)) :
  x.length=ws.length∧fitsV T ty x=true∧getV T ty x l=(p,part,0)∧x=putV ws a part∧(part.length:Int)=(T p).size∧U32 x∧gvE T ty x=0:=by
 have hf:(wkW T 0 ty l).2≠0:=h.found;have e0:putE T ty ws l part=if fitsV T p part=true then 0 else 2:=by
  unfold putE;rw [h.gv,if_neg (by decide),if_neg hf,← h.part]
 unfold putG at hg;rw [e0] at hg;cases hfp:fitsV T p part with
 | false=>rw [hfp,if_neg (by decide),if_neg (by decide)] at hg;injection hg with _ h2;cases h2
 | true =>
  rw [hfp,if_pos rfl,if_pos rfl,← h.at_] at hg;injection hg with hx _
  subst hx;obtain ⟨-,hpk⟩:=(fitsV_ok hu.at).1 hfp;have hpl:=hpk.1;have hin:a+part.length≤ws.length:=by have:=h.ok.1;have:=h.high;omega
  have hlen:=put_len h.low hin;have hok:=put_ok h.ok hpk h.low h.high h.leaf;obtain ⟨u1,u2,u3⟩:=okV_fits h.plain hok;refine ⟨hlen,u2,?_,rfl,hpl,fun y hy=>?_,u3⟩
  ·rw [getV_ok _ u3,if_neg hf,← h.part,← h.at_,← hpl,put_get h.low hin]
  ·obtain ⟨k,hk,rfl⟩:=List.getElem_of_mem hy;have:=u1 k hk;rwa [ix_of hk] at this
end
end
section
open Go.RowKit
end
end Go.Proofs.YteelmakkogdieaaGreatDoor
