/- Words: a cut of an instruction's arguments. -/
import Derived.Test.YtdebjkiilnhgpaaGreatDoorCVB
import Derived.Test.YtdebjkiilnhgpaaGreatDoorCVA
set_option maxRecDepth 100000
set_option maxHeartbeats 4000000
namespace Go.Proofs.YtdebjkiilnhgpaaGreatDoor
section
open Go.RowKit
theorem Acells_drop (k:Nat):∀ l:List ArgI,(Acells l).drop (k*3)=Acells (l.drop k):=by
 induction k with
 | zero=>intro l;rw [Nat.zero_mul,List.drop_zero,List.drop_zero]
 | succ k ih =>
  intro l;cases l with
  | nil=>simp [Acells]
  | cons a r =>
   rw [List.drop_succ_cons,← ih r,Nat.succ_mul,Nat.add_comm (k*3) 3]
   show List.drop (3+k*3) (Acells (a :: r))=_
   rw [← List.drop_drop];rfl
theorem Acells_take (k:Nat):∀ l:List ArgI,(Acells l).take (k*3)=Acells (l.take k):=by
 induction k with
 | zero=>intro l;rw [Nat.zero_mul,List.take_zero,List.take_zero];rfl
 | succ k ih =>
  intro l;cases l with
  | nil=>simp [Acells]
  | cons a r =>
   rw [List.take_succ_cons]
   show List.take ((k+1)*3) (Acells (a :: r))=Acells (a :: r.take k)
   have e:∀ (l:List ArgI),Acells (a :: l)=[.int .u8 a.1,.int .u32 a.2.1,.string a.2.2]++Acells l:=fun _=>rfl
   rw [e,e,← ih r,Nat.succ_mul,List.take_append];simp [List.take_of_length_le]
theorem Reads.args_from {w:World} {B n c k:Nat} {A:Option Addr} {l:List ArgI} (h:Reads w B 3 A n (Acells l)) (hk:k≤n) (hc:n≤c) :
  Reads w B 3 (if c=k then A else Option.map (fun x=>x.add (k*3)) A) (n-k) (Acells (l.drop k)):=by
 have h1:=h.cut (k:=k) (cap:=c) hk hc;rw [Acells_drop] at h1;exact h1
theorem Reads.args_to {w:World} {B n k:Nat} {A:Option Addr} {l:List ArgI} (h:Reads w B 3 A n (Acells l)) (hk:k≤n):Reads w B 3 A k (Acells (l.take k)):=by
 refine ⟨by rw [← Acells_take,List.length_take,h.1];omega,fun h0=>?_⟩
 obtain ⟨ad,e,hb,hc⟩:=h.2 (by omega)
 refine ⟨ad,e,hb,fun j u hu=>hc j u ?_⟩
 rw [← Acells_take,List.getElem?_take] at hu
 split at hu
 ·exact hu
 ·cases hu
theorem nums_dropL (l:List ArgI) (k:Nat):nums (l.drop k)=(nums l).drop k:=by unfold nums;rw [List.map_drop]
theorem nums_takeL (l:List ArgI) (k:Nat):nums (l.take k)=(nums l).take k:=by unfold nums;rw [List.map_take]
end
section
open Go.RowKit
structure InsT (x:InstA):Prop where
 least:argN x.1.1≤x.1.2.2.2.length
 cap:x.2.2.1≤x.2.2.2
 u:∀ a∈x.1.2.2.2,0≤a.2.1∧a.2.1<4294967296
theorem InsT.zero:InsT inst0:=⟨Nat.zero_le _,Nat.le_refl _,fun a ha=>by cases ha⟩
structure CkT (d:CkD):Prop where
 cap:d.n≤d.c
 ls:∀ x∈d.ls,InsT x
 M:∀ id,InsT (d.M id)
end
section
open Go.RowKit
theorem numbersIn_ck (d:CkD) (b:Int) (g1:Nat) (a:ArgI) (w:World) (h:CkS d b w) (h1:w.cell? ⟨g1,0,none⟩=some (.pointer (some ⟨d.gc,0,none⟩))) :
  Calls Tryz.prog 118 #[argV a,.pointer (some ⟨g1,0,none⟩)] w (BoolIs (!((d.T (ofT d.g.M a.2.1)).kind==3)) w):=by
 obtain ⟨a1,a2,a3⟩:=a;unfold argV;dsimp only;have hb:=(Below.refl w.heap.size w).alloc (Nat.le_refl _) (.cells #[.int .u8 a1,.int .u32 a2,.string a3] 44);have k1:=Blk.new w 44 #[.int .u8 a1,.int .u32 a2,.string a3];have hof:=fun (u:Int) (w':World) (hb:Below w.heap.size w w')=>of_ck d b u w' (h.step hb)
 have hin1:=fun (u:Int) (w':World) (hb:Below w.heap.size w w')=>isNumber_ck d b u w' (h.step hb)
 have hX:Cx w [(⟨g1,0,none⟩,.pointer (some ⟨d.gc,0,none⟩)),(⟨d.gc,0,none⟩,.pointer (some ⟨d.gt,0,none⟩)),(⟨w.heap.size,1,none⟩,.int .u32 a2)] (w.alloc (.cells #[.int .u8 a1,.int .u32 a2,.string a3] 44)) :=
  ⟨⟨cell_alloc_c _ h1,cell_alloc_c _ h.cell.1,(three_ k1).2.1,trivial⟩,hb⟩
 obtain ⟨b1,hb1⟩:∃ vv,((d.T (ofT d.g.M a2)).kind==3)=vv:=⟨_,rfl⟩;rw [hb1];have hc:=hX.1;simp only [cellsAt] at hc;clear h h1 k1 hb;go_enter Tryz.func118,Tryz.ntmps118;go_wp2_with fail;clear hc;refine wp_region_cx (by kernel_rfl) (by kernel_rfl) hX ?_
 repeat' first | go_big_quiet_skip | (go_big_quiet_want;apply Exists.intro;refine ⟨fun w' hw'=>?_,?_⟩;(have hc:=hw'.1;simp only [cellsAt] at hc;go_simp;first | done | with_reducible rfl | (go_at_call 26;exact (hof _ _ hw'.2).mono fun e w2 h2=>⟨h2.1,hw'.call h2.2⟩) | (go_at_call 119;exact (hin1 _ _ hw'.2).mono fun e w2 h2=>⟨h2.1,hw'.call h2.2⟩));go_big_quiet_on;(try simp only [Act.put,List.setIfInBounds_toArray,List.set_cons_zero,List.set_cons_succ]))
 all_goals
  refine wpQuiet_nil ?_;intro w9 hw9;clear hX;have hX:=hw9;clear hw9;have hc:=hX.1;simp only [cellsAt] at hc;clear hc;go_wp2_with fail;go_ret
  exact ⟨rfl,hX.2⟩
theorem numbers_ck (d:CkD) (b:Int) (A:Option Addr) (n c:Nat) (l:List ArgI) (w:World) (h:CkS d b w) (hr:Reads w w.heap.size 3 A n (Acells l)) (hn:n≤4611686018427387904) :
  Calls Tryz.prog 90 #[.pointer (some ⟨d.gc,0,none⟩),.slice A n c] w (BoolIs (numL d.g (nums l)) w):=by
 have hb:=(Below.refl w.heap.size w).alloc (Nat.le_refl _) (.cells #[.pointer (some ⟨d.gc,0,none⟩)] 56);have k1:=Blk.new w 56 #[.pointer (some ⟨d.gc,0,none⟩)];have hc:=containsFunc_any 118 #[.pointer (some ⟨w.heap.size,0,none⟩)] A n c l (fun a=>!((d.T (ofT d.g.M a.2.1)).kind==3)) _ ((hr.below hb).more hb.size) hn (fun _ _=>by kernel_rfl)
  (fun k hk w' hb'=>numbersIn_ck d b w.heap.size (ag l k) w' (h.step (below_cut hb hb' (Nat.le_refl _))) ((k1.step hb').cell 0))
 have e:numL d.g (nums l)=!(l.any fun a=>!((d.T (ofT d.g.M a.2.1)).kind==3)):=by
  rw [not_any_not];exact nums_all l _
 rw [e];generalize (l.any fun a=>!((d.T (ofT d.g.M a.2.1)).kind==3))=v at *
 clear h hr k1 e;go_enter Tryz.func90,Tryz.ntmps90;go_wp2_with fail;refine hc.mono ?_;rintro e w1 ⟨rfl,hb1⟩;clear hc;go_wp2_with fail;go_ret
 exact ⟨rfl,below_cut hb hb1 (Nat.le_refl _)⟩
end
section
open Go.RowKit
theorem cntB {T:Int→TyI} (hT:Typed T) (id:Int):0≤cntT (T id)∧cntT (T id)≤65535:=by
 rcases hT.ok id with h | ⟨b,h⟩
 ·rw [h];decide
 ·generalize T id=x at *;unfold cntT;cases h <;> simp [ty0] <;> omega
theorem nums_drop {al:List ArgI} {k:Nat} (h:k<al.length):(nums al).drop k=(ag al k).2.1 :: (nums al).drop (k+1):=by
 have hk2:k<(nums al).length:=by rw [nums_len];omega
 rw [List.drop_eq_getElem_cons hk2,← nums_getD h];congr 1
 unfold ixn;rw [List.getD_eq_getElem?_getD,List.getElem?_eq_getElem hk2];rfl
theorem path_ck (d:CkD) (b ty:Int) (A:Option Addr) (n c:Nat) (l:List ArgI) (w:World) (h:CkS d b w) (hr:Reads w w.heap.size 3 A n (Acells l)) (hn:n≤7100000000000) (hu:∀ a∈l,0≤a.2.1∧a.2.1<4294967296) :
  Calls Tryz.prog 123 #[.pointer (some ⟨d.gc,0,none⟩),.int .u32 ty,.slice A n c] w (Ret (.int .u32 (pathT d.T ty (nums l))) w):=by
 have hl:=hr.args_len;have hpl:=fun (u:Int) (w':World) (hb:Below w.heap.size w w')=>plainM_any _ _ _ u w' (h.step hb).tab.tab
 have hco:=fun (u:Int) (w':World) (hb:Below w.heap.size w w')=>countM_any _ _ _ u w' (h.step hb).tab.tab ((h.step hb).tab.mild u)
 have hpa:=fun (u k:Int) (w':World) (hb:Below w.heap.size w w')=>part_ck d b u k w' (h.step hb)
 have hX:Cx w [(⟨d.gc,0,none⟩,.pointer (some ⟨d.gt,0,none⟩))] w:=⟨⟨h.cell.1,trivial⟩,Below.refl _ _⟩;obtain ⟨v,hv⟩:∃ v,pathT d.T ty (nums l)=v:=⟨_,rfl⟩;rw [hv];unfold pathT at hv;have hc:=hX.1;simp only [cellsAt] at hc;have HY:=Lib.hid h.ty;have HR:=Lib.hid hr;have HU:=Lib.hid hu
 by_cases hp:0<(d.T ty).size
 ·rw [if_pos hp] at hv;have HV:Hid (v=pathR d.T ty ((nums l).drop 0)):=Lib.hid hv.symm;have dp:decide (0<(d.T ty).size)=true:=by rw [decide_eq_true_eq];exact hp
  clear hv hp h hr hu;go_enter Tryz.func123,Tryz.ntmps123;go_wp2_with (first | (go_at_call 75;refine (hpl _ _ hX.2).mono ?_;rintro e W ⟨rfl,hb⟩;replace hX:=hX.call hb;clear hb;clear hc;have hc:=hX.1;simp only [cellsAt] at hc))
  clear hc dp;go_loopg [1,18] n (fun q t i wr=>∃ (k:Nat) (u:Int),k+q=n∧t=.int .u32 u∧i=.int .i64 (k:Nat)∧Hid (v=pathR d.T u ((nums l).drop k))∧Cx w [(⟨d.gc,0,none⟩,.pointer (some ⟨d.gt,0,none⟩))] wr)
  case atStart=>exact ⟨0,ty,by omega,rfl,rfl,HV,hX⟩
  case round =>
   obtain ⟨k,u,hq,rfl,rfl,HK,hXr⟩:=hrel;clear hX HV
   by_cases hlt:k<n
   ·obtain ⟨ab,ao,rfl,hab,hac⟩:=HR.out.args (by omega)
    obtain ⟨a0,a1,a2⟩:=hac k hlt;have a0:=(hXr.2.cell (p:=⟨ab,ao+k*3,none⟩) hab).trans a0;have a1:=(hXr.2.cell (p:=⟨ab,ao+k*3+1,none⟩) hab).trans a1;have a2:=(hXr.2.cell (p:=⟨ab,ao+k*3+2,none⟩) hab).trans a2;have hE:=HK.out;rw [nums_drop (by omega)] at hE
    replace hE:v=if cntT (d.T u)≤(ag l k).2.1 then 0 else pathR d.T (prt d.T u (ag l k).2.1) ((nums l).drop (k+1)):=hE
    have hy:=HU.out _ (ag_mem (by omega:k<l.length))
    have HE:=Lib.hid hE;clear hE hac HK;generalize ag l k=y at *;obtain ⟨y1,y2,y3⟩:=y;dsimp only at a0 a1 a2 HE hy;have d1:decide (((k:Nat):Int)<(n:Nat))=true:=by rw [decide_eq_true_eq];omega
    have hi1:((k:Nat):Int)<(n:Nat):=by omega
    have kA:=Blk.new wr 44 #[.int .u8 y1,.int .u32 y2,.string y3];have hcb:=cntB HY.out u;have wC:IntKind.u32.wrap (cntT (d.T u))=cntT (d.T u):=IntWalk.u32_in _ (by omega)
    have wC2:cntT (d.T u) % 4294967296=cntT (d.T u):=by omega
    have wY:IntKind.i64.wrap y2=y2:=IntWalk.i64_in _ (by omega)
    have hX:Cx w [(⟨d.gc,0,none⟩,.pointer (some ⟨d.gt,0,none⟩)),(⟨wr.heap.size,1,none⟩,.int .u32 y2)] (wr.alloc (.cells #[.int .u8 y1,.int .u32 y2,.string y3] 44)):=by
     obtain ⟨⟨r0,-⟩,r1⟩:=hXr.call ((Below.refl wr.heap.size wr).alloc (Nat.le_refl _) (.cells #[.int .u8 y1,.int .u32 y2,.string y3] 44));exact ⟨⟨r0,(three_ kA).2.1,trivial⟩,r1⟩
    obtain ⟨g,hg⟩:∃ vv,decide (cntT (d.T u)≤y2)=vv:=⟨_,rfl⟩;have hc:=hX.1;simp only [cellsAt] at hc;clear hXr kA;go_wp2_with fail;clear hc;refine wp_region_cx (by kernel_rfl) (by kernel_rfl) hX ?_
    repeat' first | go_big_quiet_skip | (go_big_quiet_want;apply Exists.intro;refine ⟨fun w' hw'=>?_,?_⟩;(have hc:=hw'.1;simp only [cellsAt] at hc;go_simp;first | done | with_reducible rfl | (go_at_call 77;exact (hco _ _ hw'.2).mono fun e w2 h2=>⟨h2.1,hw'.call h2.2⟩));go_big_quiet_on;(try simp only [Act.put,List.setIfInBounds_toArray,List.set_cons_zero,List.set_cons_succ]))
    all_goals
     refine wpQuiet_nil ?_;intro w9 hw9;clear hX;have hX:=hw9;clear hw9;have hc:=hX.1;simp only [cellsAt] at hc;clear a0 a1 a2;cases g with
     | true =>
      have hv1:v=0:=by rw [HE.out,if_pos (of_decide_eq_true hg)]
      have HV1:=Lib.hid hv1;clear hv1;go_wp2_with fail;go_ret
      exact ⟨(by rw [HV1.out];try rfl),hX.2⟩
     | false =>
      have hv1:v=pathR d.T (prt d.T u y2) ((nums l).drop (k+1)):=by rw [HE.out,if_neg (of_decide_eq_false hg)]
      have HV1:=Lib.hid hv1;clear hv1 hg;go_wp2_with (first | (go_at_call 85;refine (hpa _ _ _ hX.2).mono ?_;rintro e W ⟨rfl,hb⟩;replace hX:=hX.call hb;clear hb;clear hc;have hc:=hX.1;simp only [cellsAt] at hc))
      go_roundg (n-(k+1))
      case measure=>omega
      case rel=>exact ⟨k+1,prt d.T u y2,by omega,rfl,by go_num,HV1,⟨⟨hX.1.1,trivial⟩,hX.2⟩⟩
   ·obtain rfl:gk=0:=by omega
    obtain rfl:k=n:=by omega
    have d1:decide (((k:Nat):Int)<(k:Nat))=false:=by rw [decide_eq_false_iff_not];omega
    have hv1:v=u:=by rw [HK.out,List.drop_of_length_le (by rw [nums_len];omega)];rfl
    have HV1:=Lib.hid hv1;clear hv1;go_wp2_with fail;go_ret
    exact ⟨(by rw [HV1.out];try rfl),hXr.2⟩
 ·rw [if_neg hp] at hv;have HV:=Lib.hid hv;have dp:decide (0<(d.T ty).size)=false:=by rw [decide_eq_false_iff_not];exact hp
  clear hv hp h hr hu;go_enter Tryz.func123,Tryz.ntmps123;go_wp2_with (first | (go_at_call 75;refine (hpl _ _ hX.2).mono ?_;rintro e W ⟨rfl,hb⟩;replace hX:=hX.call hb;clear hb;clear hc;have hc:=hX.1;simp only [cellsAt] at hc))
  go_ret
  exact ⟨(by rw [HV.out];try rfl),hX.2⟩
end
section
open Go.RowKit
theorem signature_ck (d:CkD) (b f back:Int) (A:Option Addr) (n c:Nat) (l:List Int) (w:World) (h:CkS d b w) (hr:Reads w w.heap.size 1 A n (Ints .u32 l)) (hn:n≤7100000000000) :
  Calls Tryz.prog 59 #[.pointer (some ⟨d.gc,0,none⟩),.int .u32 f,.int .u32 back,.slice A n c] w (BoolIs (sigB d.T f back l) w):=by
 have hl:=hr.len;have hki:=fun (u:Int) (w':World) (hb:Below w.heap.size w w')=>kindM_any _ _ _ u w' (h.step hb).tab.tab
 have hco:=fun (u:Int) (w':World) (hb:Below w.heap.size w w')=>countM_any _ _ _ u w' (h.step hb).tab.tab ((h.step hb).tab.mild u)
 have hpa:=fun (u k:Int) (w':World) (hb:Below w.heap.size w w')=>part_ck d b u k w' (h.step hb)
 have hX:Cx w [(⟨d.gc,0,none⟩,.pointer (some ⟨d.gt,0,none⟩))] w:=⟨⟨h.cell.1,trivial⟩,Below.refl _ _⟩;obtain ⟨v,hv⟩:∃ v,sigB d.T f back l=v:=⟨_,rfl⟩;rw [hv];unfold sigB at hv;rw [hl] at hv;have hc:=hX.1;simp only [cellsAt] at hc;have HR:=Lib.hid hr;have wN:IntKind.i64.wrap ((n:Nat)+1)=(n:Nat)+1:=IntWalk.i64_in _ (by omega)
 obtain ⟨b1,hb1⟩:∃ vv,((d.T f).kind != 8)=vv:=⟨_,rfl⟩;obtain ⟨b2,hb2⟩:∃ vv,(cntT (d.T f) != ((n:Nat):Int)+1)=vv:=⟨_,rfl⟩;obtain ⟨b3,hb3⟩:∃ vv,(prt d.T f 0 != back)=vv:=⟨_,rfl⟩;have hE:v=(!b1&&!b2&&!b3&&sigR d.T f l 0):=by
  rw [← hv,← hb1,← hb2,← hb3];simp only [bne,Bool.not_not]
 have HE:=Lib.hid hE;clear hv hE h hr;cases b1 with
 | true =>
  have HF:Hid (v=false):=Lib.hid (by rw [HE.out];simp)
  go_enter Tryz.func59,Tryz.ntmps59;go_wp2_with (first | (go_at_call 30;refine (hki _ _ hX.2).mono ?_;rintro e W ⟨rfl,hb⟩;replace hX:=hX.call hb;clear hb;clear hc;have hc:=hX.1;simp only [cellsAt] at hc) | (go_at_call 77;refine (hco _ _ hX.2).mono ?_;rintro e W ⟨rfl,hb⟩;replace hX:=hX.call hb;clear hb;clear hc;have hc:=hX.1;simp only [cellsAt] at hc) | (go_at_call 85;refine (hpa _ _ _ hX.2).mono ?_;rintro e W ⟨rfl,hb⟩;replace hX:=hX.call hb;clear hb;clear hc;have hc:=hX.1;simp only [cellsAt] at hc))
  go_ret
  exact ⟨(by rw [HF.out];try rfl),hX.2⟩
 | false =>
  cases b2 with
  | true =>
   have HF:Hid (v=false):=Lib.hid (by rw [HE.out];simp)
   go_enter Tryz.func59,Tryz.ntmps59;go_wp2_with (first | (go_at_call 30;refine (hki _ _ hX.2).mono ?_;rintro e W ⟨rfl,hb⟩;replace hX:=hX.call hb;clear hb;clear hc;have hc:=hX.1;simp only [cellsAt] at hc) | (go_at_call 77;refine (hco _ _ hX.2).mono ?_;rintro e W ⟨rfl,hb⟩;replace hX:=hX.call hb;clear hb;clear hc;have hc:=hX.1;simp only [cellsAt] at hc) | (go_at_call 85;refine (hpa _ _ _ hX.2).mono ?_;rintro e W ⟨rfl,hb⟩;replace hX:=hX.call hb;clear hb;clear hc;have hc:=hX.1;simp only [cellsAt] at hc))
   go_ret
   exact ⟨(by rw [HF.out];try rfl),hX.2⟩
  | false =>
   cases b3 with
   | true =>
    have HF:Hid (v=false):=Lib.hid (by rw [HE.out];simp)
    go_enter Tryz.func59,Tryz.ntmps59;go_wp2_with (first | (go_at_call 30;refine (hki _ _ hX.2).mono ?_;rintro e W ⟨rfl,hb⟩;replace hX:=hX.call hb;clear hb;clear hc;have hc:=hX.1;simp only [cellsAt] at hc) | (go_at_call 77;refine (hco _ _ hX.2).mono ?_;rintro e W ⟨rfl,hb⟩;replace hX:=hX.call hb;clear hb;clear hc;have hc:=hX.1;simp only [cellsAt] at hc) | (go_at_call 85;refine (hpa _ _ _ hX.2).mono ?_;rintro e W ⟨rfl,hb⟩;replace hX:=hX.call hb;clear hb;clear hc;have hc:=hX.1;simp only [cellsAt] at hc))
    go_ret
    exact ⟨(by rw [HF.out];try rfl),hX.2⟩
   | false =>
    have HV:Hid (v=sigR d.T f (l.drop 0) 0):=Lib.hid (by rw [HE.out];simp)
    clear HE;go_enter Tryz.func59,Tryz.ntmps59;go_wp2_with (first | (go_at_call 30;refine (hki _ _ hX.2).mono ?_;rintro e W ⟨rfl,hb⟩;replace hX:=hX.call hb;clear hb;clear hc;have hc:=hX.1;simp only [cellsAt] at hc) | (go_at_call 77;refine (hco _ _ hX.2).mono ?_;rintro e W ⟨rfl,hb⟩;replace hX:=hX.call hb;clear hb;clear hc;have hc:=hX.1;simp only [cellsAt] at hc) | (go_at_call 85;refine (hpa _ _ _ hX.2).mono ?_;rintro e W ⟨rfl,hb⟩;replace hX:=hX.call hb;clear hb;clear hc;have hc:=hX.1;simp only [cellsAt] at hc))
    clear hc hb1 hb2 hb3;go_loopg [39] n (fun q i wr=>∃ (k:Nat),k+q=n∧i=.int .i64 (k:Nat)∧Hid (v=sigR d.T f (l.drop k) k)∧Cx w [(⟨d.gc,0,none⟩,.pointer (some ⟨d.gt,0,none⟩))] wr)
    case atStart=>exact ⟨0,by omega,rfl,HV,hX⟩
    case round =>
     obtain ⟨k,hq,rfl,HK,hXr⟩:=hrel;clear hX HV
     by_cases hlt:k<n
     ·obtain ⟨ab,ao,rfl,hab,hac⟩:=(HR.out.below hXr.2).ints (by omega)
      have a0:=hac k hlt;have hdr:l.drop k=ix l k :: l.drop (k+1):=by rw [ix_of (by omega)];exact List.drop_eq_getElem_cons (by omega)
      have hE:=HK.out;rw [hdr] at hE;replace hE:v=(prt d.T f (k+1:Nat)==ix l k&&sigR d.T f (l.drop (k+1)) (k+1)):=hE
      rw [show ((k+1:Nat):Int)=(k:Int)+1 from rfl] at hE
      generalize ix l k=x at *;have HE:=Lib.hid hE;have d1:decide (((k:Nat):Int)<(n:Nat))=true:=by rw [decide_eq_true_eq];omega
      have hi1:((k:Nat):Int)<(n:Nat):=by omega
      have wK:IntKind.i64.wrap ((k:Nat)+1)=(k:Nat)+1:=IntWalk.i64_in _ (by omega)
      obtain ⟨g,hg⟩:∃ vv,(prt d.T f ((k:Nat)+1) != x)=vv:=⟨_,rfl⟩;have hX:=hXr;have hc:=hX.1;simp only [cellsAt] at hc;clear hE hac HK hXr hdr;cases g with
      | true =>
       have hv1:v=false:=by rw [HE.out,show (prt d.T f ((k:Nat)+1)==x)=false by simpa using hg];rfl
       have HV1:=Lib.hid hv1;clear hv1;go_wp2_with (first | (go_at_call 85;refine (hpa _ _ _ hX.2).mono ?_;rintro e W ⟨rfl,hb⟩;replace hX:=hX.call hb;clear hb;clear hc;have hc:=hX.1;simp only [cellsAt] at hc))
       go_ret
       exact ⟨(by rw [HV1.out];try rfl),hX.2⟩
      | false =>
       have hv1:v=sigR d.T f (l.drop (k+1)) (k+1):=by rw [HE.out,show (prt d.T f ((k:Nat)+1)==x)=true by simpa using hg];rfl
       have HV1:=Lib.hid hv1;clear hv1;go_wp2_with (first | (go_at_call 85;refine (hpa _ _ _ hX.2).mono ?_;rintro e W ⟨rfl,hb⟩;replace hX:=hX.call hb;clear hb;clear hc;have hc:=hX.1;simp only [cellsAt] at hc))
       go_roundg (n-(k+1))
       case measure=>omega
       case rel=>exact ⟨k+1,by omega,by go_num,HV1,hX⟩
     ·obtain rfl:gk=0:=by omega
      obtain rfl:k=n:=by omega
      have d1:decide (((k:Nat):Int)<(k:Nat))=false:=by rw [decide_eq_false_iff_not];omega
      have hv1:v=true:=by rw [HK.out,List.drop_of_length_le (by omega)];rfl
      have HV1:=Lib.hid hv1;clear hv1;go_wp2_with fail;go_ret
      exact ⟨(by rw [HV1.out];try rfl),hXr.2⟩
end
section
open Go.RowKit
theorem wide_ck (d:CkD) (b u v:Int) (w:World) (h:CkS d b w):Calls Tryz.prog 89 #[.pointer (some ⟨d.gc,0,none⟩),.int .u32 u,.int .u32 v] w (BoolIs (wideB d.T u v) w):=by
 obtain ⟨c0,-⟩:=h.cell;have hki:=fun (u:Int) (w':World) (hb:Below w.heap.size w w')=>kindM_any _ _ _ u w' (h.step hb).tab.tab
 have hco:=fun (u:Int) (w':World) (hb:Below w.heap.size w w')=>countM_any _ _ _ u w' (h.step hb).tab.tab ((h.step hb).tab.mild u)
 have hX:Cx w [(⟨d.gc,0,none⟩,.pointer (some ⟨d.gt,0,none⟩))] w:=⟨⟨c0,trivial⟩,Below.refl _ _⟩;have hv:wideB d.T u v=if ((d.T u).kind==4)=true∨((d.T v).kind==4)=true then ((d.T u).kind==(d.T v).kind)&&(cntT (d.T u)==cntT (d.T v)) else true:=by
  unfold wideB;simp only [beq_iff_eq]
 rw [hv];clear hv h c0;have hc:=hX.1;simp only [cellsAt] at hc;obtain ⟨b1,hb1⟩:∃ vv,((d.T u).kind==4)=vv:=⟨_,rfl⟩;rw [hb1];obtain ⟨b2,hb2⟩:∃ vv,((d.T v).kind==4)=vv:=⟨_,rfl⟩;rw [hb2];obtain ⟨b3,hb3⟩:∃ vv,((d.T u).kind==(d.T v).kind)=vv:=⟨_,rfl⟩;rw [hb3];obtain ⟨b4,hb4⟩:∃ vv,(cntT (d.T u)==cntT (d.T v))=vv:=⟨_,rfl⟩;rw [hb4];obtain ⟨r,hr0⟩:∃ vv,(if b1=true∨b2=true then b3&&b4 else true)=vv:=⟨_,rfl⟩
 rw [hr0];have HR:=Lib.hid hr0;clear hr0;cases b1 with
 | true =>
  go_enter Tryz.func89,Tryz.ntmps89;go_wp2_with (first | (go_at_call 30;refine (hki _ _ hX.2).mono ?_;rintro e W ⟨rfl,hb⟩;replace hX:=hX.call hb;clear hb;clear hc;have hc:=hX.1;simp only [cellsAt] at hc))
  clear hc;refine wp_region_cx (by kernel_rfl) (by kernel_rfl) hX ?_
  repeat' first | go_big_quiet_skip | (go_big_quiet_want;apply Exists.intro;refine ⟨fun w' hw'=>?_,?_⟩;(have hc:=hw'.1;simp only [cellsAt] at hc;go_simp;first | done | with_reducible rfl | (go_at_call 30;exact (hki _ _ hw'.2).mono fun e w2 h2=>⟨h2.1,hw'.call h2.2⟩) | (go_at_call 77;exact (hco _ _ hw'.2).mono fun e w2 h2=>⟨h2.1,hw'.call h2.2⟩));go_big_quiet_on;(try simp only [Act.put,List.setIfInBounds_toArray,List.set_cons_zero,List.set_cons_succ])) | cases b3
  all_goals
   refine wpQuiet_nil ?_;intro w9 hw9;clear hX;have hX:=hw9;clear hw9;have hc:=hX.1;simp only [cellsAt] at hc;clear hc;go_wp2_with fail;go_ret
   exact ⟨by rw [← HR.out];rfl,hX.2⟩
 | false =>
  cases b2 with
  | true =>
   go_enter Tryz.func89,Tryz.ntmps89;go_wp2_with (first | (go_at_call 30;refine (hki _ _ hX.2).mono ?_;rintro e W ⟨rfl,hb⟩;replace hX:=hX.call hb;clear hb;clear hc;have hc:=hX.1;simp only [cellsAt] at hc))
   clear hc;refine wp_region_cx (by kernel_rfl) (by kernel_rfl) hX ?_
   repeat' first | go_big_quiet_skip | (go_big_quiet_want;apply Exists.intro;refine ⟨fun w' hw'=>?_,?_⟩;(have hc:=hw'.1;simp only [cellsAt] at hc;go_simp;first | done | with_reducible rfl | (go_at_call 30;exact (hki _ _ hw'.2).mono fun e w2 h2=>⟨h2.1,hw'.call h2.2⟩) | (go_at_call 77;exact (hco _ _ hw'.2).mono fun e w2 h2=>⟨h2.1,hw'.call h2.2⟩));go_big_quiet_on;(try simp only [Act.put,List.setIfInBounds_toArray,List.set_cons_zero,List.set_cons_succ])) | cases b3
   all_goals
    refine wpQuiet_nil ?_;intro w9 hw9;clear hX;have hX:=hw9;clear hw9;have hc:=hX.1;simp only [cellsAt] at hc;clear hc;go_wp2_with fail;go_ret
    exact ⟨by rw [← HR.out];rfl,hX.2⟩
  | false =>
   go_enter Tryz.func89,Tryz.ntmps89;go_wp2_with (first | (go_at_call 30;refine (hki _ _ hX.2).mono ?_;rintro e W ⟨rfl,hb⟩;replace hX:=hX.call hb;clear hb;clear hc;have hc:=hX.1;simp only [cellsAt] at hc))
   go_ret
   exact ⟨by rw [← HR.out];rfl,hX.2⟩
end
end Go.Proofs.YtdebjkiilnhgpaaGreatDoor
