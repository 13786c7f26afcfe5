/- What '==' says of two arguments. -/
import Derived.Laws.Cover2
import Derived.BigQuiet
import Derived.Test.YteelmakkogdieaaGreatDoorCSB
set_option maxRecDepth 100000
set_option maxHeartbeats 4000000
namespace Go.Proofs.YteelmakkogdieaaGreatDoor
section
open Go.RowKit Go.BigFrame
instance:DecidableEq ArgI:=inferInstanceAs (DecidableEq (Int × Int × ByteArray))
theorem arg_dec (p q:ArgI):(p.1==q.1&&(p.2.1==q.2.1&&decide (p.2.2=q.2.2)))=decide (p=q):=by
 obtain ⟨a,b,c⟩:=p;obtain ⟨a',b',c'⟩:=q
 by_cases h1:a=a' <;> by_cases h2:b=b' <;> by_cases h3:c=c' <;> simp [h1,h2,h3]
theorem arg_eq (p q:ArgI) (w:World):(Op.equalIn 10000 53 (.agg #[.int .u8 p.1,.int .u32 p.2.1,.string p.2.2]) (.agg #[.int .u8 q.1,.int .u32 q.2.1,.string q.2.2])).run Tryz.prog w=.ok (decide (p=q)) w:=by
 have ub:=Tryz.underlying5;have ui:=Tryz.underlying22;have uu:=Tryz.underlying9;have ab:=Tryz.isAgg5;have ai:=Tryz.isAgg22;have au:=Tryz.isAgg9;have zb:=Tryz.sizeOf5;have zi:=Tryz.sizeOf22;have zu:=Tryz.sizeOf9;have hS:Tryz.prog.underlying 53=some (.struct (Tryz.prog.fieldsOf 53)):=by kernel_rfl
 have hp:Tryz.prog.stoodInHeld 53=false:=by kernel_rfl
 rw [show (10000:Nat)=9999+1 from rfl,run_equalIn_agg w 9999 53 _ _ hS hp,← arg_dec]
 simp only [Program.fieldsOf,Tryz.underlying53];have ht:(p.2.2.toList=q.2.2.toList)=(p.2.2=q.2.2):=propext ⟨fun h=>WideShapes.bytes_inj (by rw [← ByteArray.toList_eq,← ByteArray.toList_eq,h]),fun h=>by rw [h]⟩
 go_simp
 by_cases h1:p.1=q.1 <;> by_cases h2:p.2.1=q.2.1 <;> by_cases h3:p.2.2=q.2.2 <;> simp [h1,h2,h3]
theorem arg_eql (p q:ArgI) (w:World):(binOp .eql 53 (.agg #[.int .u8 p.1,.int .u32 p.2.1,.string p.2.2]) (.agg #[.int .u8 q.1,.int .u32 q.2.1,.string q.2.2])).run Tryz.prog w=.ok (.bool (decide (p=q))) w:=by
 rw [run_eql_struct,arg_eq p q w];rfl
theorem arg_eqg (op:BinOp) (x y:Operand) (xs ys:Array Value) (w:World):(eqGuard op 53 x y (.agg xs) (.agg ys)).run Tryz.prog w=.ok () w:=run_eqGuard_agg w op 53 x y xs ys (by kernel_rfl)
section
variable {ops:Array Oper} {C:World→Prop} {Q:Act→Prop} {a:Act} {o:Oper} {rest:List Oper}
theorem arg_runl {x y:Operand} {te:TypeId} (ho:o.op=.binOp .eql 53 x y te) (p q:ArgI) (hx:a.eval x=.agg #[.int .u8 p.1,.int .u32 p.2.1,.string p.2.2]) (hy:a.eval y=.agg #[.int .u8 q.1,.int .u32 q.2.1,.string q.2.2]) (w:World) :
  (execOp a.eval o).run Tryz.prog w=.ok (.value (.bool (decide (p=q)))) w:=by
 have h1:=arg_eqg .eql x y #[.int .u8 p.1,.int .u32 p.2.1,.string p.2.2] #[.int .u8 q.1,.int .u32 q.2.1,.string q.2.2] w;have h2:=arg_eql p q w;unfold execOp;simp only [ho,hx,hy,Sem.run_bind,h1,h2,Result.andThen_ok,Sem.run_pure]
theorem arg_eq_eq {x y:Operand} {te:TypeId} (ho:o.op=.binOp .eql 53 x y te) (hw:Region.wanted o (yielded ops a.tmps)=true) (p q:ArgI) (hx:a.eval x=.agg #[.int .u8 p.1,.int .u32 p.2.1,.string p.2.2]) (hy:a.eval y=.agg #[.int .u8 q.1,.int .u32 q.2.1,.string q.2.2])
  (h:wpQuiet Tryz.prog ops C Q rest (a.put o.dst (.bool (decide (p=q))))):wpQuiet Tryz.prog ops C Q (o :: rest) a :=
 wpQuiet_want hw fun _ hK=>⟨_,fun w _=>by unfold Oper.quietAt;rw [arg_runl ho p q hx hy];exact ⟨rfl,rfl⟩,hK _ h⟩
end
end
section
open Go.RowKit
def sameI (o i:InstI):Bool:=decide (o.1=i.1)&&decide (o.2.2.2=i.2.2.2)
def againD (L:List InstI) (k:Nat) (i:InstI):Bool:=if i.1=28∨i.1=30 then false else (L.take k).any fun o=>sameI o i
theorem againD_at {L:List InstI} {k j:Nat} {i o:InstI} (h:¬ (i.1=28∨i.1=30)) (hj:j<k) (ho:L[j]?=some o) (hs:sameI o i=true):againD L k i=true:=by
 unfold againD;rw [if_neg h,List.any_eq_true];exact ⟨o,List.mem_of_getElem? (by rw [List.getElem?_take_of_lt hj];exact ho),hs⟩
theorem againD_none {L:List InstI} {k:Nat} {i:InstI} (h:∀ j,j<k→∀ o,L[j]?=some o→sameI o i=false):againD L k i=false:=by
 unfold againD
 split
 ·rfl
 ·rw [List.any_eq_false];intro o ho;obtain ⟨j,hj⟩:=List.getElem?_of_mem ho;have hlt:j<k:=by
   rcases Nat.lt_or_ge j k with h1 | h1
   ·exact h1
   ·rw [List.getElem?_eq_none (by rw [List.length_take];omega)] at hj;cases hj
  rw [List.getElem?_take_of_lt hlt] at hj;rw [h j hlt o hj]
  decide
def preA (l m:List ArgI) (n:Nat):Bool:=decide (l.take n=m.take n)
theorem take_ag {l:List ArgI} {n:Nat} (h:n<l.length):l.take (n+1)=l.take n++[ag l n]:=by rw [List.take_succ_eq_append_getElem h,ag_of h]
theorem preA_step {l m:List ArgI} {n:Nat} (hl:n<l.length) (hm:n<m.length):preA l m (n+1)=(preA l m n&&decide (ag l n=ag m n)):=by
 unfold preA;rw [take_ag hl,take_ag hm,Bool.eq_iff_iff,Bool.and_eq_true,decide_eq_true_eq,decide_eq_true_eq,decide_eq_true_eq]
 constructor
 ·intro h;have h2:=List.append_inj h (by rw [List.length_take,List.length_take];omega)
  exact ⟨h2.1,by simpa using h2.2⟩
 ·rintro ⟨h1,h2⟩;rw [h1,h2]
theorem preA_all {l m:List ArgI} {n:Nat} (hl:l.length=n) (hm:m.length=n):preA l m n=decide (l=m):=by
 unfold preA;rw [← hl,List.take_length,hl,← hm,List.take_length]
theorem sameI_len {o i:InstI} (h:o.2.2.2.length≠i.2.2.2.length):sameI o i=false:=by
 unfold sameI;rw [decide_eq_false (p:=o.2.2.2=i.2.2.2) (fun e=>h (by rw [e])),Bool.and_false]
theorem mod_inst_ahead (w:World) (cm ci:Array Value):∃ W:World,(w.alloc (.cells cm 25)).alloc (.cells ci 51)=W∧Below w.heap.size w W∧Blk W w.heap.size 25 cm∧Blk W (w.heap.size+1) 51 ci:=by
 refine ⟨_,rfl,((Below.refl w.heap.size w).alloc (Nat.le_refl _) _).alloc (by simp) _,(Blk.new w 25 cm).alloc _,?_⟩
 have k2:=Blk.new (w.alloc (.cells cm 25)) 51 ci;rw [World.size_alloc] at k2;exact k2
theorem ragain_any (gen bound:Int) (ls:List InstA) (A:Option Addr) (n c at_:Nat) (w:World) (hM:ModS w w.heap.size A n ls) (hk:at_<n) :
  Calls Tryz.prog 121 #[.agg (modC gen bound A n c),.int .i64 (at_:Nat)] w fun e w'=>e=.returned (.bool (againD (ls.map (·.1)) at_ (ig ls at_).1))∧Below w.heap.size w w':=by
 have hlen:=hM.reads.insts_len;have hnb:=hM.len;obtain ⟨mb,mo,rfl,hmb,hcc⟩:=hM.reads.insts (by omega)
 obtain ⟨m0,m1,m2,m3⟩:=hcc at_ hk;have hk2:((at_:Nat):Int)<(n:Int):=by omega
 have hmem:=ig_mem (l:=ls) (k:=at_) (by omega)
 have hrd:=(hM.ok _ hmem).reads;have hn1:=(hM.ok _ hmem).len;obtain ⟨v,hv⟩:∃ v,v=againD (ls.map (·.1)) at_ (ig ls at_).1:=⟨_,rfl⟩;rw [← hv];have HM:=Lib.hid hM;clear hcc hmem hM;generalize ig ls at_=X at *;obtain ⟨⟨op,ty,res,al⟩,A1,n1,c1⟩:=X;dsimp only at *;have hal:=hrd.args_len;obtain ⟨W,hW,hb,kM,kI⟩:=mod_inst_ahead w (modC gen bound (some ⟨mb,mo,none⟩) n c) #[.int .u16 op,.int .u32 ty,.int .u32 res,.slice A1 n1 c1];have hrW:=(hrd.below hb).more hb.size;have hMW:=HM.out.step hb;have HR:=Lib.hid hrW;have HMW:=Lib.hid hMW;have HV:=Lib.hid hv;clear hrd hrW hMW hv HM;unfold modC at *;obtain ⟨y0,y1,y2,y3⟩:=four_ kI
 by_cases h28:op=28
 ·subst h28;obtain rfl:v=false:=HV.out.trans (if_pos (.inl rfl));clear HV HR HMW hal;go_enter Tryz.func121,Tryz.ntmps121;go_wp2_with fail;go_ret
  exact ⟨rfl,hb⟩
 by_cases h30:op=30
 ·subst h30;obtain rfl:v=false:=HV.out.trans (if_pos (.inr rfl));clear HV HR HMW hal h28;go_enter Tryz.func121,Tryz.ntmps121;go_wp2_with fail;go_ret
  exact ⟨rfl,hb⟩
 have e28:(op==28)=false:=by simpa using h28
 have e30:(op==30)=false:=by simpa using h30
 have HNO:=Lib.hid (show ¬ (op=28∨op=30) from fun h=>h.elim h28 h30)
 clear h28 h30;go_enter Tryz.func121,Tryz.ntmps121;go_wp2_with fail;clear y0 y1 y2 y3 e28 e30 m0 m1 m2 m3 hW;go_loopg [6,7,8,9] at_ (fun q i u s t wr=>∃ j:Nat,j+q=at_∧i=.int .i64 (j:Nat)∧Below W.heap.size W wr∧Hid (∀ i,i<j→∀ o,(ls.map (·.1))[i]?=some o→sameI o (op,ty,res,al)=false))
 case atStart=>exact ⟨0,by omega,rfl,Below.refl _ _,Lib.hid (fun i hi=>absurd hi (Nat.not_lt_zero _))⟩
 case round =>
  obtain ⟨j,hq,rfl,hbr,HK⟩:=hrel;have hbw:=below_cut hb hbr (Nat.le_refl _);have kMr:=kM.step hbr;have kIr:=kI.step hbr
  by_cases hlt:j<at_
  ·obtain ⟨z0,z1,z2⟩:=three_ kMr;have hMr:=HMW.out.step hbr;have hat:(ls.map (·.1))[j]?=some (ig ls j).1:=ig_map (by omega)
   have hok:=hMr.ok _ (ig_mem (l:=ls) (k:=j) (by omega))
   obtain ⟨b,off,hA,hbb,hcc⟩:=hMr.reads.insts (by omega)
   cases hA
   obtain ⟨c0,c1',c2,c3⟩:=hcc j (by omega)
   have hj2:((j:Nat):Int)<(n:Int):=by omega
   have HYES:=Lib.hid (fun hs=>HV.out.trans (againD_at (i:=(op,ty,res,al)) HNO.out hlt hat hs))
   have HNX:=Lib.hid (show sameI (ig ls j).1 (op,ty,res,al)=false→∀ i,i<j+1→∀ o,(ls.map (·.1))[i]?=some o→sameI o (op,ty,res,al)=false from fun hs i hi o ho=>by
    by_cases e:i=j
    ·subst e;rw [hat] at ho;cases ho
     exact hs
    ·exact HK.out i (by omega) o ho)
   clear hcc hMr hat HK;generalize ig ls j=Y at *;obtain ⟨⟨op2,ty2,res2,al2⟩,A2,n2,c2'⟩:=Y;dsimp only at *;have hba:=(Below.refl wr.heap.size wr).alloc (Nat.le_refl _) (.cells #[.int .u16 op2,.int .u32 ty2,.int .u32 res2,.slice A2 n2 c2'] 51);have kO:=Blk.new wr 51 #[.int .u16 op2,.int .u32 ty2,.int .u32 res2,.slice A2 n2 c2'];have kI2:=kIr.step hba;have hba2:=below_cut hbr hba (Nat.le_refl _);have hr2:Reads (wr.alloc (.cells #[.int .u16 op2,.int .u32 ty2,.int .u32 res2,.slice A2 n2 c2'] 51)) (wr.alloc (.cells #[.int .u16 op2,.int .u32 ty2,.int .u32 res2,.slice A2 n2 c2'] 51)).heap.size 3 A2 n2 (Acells al2):=(hok.reads.below hba).more hba.size;have hr1:=(HR.out.below hba2).more hba2.size;have hal2:al2.length=n2:=hr2.args_len;have hnl2:n2≤6000000000000:=hok.len;have HR1:=Lib.hid hr1;have HR2:=Lib.hid hr2;clear hok hr1 hr2;go_upto_region 8 with fail
   generalize (wr.alloc (.cells #[.int .u16 op2,.int .u32 ty2,.int .u32 res2,.slice A2 n2 c2'] 51))=W5 at *;clear z0 z1 z2 c0 c1' c2 c3;obtain ⟨y0,y1,y2,y3⟩:=four_ kI2;obtain ⟨x0,x1,x2,x3⟩:=four_ kO
   by_cases hop:op2=op
   case neg =>
    have e1:(op2 != op)=true:=by simpa using hop
    have HN2:=Lib.hid (HNX.out (by unfold sameI;rw [decide_eq_false (p:=op2=op) hop];rfl))
    clear HNX HYES hop;go_wp2_with fail;go_roundg (at_-(j+1))
    case measure=>omega
    case rel=>exact ⟨j+1,by omega,by go_num,hba2,HN2⟩
   have e1:(op2 != op)=false:=by simpa using hop
   by_cases hnn:n2=n1
   case neg =>
    have e2:(((n2:Nat):Int) != (n1:Nat))=true:=by simp;omega
    have HN2:=Lib.hid (HNX.out (sameI_len (by show al2.length≠al.length;omega)))
    clear HNX HYES hop;go_wp2_with fail;go_roundg (at_-(j+1))
    case measure=>omega
    case rel=>exact ⟨j+1,by omega,by go_num,hba2,HN2⟩
   have e2:(((n2:Nat):Int) != (n1:Nat))=false:=by simp [hnn]
   subst hnn;have hsame:sameI (op2,ty2,res2,al2) (op,ty,res,al)=preA al2 al n2:=by
    rw [preA_all hal2 hal];unfold sameI;rw [decide_eq_true (p:=op2=op) hop,Bool.true_and]
   rw [hsame] at HYES HNX;clear hsame hop;go_wp2_with fail;clear e1 e2;go_loopg [8,9] n2 (fun q2 s i2 wq=>∃ (i:Nat) (b:Bool),i+q2=n2∧i2=.int .i64 (i:Nat)∧s=.bool b∧Hid (b=preA al2 al i)∧Below W5.heap.size W5 wq)
   case atStart=>exact ⟨0,true,by omega,rfl,rfl,Lib.hid rfl,Below.refl _ _⟩
   case round =>
    obtain ⟨i,bq,hq2,rfl,rfl,HB,hbq⟩:=hrel;obtain ⟨y0,y1,y2,y3⟩:=four_ (kI2.step hbq);obtain ⟨x0,x1,x2,x3⟩:=four_ (kO.step hbq);have hbr2:=below_cut hba2 hbq (Nat.le_refl _)
    by_cases hi:i<n2
    ·obtain ⟨b1,o1,rfl,hb1,hc1⟩:=(HR1.out.below hbq).args (by omega)
     obtain ⟨b2,o2,rfl,hb2,hc2⟩:=(HR2.out.below hbq).args (by omega)
     obtain ⟨p0,p1,p2⟩:=hc1 i hi;obtain ⟨q0,q1,q2⟩:=hc2 i hi;have hi2:((i:Nat):Int)<(n2:Int):=by omega
     have HST:=Lib.hid (preA_step (l:=al2) (m:=al) (n:=i) (by omega) (by omega))
     clear hc1 hc2;generalize ag al i=a1 at *;generalize ag al2 i=a2 at *;cases bq with
     | true =>
      have HB2:=Lib.hid (show decide (a2=a1)=preA al2 al (i+1) by rw [HST.out,← HB.out];rfl)
      clear HB HST;go_upto_region 13 with fail
      refine wp_region_quiet_lit (by kernel_rfl) (by kernel_rfl) ?_
      repeat (go_big_quiet_step (fail))
      refine arg_eq_eq rfl rfl a2 a1 rfl rfl ?_;generalize decide (a2=a1)=r at *;go_simp
      repeat (go_big_quiet_step (fail))
      refine wpQuiet_nil ?_;intro nq;go_wp2_with fail;go_roundg (n2-(i+1))
      case measure=>omega
      case rel=>exact ⟨i+1,r,by omega,by go_num,rfl,HB2,below_drewN hbq nq⟩
     | false =>
      have HB2:=Lib.hid (show false=preA al2 al (i+1) by rw [HST.out,← HB.out];rfl)
      clear HB HST;go_upto_region 13 with fail
      go_quiet (fail)
      go_wp2_with fail;go_roundg (n2-(i+1))
      case measure=>omega
      case rel=>exact ⟨i+1,false,by omega,by go_num,rfl,HB2,below_drewN hbq _⟩
    ·obtain rfl:i=n2:=by omega
     cases bq with
     | true =>
      obtain rfl:=HYES.out HB.out.symm;clear HYES HNX HB HV;go_wp2_with fail;go_ret
      exact ⟨rfl,below_cut hb hbr2 (Nat.le_refl _)⟩
     | false =>
      have HN2:=Lib.hid (HNX.out HB.out.symm);clear HYES HNX HB;go_wp2_with fail;go_roundg (at_-(j+1))
      case measure=>omega
      case rel=>exact ⟨j+1,by omega,by go_num,hbr2,HN2⟩
  ·obtain rfl:j=at_:=by omega
   obtain rfl:=HV.out.trans (againD_none HK.out);clear HV HK;go_wp2_with fail;go_ret
   exact ⟨rfl,hbw⟩
end
end Go.Proofs.YteelmakkogdieaaGreatDoor
