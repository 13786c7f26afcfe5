/- Walks: the document's None, Id, Whole, Room of a text, Wrong. -/
import Derived.Test.YteelmakkogdieaaGreatDoorCRA
import Derived.Deep.RegionHeld3
set_option maxRecDepth 100000
set_option maxHeartbeats 8000000
namespace Go.Proofs.YteelmakkogdieaaGreatDoor
section
open Go.RowKit
theorem refNone_any (n b:Int) (w:World):Calls Tryz.prog 284 #[.int .u32 n,.int .u32 b] w fun e w'=>e=.returned (.bool (decide (n=0∨b≤n)))∧w=w':=by
 by_cases h0:n=0
 ·have e1:(n==0)=true:=by simpa using h0
  have hv:decide (n=0∨b≤n)=true:=by rw [decide_eq_true_eq];exact .inl h0
  rw [hv];clear h0 hv;go_enter Tryz.func284,Tryz.ntmps284;go_wp2_with fail;go_ret
  exact ⟨rfl,rfl⟩
 ·have e1:(n==0)=false:=by simpa using h0
  have hv:decide (n=0∨b≤n)=decide (b≤n):=by congr 1;rw [eq_iff_iff];exact ⟨fun h=>h.resolve_left h0,.inr⟩
  rw [hv];clear h0 hv;go_enter Tryz.func284,Tryz.ntmps284;go_wp2_with fail;go_ret
  exact ⟨rfl,rfl⟩
theorem refId_any (must:Bool) (n b x:Int) (w:World):Calls Tryz.prog 262 #[.bool must,.int .u32 n,.int .u32 b,.int .i64 x] w fun e w'=>e=.returned (.int .i64 (headE must n x b))∧w=w':=by
 cases must with
 | false =>
  by_cases h0:n=0
  ·have hv:headE false n x b=0:=by rw [h0];rfl
   have e1:(n != 0)=false:=by simpa using h0
   rw [hv];clear h0 hv;go_enter Tryz.func262,Tryz.ntmps262;go_wp2_with fail;go_ret
   exact ⟨rfl,rfl⟩
  ·have e1:(n != 0)=true:=by simpa using h0
   have hv:headE false n x b=x:=by unfold headE;rw [e1];rfl
   rw [hv];clear h0 hv;go_enter Tryz.func262,Tryz.ntmps262;go_wp2_with fail;go_ret
   exact ⟨rfl,rfl⟩
 | true =>
  by_cases h0:n=0
  ·have hv:headE true n x b=x:=by rw [h0];rfl
   have e1:(n != 0)=false:=by simpa using h0
   rw [hv];clear h0 hv;go_enter Tryz.func262,Tryz.ntmps262;go_wp2_with fail;go_ret
   exact ⟨rfl,rfl⟩
  ·have e1:(n != 0)=true:=by simpa using h0
   by_cases h1:b≤n
   ·have hv:headE true n x b=43:=by unfold headE;rw [e1];exact if_pos (show n=0∨b≤n from .inr h1)
    have d1:decide (b≤n)=true:=by rw [decide_eq_true_eq];exact h1
    rw [hv];clear h0 hv h1;go_enter Tryz.func262,Tryz.ntmps262;go_wp2_with fail;go_ret
    exact ⟨rfl,rfl⟩
   ·have hv:headE true n x b=0:=by unfold headE;rw [e1];exact if_neg (show ¬ (n=0∨b≤n) from fun h=>h.elim h0 h1)
    have d1:decide (b≤n)=false:=by rw [decide_eq_false_iff_not];exact h1
    rw [hv];clear h0 hv h1;go_enter Tryz.func262,Tryz.ntmps262;go_wp2_with fail;go_ret
    exact ⟨rfl,rfl⟩
theorem refRoom1_any (s:ByteArray) (w:World) (hs:s.size≤140737488351232):Calls Tryz.prog 266 #[.string s] w fun e w'=>e=.returned (.int .i64 ((s.size / 4+1:Nat):Int))∧w=w':=by
 have h1:(s.size:Int) / 4=((s.size / 4:Nat):Int):=by omega
 have h2:(s.size:Int).tdiv 4=((s.size / 4:Nat):Int):=rfl;have h3:s.size / 4≤s.size:=Nat.div_le_self _ _;rw [show ((s.size / 4+1:Nat):Int)=((s.size / 4:Nat):Int)+1 from rfl]
 generalize s.size / 4=q at *;have wq:IntKind.i64.wrap (q:Int)=q:=IntWalk.i64_in _ (by omega)
 have wq1:IntKind.i64.wrap ((q:Int)+1)=q+1:=IntWalk.i64_in _ (by omega)
 go_enter Tryz.func266,Tryz.ntmps266;go_wp2_with fail;go_ret
 exact ⟨rfl,rfl⟩
theorem refWhole_any (op:Int) (f:FormI) (n:Nat) (w:World) (hf:formOf op=some f) (hn:n≤35184372087808) :
  Calls Tryz.prog 265 #[.agg (formV op f),.int .i64 (n:Nat)] w fun e w'=>e=.returned (.bool (wholeB f n))∧Below w.heap.size w w':=by
 obtain ⟨hs,hs3,hm⟩:=formOf_bd hf;obtain ⟨v,hv⟩:∃ v,v=wholeB f n:=⟨_,rfl⟩;rw [← hv];unfold wholeB at hv;rw [← bs_size f.fixed,← bs_size f.rest] at hv;unfold formV;have hb:=(Below.refl w.heap.size w).alloc (Nat.le_refl _) (.cells #[.int .u16 op,.string (bs f.name),.bool f.ty,.bool f.res,.string (bs f.fixed),.string (bs f.rest),.int .i64 f.most,.int .u8 f.part] 91);generalize bs f.name=s0 at *;generalize bs f.fixed=s2 at *;generalize bs f.rest=s3 at *;generalize f.ty=T at *;generalize f.res=R at *;generalize f.most=m at *;generalize f.part=part at *;clear hf hm f
 by_cases h:s2.size≤n
 ·rw [show decide (s2.size≤n)=true from decide_eq_true h,Bool.true_and] at hv
  have d1:decide ((n:Int)<(s2.size:Int))=false:=by rw [decide_eq_false_iff_not];omega
  by_cases h3:s3.size=0
  ·rw [if_pos h3] at hv;have e3:((s3.size:Int)==0)=true:=by rw [h3];rfl
   have e4:((n:Int)==(s2.size:Int))=v:=by rw [hv,Bool.eq_iff_iff,beq_iff_eq,decide_eq_true_eq];omega
   clear hv;go_enter Tryz.func265,Tryz.ntmps265;go_wp2_with fail;go_ret
   exact ⟨rfl,hb⟩
  ·rw [if_neg h3] at hv;have e3:((s3.size:Int)==0)=false:=by rw [beq_eq_false_iff_ne];omega
   obtain ⟨j,hij⟩:∃ j,n=s2.size+j:=⟨n-s2.size,by omega⟩
   have hj:(n:Int)-(s2.size:Int)=(j:Int):=by omega
   have hwj:IntKind.i64.wrap ((n:Int)-(s2.size:Int))=(j:Int):=by rw [hj];exact IntWalk.i64_in _ (by omega)
   rw [show n-s2.size=j by omega] at hv
   have hmm:(j:Int).tmod (s3.size:Int)=((j % s3.size:Nat):Int):=rfl;have hmm2:(j:Int) % (s3.size:Int)=((j % s3.size:Nat):Int):=rfl;have hmod:j % s3.size<s3.size:=Nat.mod_lt _ (by omega)
   generalize j % s3.size=k at *;have wk:IntKind.i64.wrap (k:Int)=k:=IntWalk.i64_in _ (by omega)
   have e4:((k:Int)==0)=v:=by rw [hv,Bool.eq_iff_iff,beq_iff_eq,decide_eq_true_eq];omega
   clear hv hij;go_enter Tryz.func265,Tryz.ntmps265;go_wp2_with fail;go_ret
   exact ⟨rfl,hb⟩
 ·rw [show decide (s2.size≤n)=false from decide_eq_false h,Bool.false_and] at hv
  have d1:decide ((n:Int)<(s2.size:Int))=true:=by rw [decide_eq_true_eq];omega
  obtain rfl:=hv;go_enter Tryz.func265,Tryz.ntmps265;go_wp2_with fail;go_ret
  exact ⟨rfl,hb⟩
theorem txE_full {s:ByteArray} (h:∀ j (hj:j<s.size),s[j].toNat≠0):txE s=0:=by
 unfold txE;rw [if_neg];intro h0;unfold bl at h0;obtain ⟨b,hb,e⟩:=List.mem_map.1 h0;obtain ⟨j,hj,rfl⟩:=List.mem_iff_getElem.1 hb;have hj2:j<s.size:=by simpa using hj
 have:=h j hj2;apply this
 have e2:s[j]=s.data.toList[j]:=rfl;rw [e2];omega
theorem txE_gap {s:ByteArray} {j:Nat} (hj:j<s.size) (h:s[j].toNat=0):txE s=13:=by
 unfold txE;rw [if_pos];unfold bl;refine List.mem_map.2 ⟨s[j],?_,by omega⟩
 show s.data[j]'hj∈s.data.toList
 rw [Array.mem_toList_iff];exact Array.getElem_mem _
theorem refWrong_any (op bound:Int) (k:Nat) (kd n:Int) (s:ByteArray) (w:World) (hs:s.size≤140737488351232) :
  Calls Tryz.prog 263 #[.int .u8 (letterOf op k),.agg #[.int .u8 kd,.int .u32 n,.string s],.int .u32 bound] w fun e w'=>e=.returned (.int .i64 (argE op bound k kd n s))∧Below w.heap.size w w':=by
 obtain ⟨v,hv⟩:∃ v,v=argE op bound k kd n s:=⟨_,rfl⟩;rw [← hv];unfold argE argBad at hv;generalize letterOf op k=lt at *;have hkd:=fun w=>refKind_any lt w
 have hen:=fun w=>refEnum_any lt n w
 have hno:=fun w=>refNone_any n bound w
 unfold idE namedE at hv;generalize kindT lt=kl at *;generalize bs (enumN lt n)=en at *;generalize enumB lt n=eb at *;have hb:=(Below.refl w.heap.size w).alloc (Nat.le_refl _) (.cells #[.int .u8 kd,.int .u32 n,.string s] 53);have k1:=Blk.new w 53 #[.int .u8 kd,.int .u32 n,.string s]
 by_cases hl:lt=0
 ·obtain rfl:=hl;obtain rfl:v=42:=by rw [hv];rfl
  clear hv hkd hen hno;go_enter Tryz.func263,Tryz.ntmps263;go_wp2_with fail;go_big_region
  go_wp2_with fail;go_ret
  exact ⟨rfl,hb.drew⟩
 have e1:(lt==0)=false:=by simpa using hl
 rw [e1,Bool.false_or] at hv;have HV:=Lib.hid hv;clear hv hl;go_enter Tryz.func263,Tryz.ntmps263;go_upto_region 1 with fail
 generalize w.alloc (.cells #[.int .u8 kd,.int .u32 n,.string s] 53)=w1 at *;have c0:=k1.cell 0;simp at c0;have hS0:H1 w1 ⟨w.heap.size,0,none⟩ (.int .u8 kd) w1:=⟨c0,Below.refl _ _⟩;go_cut [18] (fun u wx=>u=.bool (kd != kl)∧Below w1.heap.size w1 wx)
 case first =>
  go_region_held3 (H1 w1 ⟨w.heap.size,0,none⟩ (.int .u8 kd)) (first | with_reducible exact hS0.drew_ | with_reducible assumption | with_reducible exact H1.call (by assumption) hbq | fail) ((first | (go_at_call 283;(with_reducible refine (hkd _).mono ?_);rintro e w' ⟨rfl,hbq⟩)))
  all_goals
   have B1:Below w1.heap.size w1 w':=H1.is (by assumption)
   go_wp2_with fail;go_meet
   exact ⟨rfl,B1⟩
 case rest =>
  obtain ⟨rfl,hb1⟩:=hcut;have k2:=k1.step hb1;have hb2:=below_cut hb hb1 (Nat.le_refl _);replace c0:=k2.cell 0
  have c1:=k2.cell 1;have c2:=k2.cell 2;simp at c0 c1 c2;have fz:=k2.frozen;clear hS0 hkd hb hb1 k1
  by_cases h1:kd=kl
  ·obtain rfl:=h1;have e2:(kd != kd)=false:=by simp
   have hv:=HV.out;rw [e2,Bool.false_or] at hv;clear HV
   by_cases h3:kd=3
   case' pos =>
    obtain rfl:=h3
    by_cases hn:n=0
    case neg =>
     have e3:(n != 0)=true:=by simpa using hn
     obtain rfl:v=42:=by rw [hv,e3];rfl
     clear hv hn hno hen;go_wp2_with fail;go_ret
     exact ⟨rfl,hb2⟩
    case' pos =>
     have e3:(n != 0)=false:=by simpa using hn
     have HL:Hid (v=txE s):=Lib.hid (by rw [hv,e3];rfl)
     clear hv hn hno;go_wp2_with (go_at_call 285;refine (hen _).mono ?_;rintro e w3 ⟨rfl,hb3⟩;have k3:=k2.step hb3;have d0:=k3.cell 0;have d2:=k3.cell 2;simp at d0 d2)
   case' neg =>
    have e3:(kd==3)=false:=by simpa using h3
    have e3n:(kd != 3)=true:=by simpa using h3
    rw [e3] at hv
    by_cases hz:s.size=0
    case neg =>
     have he:s.toList.isEmpty=false:=ne_isEmpty hz;obtain rfl:v=42:=by rw [hv,he];rfl
     clear hv hno hen;go_wp2_with fail;go_ret
     exact ⟨rfl,hb2⟩
    case' pos =>
     have he:s.toList.isEmpty=true:=by rw [beq_empty s hz,ByteArray.toList_eq];rfl
     have htx:txE s=0:=txE_full (fun j hj=>absurd hj (by omega))
     rw [he] at hv;simp only [Bool.not_true,Bool.and_false,Bool.false_and,Bool.or_false,Bool.false_eq_true,if_false] at hv
     by_cases h4:kd=1
     case' pos =>
      obtain rfl:=h4;rw [if_pos (show ((1:Int)==1)=true from rfl)] at hv
      by_cases h5:n=0∨bound≤n
      case pos =>
       rw [if_pos h5] at hv;have d1:decide (n=0∨bound≤n)=true:=decide_eq_true h5;obtain rfl:=hv;rw [d1] at hno;clear hen h5;go_wp2_with (go_at_call 284;refine (hno _).mono ?_;rintro e w3 ⟨rfl,rfl⟩)
       go_ret
       exact ⟨rfl,hb2⟩
      case' neg =>
       rw [if_neg h5] at hv;have d1:decide (n=0∨bound≤n)=false:=decide_eq_false h5;rw [d1] at hno;have HL:Hid (v=txE s):=Lib.hid (by rw [hv,htx])
       clear hv h5 htx d1;go_wp2_with (first | (go_at_call 284;refine (hno _).mono ?_;rintro e w7 ⟨rfl,rfl⟩) | (go_at_call 285;refine (hen _).mono ?_;rintro e w3 ⟨rfl,hb3⟩;have k3:=k2.step hb3;have d0:=k3.cell 0;have d2:=k3.cell 2;simp at d0 d2))
     case' neg =>
      have e4:(kd==1)=false:=by simpa using h4
      rw [e4] at hv;simp only [Bool.false_eq_true,if_false] at hv
      by_cases h5:kd=4
      case' pos =>
       obtain rfl:=h5;rw [if_pos (show ((4:Int)==4)=true from rfl)] at hv
       cases eb
       case false =>
        simp only [Bool.false_eq_true,if_false] at hv;obtain rfl:=hv;clear hno;go_wp2_with (go_at_call 285;refine (hen _).mono ?_;rintro e w3 ⟨rfl,hb3⟩;have k3:=k2.step hb3;have d0:=k3.cell 0;have d2:=k3.cell 2;simp at d0 d2)
        go_ret
        exact ⟨rfl,below_cut hb2 hb3 (Nat.le_refl _)⟩
       case' true =>
        simp only [if_true] at hv;have HL:Hid (v=txE s):=Lib.hid (by rw [hv,htx])
        clear hv htx hno;go_wp2_with (go_at_call 285;refine (hen _).mono ?_;rintro e w3 ⟨rfl,hb3⟩;have k3:=k2.step hb3;have d0:=k3.cell 0;have d2:=k3.cell 2;simp at d0 d2)
      case' neg =>
       have e5:(kd==4)=false:=by simpa using h5
       rw [e5] at hv;simp only [Bool.false_eq_true,if_false] at hv;have HL:Hid (v=txE s):=Lib.hid (by rw [hv,htx])
       clear hv htx hno;go_wp2_with (go_at_call 285;refine (hen _).mono ?_;rintro e w3 ⟨rfl,hb3⟩;have k3:=k2.step hb3;have d0:=k3.cell 0;have d2:=k3.cell 2;simp at d0 d2)
   all_goals
    have hb4:=below_cut hb2 hb3 (Nat.le_refl _)
    try clear he
    try clear hz
    go_loopg [6,9] s.size (fun q a i wr=>∃ j:Nat,j+q=s.size∧a=.int .i64 0∧i=.int .i64 (j:Nat)∧wr=w3∧Hid (∀ p (hp:p<s.size),p<j→s[p].toNat≠0))
    case atStart=>exact ⟨0,by omega,rfl,rfl,rfl,Lib.hid (fun p hp hj=>absurd hj (Nat.not_lt_zero _))⟩
    case round =>
     obtain ⟨j,hjq,rfl,rfl,rfl,HJ⟩:=hrel
     by_cases hlt:j<s.size
     ·by_cases hz9:s[j].toNat=0
      ·have e9:((s[j].toNat:Int)==0)=true:=by rw [hz9];rfl
       obtain rfl:v=13:=HL.out.trans (txE_gap hlt hz9);clear HL HJ hz9;go_wp2_with fail;go_ret
       exact ⟨rfl,hb4⟩
      ·have e9:((s[j].toNat:Int)==0)=false:=by rw [beq_eq_false_iff_ne];omega
       have HJ2:=Lib.hid (show ∀ p (hp:p<s.size),p<j+1→s[p].toNat≠0 from fun p hp hpj=>by
        rcases Nat.lt_or_ge p j with h | h
        ·exact HJ.out p hp h
        ·obtain rfl:p=j:=by omega
         exact hz9)
       clear HJ hz9;go_wp2_with fail;go_roundg (s.size-(j+1))
       case measure=>omega
       case rel=>exact ⟨j+1,by omega,rfl,by go_num,rfl,HJ2⟩
     ·obtain rfl:v=0:=HL.out.trans (txE_full (fun p hp=>HJ.out p hp (by omega)))
      clear HL HJ;go_wp2_with fail;go_ret
      exact ⟨rfl,hb4⟩
  ·have e2:(kd != kl)=true:=by simpa using h1
   obtain rfl:v=42:=by rw [HV.out,e2];rfl
   clear HV;go_wp2_with fail;go_ret
   exact ⟨rfl,hb2⟩
end
section
open Go.RowKit
theorem sumD_bd {l:List ArgI} {n:Nat} (h3:∀ j,j<n→(ag l j).1=3→j<61) (hs:∀ j,j<n→(ag l j).2.2.size≤140737488351232):∀ k,k≤n→sumD l k≤k+35184372087809*min k 61
 | 0,_=>Nat.le_refl _
 | k+1,hk=>by
  have ih:=sumD_bd h3 hs k (by omega)
  have h1:=h3 k (by omega)
  have h2:=hs k (by omega)
  rw [sumD_succ];unfold roomA
  split
  ·rename_i h
   have:=h1 h;omega
  ·omega
theorem refRoom_any (x:InstA) (op':Int) (f:FormI) (w:World) (h:InstOk w w.heap.size x) (hsum:sumD x.1.2.2.2 x.1.2.2.2.length≤2^60) :
  Calls Tryz.prog 237 #[.agg (instC x),.agg (formV op' f)] w fun e w'=>e=.returned (.int .i64 ((1+(if f.ty then 1 else 0)+(if f.res then 1 else 0)+sumD x.1.2.2.2 x.1.2.2.2.length:Nat):Int))∧Below w.heap.size w w':=by
 obtain ⟨⟨op,ty,res,l⟩,A,n,c⟩:=x;obtain ⟨hr,hn,-,htx⟩:=h;have hl:=hr.args_len;dsimp only at *;unfold instC formV;dsimp only;have hb:=((Below.refl w.heap.size w).alloc (Nat.le_refl _) (.cells #[.int .u16 op,.int .u32 ty,.int .u32 res,.slice A n c] 51)).alloc (by simp) (.cells #[.int .u16 op',.string (bs f.name),.bool f.ty,.bool f.res,.string (bs f.fixed),.string (bs f.rest),.int .i64 f.most,.int .u8 f.part] 91)
 have k1:=(Blk.new w 51 #[.int .u16 op,.int .u32 ty,.int .u32 res,.slice A n c]).alloc (.cells #[.int .u16 op',.string (bs f.name),.bool f.ty,.bool f.res,.string (bs f.fixed),.string (bs f.rest),.int .i64 f.most,.int .u8 f.part] 91);have k2:=Blk.new (w.alloc (.cells #[.int .u16 op,.int .u32 ty,.int .u32 res,.slice A n c] 51)) 91 #[.int .u16 op',.string (bs f.name),.bool f.ty,.bool f.res,.string (bs f.fixed),.string (bs f.rest),.int .i64 f.most,.int .u8 f.part];rw [World.size_alloc] at k2;obtain ⟨v,hv⟩:∃ v:Int,v=((1+(if f.ty then 1 else 0)+(if f.res then 1 else 0)+sumD l l.length:Nat):Int):=⟨_,rfl⟩
 rw [← hv];generalize bs f.name=s0 at *;generalize bs f.fixed=s2 at *;generalize bs f.rest=s3 at *;generalize f.ty=T at *;generalize f.res=R at *;generalize f.most=m at *;generalize f.part=part at *;clear f;have HR:=Lib.hid hr;have HT:=Lib.hid htx;have HS:=Lib.hid hsum;obtain ⟨bb,hbb⟩:∃ bb:Nat,bb=1+(if T then 1 else 0)+(if R then 1 else 0):=⟨_,rfl⟩
 have HV:Hid (v=((bb+sumD l l.length:Nat):Int)):=Lib.hid (by rw [hv,hbb])
 have hb4:bb≤3:=by rw [hbb];split <;> split <;> omega
 clear hr htx hsum hv;cases T <;> cases R
 all_goals
  have y2:=k2.cell 2;have y3:=k2.cell 3;simp at y2 y3 hbb;go_enter Tryz.func237,Tryz.ntmps237;go_wp2_with fail;generalize ((w.alloc (.cells #[.int .u16 op,.int .u32 ty,.int .u32 res,.slice A n c] 51)).alloc (.cells _ 91))=W at *;have y1:=k1.cell 3;simp at y1;go_loopg [5,6] n (fun q a i wr=>∃ k:Nat,k+q=n∧a=.int .i64 ((bb+sumD l k:Nat):Int)∧i=.int .i64 (k:Nat)∧wr=W)
  case atStart=>exact ⟨0,by omega,by rw [hbb];rfl,rfl,rfl⟩
  case round =>
   obtain ⟨k,hq,rfl,rfl,rfl⟩:=hrel
   by_cases hlt:k<n
   ·obtain ⟨b,off,rfl,hbn,hc⟩:=(HR.out.below hb).args (by omega)
    obtain ⟨c0,c1,c2⟩:=hc k hlt;have htk:=HT.out _ (ag_mem (l:=l) (k:=k) (by omega))
    have hsk:sumD l (k+1)≤2^60:=Nat.le_trans (sumD_mono (by omega)) HS.out
    have hss:=sumD_succ l k;rw [hss] at hsk;have hro:roomA (ag l k)=if (ag l k).1=3 then (ag l k).2.2.size / 4+1 else 1:=rfl
    have HSS:=Lib.hid hss;clear hc hss;generalize ag l k=a at *;generalize roomA a=ra at *;generalize sumD l k=sk at *;obtain ⟨kd,nn,s⟩:=a;dsimp only at *
    by_cases h3:kd=3
    ·rw [if_pos h3] at hro;have e3:(kd==3)=true:=by simpa using h3
     have w5:IntKind.i64.wrap ((((bb+sk:Nat):Int))+((s.size / 4+1:Nat):Int))=((bb+sk:Nat):Int)+((s.size / 4+1:Nat):Int):=IntWalk.i64_in _ (by omega)
     have hr1:=refRoom1_any s wr htk;generalize s.size / 4+1=rs at *;go_wp2_with (go_at_call 266;refine hr1.mono ?_;rintro e w3 ⟨rfl,rfl⟩)
     go_roundg (n-(k+1))
     case measure=>omega
     case rel=>exact ⟨k+1,by omega,by rw [HSS.out];congr 1;omega,by go_num,rfl⟩
    ·rw [if_neg h3] at hro;have e3:(kd==3)=false:=by simpa using h3
     have w5:IntKind.i64.wrap ((((bb+sk:Nat):Int))+1)=((bb+sk:Nat):Int)+1:=IntWalk.i64_in _ (by omega)
     go_wp2_with fail;go_roundg (n-(k+1))
     case measure=>omega
     case rel=>exact ⟨k+1,by omega,by rw [HSS.out];congr 1;omega,by go_num,rfl⟩
   ·obtain rfl:k=n:=by omega
    obtain rfl:v=((bb+sumD l k:Nat):Int):=by rw [HV.out,hl]
    clear HV HS;go_wp2_with fail;go_ret
    exact ⟨rfl,hb⟩
theorem refFault_any (x:InstA) (bound:Int) (w:World) (h:InstOk w w.heap.size x) :
  Calls Tryz.prog 236 #[.agg (instC x),.int .u32 bound] w fun e w'=>e=.returned (.int .i64 (rawR x.1 bound).1)∧Below w.heap.size w w':=by
 have hI:=Lib.hid h;obtain ⟨i,A,n,c⟩:=x;obtain ⟨op,ty,res,l⟩:=i;obtain ⟨hr,hn,-,htx⟩:=h;have hl:=hr.args_len;dsimp only at *;obtain ⟨v,hv⟩:∃ v,v=(rawR (op,ty,res,l) bound).1:=⟨_,rfl⟩;rw [← hv];have HV:=Lib.hid hv;have hof:=fun w=>refOf_any op w
 have hid:=fun (m:Bool) (a x:Int) (w:World)=>refId_any m a bound x w
 unfold ofV ofB at hof;clear hv;unfold instC;dsimp only;have hb:=(Below.refl w.heap.size w).alloc (Nat.le_refl _) (.cells #[.int .u16 op,.int .u32 ty,.int .u32 res,.slice A n c] 51);have k1:=Blk.new w 51 #[.int .u16 op,.int .u32 ty,.int .u32 res,.slice A n c];cases hf:formOf op with
 | none =>
  rw [hf] at hof;unfold form0 at hof;simp only [Option.isSome_none] at hof;obtain rfl:v=30:=HV.out.trans (fault_none hf);clear hf HV hid hr htx;go_enter Tryz.func236,Tryz.ntmps236;go_wp2_with (go_at_call 44;refine (hof _).mono ?_;rintro e w1 ⟨rfl,hb1⟩)
  go_ret
  exact ⟨rfl,(below_cut hb hb1 (Nat.le_refl _)).alloc (below_cut hb hb1 (Nat.le_refl _)).size _⟩
 | some f =>
  rw [hf] at hof;simp only [Option.isSome_some] at hof;have hwh:=fun w=>refWhole_any op f n w hf (by omega)
  have hroom:=fun (w:World) (h:InstOk w w.heap.size ((op,ty,res,l),A,n,c)) hs=>refRoom_any ((op,ty,res,l),A,n,c) op f w h hs
  have HF:=Lib.hid hf;have HR:=Lib.hid hr;have HT:=Lib.hid htx;clear hf hr htx;unfold formV at hof hwh hroom;unfold instC at hroom;dsimp only at hroom;go_enter Tryz.func236,Tryz.ntmps236;go_upto_region 1 with fail
  generalize w.alloc (.cells #[.int .u16 op,.int .u32 ty,.int .u32 res,.slice A n c] 51)=W at *;have y0:=k1.cell 0;simp at y0;go_upto_region 4 with (go_at_call 44;refine (hof _).mono ?_;rintro e w1 ⟨rfl,hb1⟩)
  have k2:=(k1.step hb1).alloc (.cells #[.int .u16 op,.string (bs f.name),.bool f.ty,.bool f.res,.string (bs f.fixed),.string (bs f.rest),.int .i64 f.most,.int .u8 f.part] 91);have k5:=Blk.new w1 91 #[.int .u16 op,.string (bs f.name),.bool f.ty,.bool f.res,.string (bs f.fixed),.string (bs f.rest),.int .i64 f.most,.int .u8 f.part];have hb2:=below_cut hb hb1 (Nat.le_refl _);have hb3:=hb2.alloc hb2.size (.cells #[.int .u16 op,.string (bs f.name),.bool f.ty,.bool f.res,.string (bs f.fixed),.string (bs f.rest),.int .i64 f.most,.int .u8 f.part] 91);clear k1 hb hb1 y0 hof hb2;generalize hg5:w1.heap.size=g5 at *;generalize w1.alloc (.cells _ 91)=W2 at *;clear hg5;have y1:=k2.cell 1;have y2:=k2.cell 2;have y3:=k2.cell 3;have y0:=k2.cell 0;have x2:=k5.cell 2;have x3:=k5.cell 3;have x0:=k5.cell 0;have x1:=k5.cell 1;have x4:=k5.cell 4;have x5:=k5.cell 5;have x6:=k5.cell 6;have x7:=k5.cell 7;simp at y0 y1 y2 y3 x0 x1 x2 x3 x4 x5 x6 x7
  by_cases h0:headE f.ty ty 40 bound=0
  case neg =>
   have e1:(headE f.ty ty 40 bound != 0)=true:=by simpa using h0
   obtain rfl:v=headE f.ty ty 40 bound:=by rw [HV.out];exact fault_ty HF.out h0
   clear HV h0;go_wp2_with (go_at_call 262;refine (hid _ _ _ _).mono ?_;rintro e w3 ⟨rfl,rfl⟩)
   go_ret
   exact ⟨rfl,hb3⟩
  have hid1:=fun w=>hid f.ty ty 40 w
  rw [h0] at hid1
  by_cases h1:headE f.res res 41 bound=0
  case neg =>
   have e1:(headE f.res res 41 bound != 0)=true:=by simpa using h1
   obtain rfl:v=headE f.res res 41 bound:=by rw [HV.out];exact fault_res HF.out h0 h1
   clear HV h0 h1;go_wp2_with (first | (go_at_call 262;with_reducible refine (hid1 _).mono ?_;rintro e w3 ⟨rfl,rfl⟩) | (go_at_call 262;with_reducible refine (hid _ _ _ _).mono ?_;rintro e w3 ⟨rfl,rfl⟩))
   go_ret
   exact ⟨rfl,hb3⟩
  have hid2:=fun w=>hid f.res res 41 w
  rw [h1] at hid2;have H0:=Lib.hid h0;have H1:=Lib.hid h1;clear h0 h1 hid;go_wp2_with (first | (go_at_call 262;with_reducible refine (hid1 _).mono ?_;rintro e w3 ⟨rfl,rfl⟩) | (go_at_call 262;with_reducible refine (hid2 _).mono ?_;rintro e w3 ⟨rfl,rfl⟩))
  clear hid1 hid2 y1 y2 x0 x1 x2 x3 x4 x5 x6 x7;go_loopg [4,7,8] n (fun q a u i wr=>∃ k:Nat,k+q=n∧a=.int .i64 0∧u=.int .i64 0∧i=.int .i64 (k:Nat)∧Hid (∀ j,j<k→argE op bound j (ag l j).1 (ag l j).2.1 (ag l j).2.2=0)∧Below W2.heap.size W2 wr)
  case atStart=>exact ⟨0,by omega,rfl,rfl,rfl,Lib.hid (fun j hj=>absurd hj (Nat.not_lt_zero _)),Below.refl _ _⟩
  case round =>
   obtain ⟨k,hq,rfl,rfl,rfl,HK,hbr⟩:=hrel;have hbw:=below_cut hb3 hbr (Nat.le_refl _);have k2r:=k2.step hbr;have k5r:=k5.step hbr;have y0:=k2r.cell 0;have y3:=k2r.cell 3;simp at y0 y3
   by_cases hlt:k<n
   ·obtain ⟨b,off,rfl,hbn,hc⟩:=(HR.out.below hbw).args (by omega)
    obtain ⟨c0,c1,c2⟩:=hc k hlt;have htk:=HT.out _ (ag_mem (l:=l) (k:=k) (by omega))
    have HK2:=fun (h:argE op bound k (ag l k).1 (ag l k).2.1 (ag l k).2.2=0)=>Lib.hid (show ∀ j,j<k+1→argE op bound j (ag l j).1 (ag l j).2.1 (ag l j).2.2=0 from fun j hj=>by
     rcases Nat.lt_or_ge j k with h' | h'
     ·exact HK.out j h'
     ·obtain rfl:j=k:=by omega
      exact h)
    have HB:Hid (argE op bound k (ag l k).1 (ag l k).2.1 (ag l k).2.2≠0→v=argE op bound k (ag l k).1 (ag l k).2.1 (ag l k).2.2):=Lib.hid (fun h=>by
     rw [HV.out];exact fault_arg HF.out H0.out H1.out (show k<l.length by omega) HK.out h)
    have HKK:=Lib.hid HK2;have hle:=fun w=>refLetter_any op k w (by omega)
    have hwr:=fun w=>refWrong_any op bound k (ag l k).1 (ag l k).2.1 (ag l k).2.2 w htk
    clear hc HK HK2 htk;generalize argE op bound k (ag l k).1 (ag l k).2.1 (ag l k).2.2=ae at *;generalize ag l k=a at *;generalize letterOf op k=lt at *;obtain ⟨kd,nn,s⟩:=a;dsimp only at *;have hS0:H5 wr ⟨w.heap.size,0,none⟩ (.int .u16 op) ⟨w.heap.size,3,none⟩ (.slice (some ⟨b,off,none⟩) n c) ⟨b,off+k*3,none⟩ (.int .u8 kd) ⟨b,off+k*3+1,none⟩ (.int .u32 nn) ⟨b,off+k*3+2,none⟩ (.string s) wr:=⟨y0,y3,c0,c1,c2,Below.refl _ _⟩;go_upto_region 13 with fail
    go_cut [7] (fun u wx=>u=.int .i64 ae∧Below wr.heap.size wr wx)
    case first =>
     go_region_held3 (H5 wr ⟨w.heap.size,0,none⟩ (.int .u16 op) ⟨w.heap.size,3,none⟩ (.slice (some ⟨b,off,none⟩) n c) ⟨b,off+k*3,none⟩ (.int .u8 kd) ⟨b,off+k*3+1,none⟩ (.int .u32 nn) ⟨b,off+k*3+2,none⟩ (.string s)) (first | with_reducible exact hS0.drew_ | with_reducible assumption | with_reducible exact H5.call (by assumption) hbq | fail) ((first | (go_at_call 264;(with_reducible refine (hle _).mono ?_);rintro e w' ⟨rfl,hbq⟩) | (go_at_call 263;(with_reducible refine (hwr _).mono ?_);rintro e w' ⟨rfl,hbq⟩)))
     all_goals
      have B1:Below wr.heap.size wr w':=H5.is (by assumption)
      go_wp2_with fail;go_meet
      exact ⟨rfl,B1⟩
    obtain ⟨rfl,hb6⟩:=hcut;have hb7:=below_cut hbr hb6 (Nat.le_refl _);clear hS0 hle hwr y0 y3 c0 c1 c2
    by_cases hae:ae=0
    ·have HK3:=HKK.out hae;have e1:(ae != 0)=false:=by simpa using hae
     clear HB HKK;go_wp2_with fail;go_roundg (n-(k+1))
     case measure=>omega
     case rel=>exact ⟨k+1,by omega,rfl,by rw [hae],by go_num,HK3,hb7⟩
    ·have e1:(ae != 0)=true:=by simpa using hae
     obtain rfl:v=ae:=HB.out hae;clear HB HKK hae;go_wp2_with fail;go_ret
     exact ⟨rfl,below_cut hb3 hb7 (Nat.le_refl _)⟩
   ·obtain rfl:k=n:=by omega
    have hall:=fault_all (i:=(op,ty,res,l)) HF.out H0.out H1.out (fun j hj=>HK.out j (by simpa [hl] using hj))
    have hsum:sumD l l.length≤2^60:=by
     have:=sumD_bd (l:=l) (n:=l.length) (fun j hj h3=>by
      have hz:=HK.out j (by omega)
      refine arg_text (op:=op) (kd:=(ag l j).1) (n:=(ag l j).2.1) (s:=(ag l j).2.2) ?_ (by simpa using h3)
      unfold argE at hz;cases hbad:argBad op j (ag l j).1 (ag l j).2.1 (ag l j).2.2 with
      | false=>rfl
      | true=>rw [hbad] at hz;cases hz) (fun j hj=>HT.out _ (ag_mem hj)) l.length (Nat.le_refl _)
     omega
    dsimp only at hall;rw [hl] at hall;have hr2:=fun w h=>hroom w h hsum
    rw [hl] at hr2;have hI2:InstOk wr wr.heap.size ((op,ty,res,l),A,k,c):=(hI.out.keep hbw).more hbw.size;have HI2:=Lib.hid hI2;have HV3:=Lib.hid (HV.out.trans hall);have x0:=k5r.cell 0;have x1:=k5r.cell 1;have x2:=k5r.cell 2;have x3:=k5r.cell 3;have x4:=k5r.cell 4;have x5:=k5r.cell 5;have x6:=k5r.cell 6;have x7:=k5r.cell 7;simp at x0 x1 x2 x3 x4 x5 x6 x7;have hwh2:=hwh wr;clear hroom hwh hsum hall HV hI2;cases hw:wholeB f k with
    | false =>
     rw [hw] at hwh2 HV3;obtain rfl:v=42:=HV3.out;clear HV3 hr2 hw;go_wp2_with (go_at_call 265;refine hwh2.mono ?_;rintro e w3 ⟨rfl,hb4⟩)
     go_ret
     exact ⟨rfl,below_cut hbw hb4 (Nat.le_refl _)⟩
    | true =>
     rw [hw] at hwh2 HV3;have hv3:=HV3.out;rw [if_pos rfl] at hv3;clear HV3 hw;generalize (1+(if f.ty then 1 else 0)+(if f.res then 1 else 0)+sumD l k:Nat)=tt at *
     have HV4:=Lib.hid hv3;clear hv3;go_upto_region 18 with (go_at_call 265;refine hwh2.mono ?_;rintro e w3 ⟨rfl,hb4⟩)
     have hb5:=below_cut hbw hb4 (Nat.le_refl _);have k2s:=k2r.step hb4;have k5s:=k5r.step hb4;have hr3:=hr2 w3 (HI2.out.step hb4);clear hr2 hwh2 x0 x1 x2 x3 x4 x5 x6 x7 y0 y3;have x0:=k5s.cell 0;have x1:=k5s.cell 1;have x2:=k5s.cell 2;have x3:=k5s.cell 3;have x4:=k5s.cell 4;have x5:=k5s.cell 5;have x6:=k5s.cell 6;have x7:=k5s.cell 7;have y0:=k2s.cell 0;have y1:=k2s.cell 1;have y2:=k2s.cell 2;have y3:=k2s.cell 3;simp at x0 x1 x2 x3 x4 x5 x6 x7 y0 y1 y2 y3
     by_cases h6:65535<tt
     ·obtain rfl:v=25:=HV4.out.trans (if_pos h6);have d1:decide ((65535:Int)<(tt:Nat))=true:=by rw [decide_eq_true_eq];omega
      have d2:decide (((tt:Nat):Int)>65535)=true:=d1;clear HV4;go_wp2_with (go_at_call 237;refine hr3.mono ?_;rintro e w6 ⟨rfl,hb6⟩)
      go_ret
      exact ⟨rfl,below_cut hb5 hb6 (Nat.le_refl _)⟩
     ·obtain rfl:v=0:=HV4.out.trans (if_neg h6);have d1:decide ((65535:Int)<(tt:Nat))=false:=by rw [decide_eq_false_iff_not];omega
      have d2:decide (((tt:Nat):Int)>65535)=false:=d1;clear HV4;go_wp2_with (go_at_call 237;refine hr3.mono ?_;rintro e w6 ⟨rfl,hb6⟩)
      go_ret
      exact ⟨rfl,below_cut hb5 hb6 (Nat.le_refl _)⟩
end
end Go.Proofs.YteelmakkogdieaaGreatDoor
