/- Walks: the method letter of a form; grammar.Letter. -/
import Derived.Deep.LoopGhost
import Derived.Test.YtdebjkiilnhgpaaGreatDoorCTD
import Derived.Deep.RegionHeld3
import Derived.BigRegion
import Derived.Test.YtdebjkiilnhgpaaGreatDoorCTA
set_option maxRecDepth 100000
set_option maxHeartbeats 2000000
namespace Go.Proofs.YtdebjkiilnhgpaaGreatDoor
section
open Go.RowKit
theorem letter_any (op:Int) (s0:ByteArray) (T R:Bool) (s2 s3:ByteArray) (m part:Int) (i:Nat) (w:World) (hi:i<2^62) (hs:s2.size≤60) (hs3:s3.size≤60) (hm:0≤m∧m≤9) :
  Calls Tryz.prog 156 #[.agg (formC op s0 T R s2 s3 m part),.int .i64 (i:Nat)] w fun e w'=>e=.returned (.int .u8 (letterB s2 s3 m i))∧Below w.heap.size w w':=by
 have hf:=fun w=>fixed_any op s0 T R s2 s3 m part i w
 have hr:=fun w=>rest_any op s0 T R s2 s3 m part i w hi hs hs3 hm
 obtain ⟨x,hx⟩:∃ x,x=fixedB s2 i:=⟨_,rfl⟩;obtain ⟨y,hy⟩:∃ y,y=restB s2 s3 m i:=⟨_,rfl⟩;have hv:letterB s2 s3 m i=if x=0 then y else x:=by unfold letterB;rw [← hx,← hy]
 obtain ⟨v,hv'⟩:∃ v,v=letterB s2 s3 m i:=⟨_,rfl⟩;rw [← hv'] at hv ⊢;have HV:=Lib.hid hv;rw [← hx] at hf;rw [← hy] at hr;clear hx hy hv hv' hs hs3 hm;unfold formC at *;have hmf:∀ (fn:Fn) (first cap:Array Value) (w:World),(Instr.makeFunc fn first cap).run Tryz.prog w=.ok (.func fn first cap) w:=fun _ _ _ _=>rfl
 go_enter Tryz.func156,Tryz.ntmps156;go_wp2_with fail;have hb0:Below w.heap.size w (w.alloc (.cells #[.int .u16 op,.string s0,.bool T,.bool R,.string s2,.string s3,.int .i64 m,.int .u8 part] 213)):=(Below.refl w.heap.size w).alloc (Nat.le_refl _) _;generalize (#[.int .u16 op,.string s0,.bool T,.bool R,.string s2,.string s3,.int .i64 m,.int .u8 part]:Array Value)=V at *;have hw1:(w.alloc (.cells V 213)).heap.size=w.heap.size+1:=by simp
 have k1:=Blk.new (w.alloc (.cells V 213)) 214 #[.func (.func 162) #[.agg V] #[],.func (.func 163) #[.agg V] #[]];have hb:=hb0.alloc hb0.size (.cells #[.func (.func 162) #[.agg V] #[],.func (.func 163) #[.agg V] #[]] 214);rw [hw1] at k1;clear hb0 hw1;generalize (w.alloc (.cells V 213)).alloc (.cells #[.func (.func 162) #[.agg V] #[],.func (.func 163) #[.agg V] #[]] 214)=w1 at *;go_loopg [16] 2 (fun q v wr=>∃ k:Nat,k+q=2∧v=.int .i64 (k:Nat)∧(k=0∨x=0)∧(k=0∨k=1∨y=0)∧Blk wr (w.heap.size+1) 214 #[.func (.func 162) #[.agg V] #[],.func (.func 163) #[.agg V] #[]]∧Below w.heap.size w wr)
 case atStart=>exact ⟨0,rfl,rfl,.inl rfl,.inl rfl,k1,hb⟩
 case round =>
  obtain ⟨k,hq,rfl,hx,hy,kr,hbr⟩:=hrel;have z0:=kr.cell 0;have z1:=kr.cell 1;simp at z0 z1
  match k,hq,hx,hy with
  | 0,hq,_,_ =>
   obtain rfl:gk=2:=by omega
   have hr:=Lib.hid hr
   by_cases hx0:x=0
   ·have hxb:(x != 0)=false:=by rw [hx0];rfl
    go_wp2_with (go_at_call 162;refine (hf _).mono ?_;rintro e w' ⟨rfl,hbb⟩)
    go_roundg 1
    case measure=>omega
    case rel=>exact ⟨1,rfl,rfl,.inr hx0,.inr (.inl rfl),kr.below hbb kr.lt,below_cut hbr hbb (Nat.le_refl _)⟩
   ·have hxb:(x != 0)=true:=by simpa using hx0
    go_wp2_with (go_at_call 162;refine (hf _).mono ?_;rintro e w' ⟨rfl,hbb⟩)
    go_ret
    exact ⟨by rw [HV.out,if_neg hx0];rfl,below_cut hbr hbb (Nat.le_refl _)⟩
  | 1,hq,hx,_ =>
   obtain rfl:gk=1:=by omega
   have hx0:x=0:=hx.resolve_left (by decide)
   clear hf
   by_cases hy0:y=0
   ·have hyb:(y != 0)=false:=by rw [hy0];rfl
    go_wp2_with (go_at_call 163;refine (hr _).mono ?_;rintro e w' ⟨rfl,hbb⟩)
    go_roundg 0
    case measure=>omega
    case rel=>exact ⟨2,rfl,rfl,.inr hx0,.inr (.inr hy0),kr.below hbb kr.lt,below_cut hbr hbb (Nat.le_refl _)⟩
   ·have hyb:(y != 0)=true:=by simpa using hy0
    go_wp2_with (go_at_call 163;refine (hr _).mono ?_;rintro e w' ⟨rfl,hbb⟩)
    go_ret
    exact ⟨by rw [HV.out,if_pos hx0];rfl,below_cut hbr hbb (Nat.le_refl _)⟩
  | k+2,hq,hx,hy =>
   obtain rfl:gk=0:=by omega
   obtain rfl:k=0:=by omega
   have hx0:x=0:=hx.resolve_left (by omega)
   have hy0:y=0:=(hy.resolve_left (by omega)).resolve_left (by omega)
   have hx1:=Lib.hid hx0;have hy1:=Lib.hid hy0;clear hf hr hx hy hx0 hy0;go_wp2_with fail;go_ret
   exact ⟨by rw [HV.out,if_pos hx1.out,hy1.out];rfl,hbr⟩
theorem formOf_ok {op:Int} {f:FormI} (h:formOf op=some f):f=formT (rowT op)∧OkRow (rowT op):=by
 unfold formOf at h
 split at h
 ·cases h
 ·rename_i hz
  injection h with h
  refine ⟨h.symm,?_⟩
  rcases rowT_or op with h | h
  ·rw [h] at hz;exact absurd rfl hz
  ·exact okRow_is h
theorem formOf_bd {op:Int} {f:FormI} (h:formOf op=some f):(bs f.fixed).size≤60∧(bs f.rest).size≤60∧0≤f.most∧f.most≤9:=by
 obtain ⟨rfl,hok⟩:=formOf_ok h;have h2:=hok.size;have h3:(rowT op).data.toList.length=(rowT op).size:=by simp
 have hl:∀ j,((fdS (rowT op).data.toList).2 j).length≤60:=fun j=>by have:=fdS_len (rowT op).data.toList j;omega
 refine ⟨by rw [bs_size];exact hl 2,by rw [bs_size];exact hl 3,?_⟩
 show 0≤dg ((fdS (rowT op).data.toList).2 4)∧dg ((fdS (rowT op).data.toList).2 4)≤9
 rcases hok.d4 with h4 | ⟨c,h4,h5,h6⟩
 ·rw [h4];exact ⟨Int.le_refl _,by decide⟩
 ·rw [h4];exact ⟨by show (0:Int)≤(c.toNat:Int)-48;omega,by show (c.toNat:Int)-48≤9;omega⟩
def ofV (op:Int):Array Value:=match formOf op with
 | none=>form0
 | some f=>formV op f
def ofB (op:Int):Bool:=(formOf op).isSome
theorem of_any (op:Int) (w:World):Calls Tryz.prog 58 #[.int .u16 op] w fun e w'=>e=.returned (.tuple #[.agg (ofV op),.bool (ofB op)])∧Below w.heap.size w w':=by
 unfold ofV ofB;cases h:formOf op with
 | none=>exact of_none op w h
 | some f=>exact of_some op w f h
theorem letterV_any (op:Int) (i:Nat) (w:World) (hi:i<2^62) :
  Calls Tryz.prog 156 #[.agg (ofV op),.int .i64 (i:Nat)] w fun e w'=>e=.returned (.int .u8 (letterOf op i))∧Below w.heap.size w w':=by
 unfold ofV letterOf;cases h:formOf op with
 | none =>
  have:=letter_any 0 ⟨#[]⟩ false false ⟨#[]⟩ ⟨#[]⟩ 0 0 i w hi (by decide) (by decide) (by decide)
  rw [letterB_none] at this;exact this
 | some f =>
  obtain ⟨h1,h2,h3⟩:=formOf_bd h;exact letter_any op _ _ _ _ _ _ _ i w hi h1 h2 h3
theorem ofV_eight (op:Int):∃ op' s0 T R s2 s3 m part,ofV op=#[.int .u16 op',.string s0,.bool T,.bool R,.string s2,.string s3,.int .i64 m,.int .u8 part]:=by
 unfold ofV;cases formOf op with
 | none=>exact ⟨0,_,_,_,_,_,_,_,rfl⟩
 | some f=>exact ⟨op,_,_,_,_,_,_,_,rfl⟩
theorem Letter_any (op:Int) (i:Nat) (w:World) (hi:i<2^62) :
  Calls Tryz.prog 149 #[.int .u16 op,.int .i64 (i:Nat)] w fun e w'=>e=.returned (.int .u8 (letterOf op i))∧Below w.heap.size w w':=by
 have ho:=of_any op;have hl:=fun w=>letterV_any op i w hi
 obtain ⟨op',s0,T,R,s2,s3,m,part,hV⟩:=ofV_eight op;rw [hV] at ho hl;clear hV;generalize letterOf op i=v at *;generalize ofB op=b at *;go_enter Tryz.func149,Tryz.ntmps149;go_wp2_with (go_at_call 58;refine (ho _).mono ?_;rintro e w1 ⟨rfl,hb1⟩)
 go_wp2_with (go_at_call 156;refine (hl _).mono ?_;rintro e w2 ⟨rfl,hb2⟩)
 go_ret
 exact ⟨rfl,below_cut (hb1.alloc hb1.size _) hb2 (Nat.le_refl _)⟩
end
section
open Go.RowKit
def kindsAt (op:Int) (l:List Int) (k:Nat):Prop:=∀ i,i<k→ix l i≠0∧kindT (letterOf op i)=ix l i
def tailB (f:FormI) (n:Nat):Bool:=decide (f.fixed.length≤n)&&(f.rest.length==0||(n-f.fixed.length) % f.rest.length==0)
open Classical in
noncomputable def fitsB (op:Int) (l:List Int):Bool:=match formOf op with
 | none=>false
 | some f=>decide (kindsAt op l l.length)&&tailB f l.length
theorem kindsAt_zero (op:Int) (l:List Int):kindsAt op l 0:=fun _ h=>absurd h (Nat.not_lt_zero _)
theorem kindsAt_succ {op:Int} {l:List Int} {k:Nat} (h:kindsAt op l k) (h0:ix l k≠0) (h1:kindT (letterOf op k)=ix l k):kindsAt op l (k+1):=by
 intro i hi
 rcases Nat.lt_succ_iff_lt_or_eq.1 hi with h' | rfl
 ·exact h i h'
 ·exact ⟨h0,h1⟩
theorem fitsB_not {op:Int} {l:List Int} {k:Nat} (hk:k<l.length) (h:ix l k=0∨¬ kindT (letterOf op k)=ix l k):fitsB op l=false:=by
 unfold fitsB;cases formOf op with
 | none=>rfl
 | some f =>
  have:¬ kindsAt op l l.length:=fun hh=>by
   obtain ⟨h1,h2⟩:=hh k hk
   rcases h with h | h
   ·exact h1 h
   ·exact h h2
  simp [this]
theorem fitsB_all {op:Int} {l:List Int} {f:FormI} (hf:formOf op=some f) (h:kindsAt op l l.length):fitsB op l=tailB f l.length:=by
 unfold fitsB;rw [hf];simp [h]
theorem fits_any (op:Int) (A:Option Addr) (n c:Nat) (l:List Int) (w:World) (hn:n≤35184372087808) (hu:Under 256 l) (hr:Reads w w.heap.size 1 A n (Ints .u8 l)) :
  Calls Tryz.prog 153 #[.int .u16 op,.slice A n c] w fun e w'=>(∃ p,e=.returned (.tuple #[.int .i64 p,.bool (fitsB op l)]))∧Below w.heap.size w w':=by
 have ho:=of_any op;have hl:=fun i w hi=>letterV_any op i w hi
 have hk:=kind_any;have hlen:=hr.len;cases hf:formOf op with
 | none =>
  have hv:fitsB op l=false:=by unfold fitsB;rw [hf]
  rw [hv];obtain ⟨op',s0,T,R,s2,s3,m,part,hV⟩:=ofV_eight op;rw [hV] at ho;have hB:ofB op=false:=by unfold ofB;rw [hf];rfl
  rw [hB] at ho;clear hV hB hf hv hl hk hlen hr;go_enter Tryz.func153,Tryz.ntmps153;go_wp2_with (go_at_call 58;refine (ho _).mono ?_;rintro e w1 ⟨rfl,hb1⟩)
  go_ret2
  exact ⟨⟨_,rfl⟩,hb1.alloc hb1.size _⟩
 | some f =>
  have hV:ofV op=#[.int .u16 op,.string (bs f.name),.bool f.ty,.bool f.res,.string (bs f.fixed),.string (bs f.rest),.int .i64 f.most,.int .u8 f.part]:=by unfold ofV;rw [hf];rfl
  have hB:ofB op=true:=by unfold ofB;rw [hf];rfl
  have hbd:=formOf_bd hf;have hT:tailB f n=(decide ((bs f.fixed).size≤n)&&((bs f.rest).size==0||(n-(bs f.fixed).size) % (bs f.rest).size==0)):=by unfold tailB;rw [bs_size,bs_size]
  have HF:=Lib.hid hf;have HT:=Lib.hid hT;rw [hV] at ho hl;rw [hB] at ho;clear hV hB hf hT;obtain ⟨hs2,hs3,-,-⟩:=hbd;generalize bs f.name=s0 at *;generalize bs f.fixed=s2 at *;generalize bs f.rest=s3 at *;generalize f.ty=T at *;generalize f.res=R at *;generalize f.most=m at *;generalize f.part=part at *;have he1:s3.size=0→s3.toList.isEmpty=true:=fun h=>by rw [beq_empty s3 h,ByteArray.toList_eq];rfl
  have he2:s3.size≠0→s3.toList.isEmpty=false:=ne_isEmpty;have HE1:=Lib.hid he1;have HE2:=Lib.hid he2;clear he1 he2;obtain ⟨v,hv⟩:∃ v,v=fitsB op l:=⟨_,rfl⟩;rw [← hv];have HV:=Lib.hid hv;have HK:=Lib.hid hk;have HL:=Lib.hid hl;clear hv hk hl;go_enter Tryz.func153,Tryz.ntmps153;go_wp2_with (go_at_call 58;refine (ho _).mono ?_;rintro e w1 ⟨rfl,hb1⟩)
  have hb:=(hb1.alloc hb1.size (.cells #[.int .u16 op,.string s0,.bool T,.bool R,.string s2,.string s3,.int .i64 m,.int .u8 part] 129));have hb3:=hb.alloc hb.size (.cells #[.int .u16 op,.string s0,.bool T,.bool R,.string s2,.string s3,.int .i64 m,.int .u8 part] 213);have k8:=Blk.new (w1.alloc (.cells #[.int .u16 op,.string s0,.bool T,.bool R,.string s2,.string s3,.int .i64 m,.int .u8 part] 129)) 213 #[.int .u16 op,.string s0,.bool T,.bool R,.string s2,.string s3,.int .i64 m,.int .u8 part];have hz:(w1.alloc (.cells #[.int .u16 op,.string s0,.bool T,.bool R,.string s2,.string s3,.int .i64 m,.int .u8 part] 129)).heap.size=w1.heap.size+1:=by simp
  rw [hz] at k8;clear hz hb hb1 ho;generalize (w1.alloc (.cells #[.int .u16 op,.string s0,.bool T,.bool R,.string s2,.string s3,.int .i64 m,.int .u8 part] 129)).alloc (.cells #[.int .u16 op,.string s0,.bool T,.bool R,.string s2,.string s3,.int .i64 m,.int .u8 part] 213)=w3 at *;generalize w1.heap.size+1=g8 at *;go_loopg [23] n (fun q v wr=>∃ k:Nat,k+q=n∧v=.int .i64 (k:Nat)∧Hid (kindsAt op l k)∧Blk wr g8 213 #[.int .u16 op,.string s0,.bool T,.bool R,.string s2,.string s3,.int .i64 m,.int .u8 part]∧Below w.heap.size w wr)
  case atStart=>exact ⟨0,by omega,rfl,Lib.hid (kindsAt_zero _ _),k8,hb3⟩
  case round =>
   obtain ⟨k,hq,rfl,hKA,kr,hbr⟩:=hrel;obtain ⟨x0,x1,x2,x3,x4,x5,x6,x7⟩:=eight_ kr.cell
   by_cases hlt:k<n
   ·obtain ⟨ad,rfl,hadb,hc⟩:=(hr.below hbr).int_at hlt;have hx:=hu.ix (by decide) k
    obtain ⟨y,hy⟩:∃ y,y=letterOf op k:=⟨_,rfl⟩;obtain ⟨z,hz⟩:∃ z,z=kindT y:=⟨_,rfl⟩;have hl:=fun w=>HL.out k w (by omega)
    have hk:=fun w=>HK.out y w
    rw [← hy] at hl;rw [← hz] at hk;have hzz:kindT (letterOf op k)=z:=by rw [← hy,← hz]
    have HZ:=Lib.hid hzz;clear hy hz hzz
    by_cases h0:ix l k=0
    ·have h0b:(ix l k==0)=true:=by rw [h0];rfl
     have hF:=Lib.hid (fitsB_not (op:=op) (by omega) (.inl h0))
     clear h0 hl hk;go_wp2_with fail;go_ret2
     exact ⟨⟨_,by rw [HV.out,hF.out];rfl⟩,hbr⟩
    ·have h0b:(ix l k==0)=false:=by simpa using h0
     by_cases h1:z=ix l k
     ·have h1b:(z != ix l k)=false:=by rw [h1];simp
      have hKA2:=Lib.hid (kindsAt_succ hKA.out h0 (HZ.out.trans h1));clear h0 h1;go_wp2_with (go_at_call 156;refine (hl _).mono ?_;rintro e w4 ⟨rfl,hb4⟩)
      go_wp2_with (go_at_call 150;refine (hk _).mono ?_;rintro e w5 ⟨rfl,rfl⟩)
      go_roundg (n-(k+1))
      case measure=>omega
      case rel=>exact ⟨k+1,by omega,rfl,hKA2,kr.below hb4 kr.lt,below_cut hbr hb4 (Nat.le_refl _)⟩
     ·have h1b:(z != ix l k)=true:=by simpa using h1
      have hF:=Lib.hid (fitsB_not (op:=op) (l:=l) (k:=k) (by omega) (.inr (by rw [HZ.out];exact h1)))
      clear h0 h1;go_wp2_with (go_at_call 156;refine (hl _).mono ?_;rintro e w4 ⟨rfl,hb4⟩)
      go_wp2_with (go_at_call 150;refine (hk _).mono ?_;rintro e w5 ⟨rfl,rfl⟩)
      go_ret2
      exact ⟨⟨_,by rw [HV.out,hF.out];rfl⟩,below_cut hbr hb4 (Nat.le_refl _)⟩
   ·obtain rfl:gk=0:=by omega
    obtain rfl:k=n:=by omega
    have hF:v=tailB f k:=by
     rw [HV.out,fitsB_all HF.out (by rw [hlen];exact hKA.out),hlen]
    rw [HT.out] at hF;have HFin:=Lib.hid hF;clear hF hKA;have hsub:IntKind.i64.wrap ((k:Int)-(s2.size:Int))=(k:Int)-(s2.size:Int):=by simp [IntKind.wrap,IntKind.signed,IntKind.bits];omega
    by_cases hm:k<s2.size
    ·have hml:(k:Int)-(s2.size:Int)<0:=by omega
     go_wp2_with fail;go_ret2
     exact ⟨⟨_,by rw [HFin.out,decide_eq_false (show ¬ (s2.size≤k) by omega)];rfl⟩,hbr⟩
    ·have hml:¬ ((k:Int)-(s2.size:Int)<0):=by omega
     by_cases h3:s3.size=0
     ·have he:=HE1.out h3;go_wp2_with fail;go_ret2
      exact ⟨⟨_,by rw [HFin.out,decide_eq_true (show s2.size≤k by omega),h3];rfl⟩,hbr⟩
     ·have he:=HE2.out h3;obtain ⟨j,hj⟩:∃ j,k=s2.size+j:=⟨k-s2.size,by omega⟩
      have hj1:(k:Int)-(s2.size:Int)=(j:Int):=by omega
      have hj2:k-s2.size=j:=by omega
      rw [hj1] at hsub hml;have hz0:((s3.size:Int)==0)=false:=by rw [beq_eq_false_iff_ne];omega
      have hmm:(j:Int) % (s3.size:Int)=((j % s3.size:Nat):Int):=rfl;have HJ2:=Lib.hid hj2;have hmk:Hid ((k-s2.size) % s3.size=j % s3.size):=Lib.hid (by rw [hj2])
      clear hj hj2;generalize j % s3.size=r at *
      by_cases hr0:r=0
      ·have hr0b:((r:Int) != 0)=false:=by rw [hr0];rfl
       go_wp2_with fail;go_ret2
       have hv:v=true:=by rw [HFin.out,decide_eq_true (show s2.size≤k by omega),hmk.out,hr0];simp
       exact ⟨⟨_,by rw [hv];rfl⟩,hbr⟩
      ·have hr0b:((r:Int) != 0)=true:=by rw [bne_iff_ne];omega
       go_wp2_with fail;go_ret2
       have hv:v=false:=by rw [HFin.out,decide_eq_true (show s2.size≤k by omega),hmk.out,show (r==0)=false from by simpa using hr0,show (s3.size==0)=false from by simpa using h3];rfl
       exact ⟨⟨_,by rw [hv];rfl⟩,hbr⟩
end
section
open Go.RowKit
theorem number_any (s:ByteArray) (w:World) (ha:∀ c∈s.data.toList,c.toNat<128) :
  Calls Tryz.prog 168 #[.string s] w fun e w'=>e=.returned (.int .u32 (numT s.data.toList))∧Below w.heap.size w w':=by
 have h0:IterAt (w.iter s 0) w.heap.size s 0:=IterAt.new w s 0;have hb0:Below w.heap.size w (w.iter s 0):=(Below.refl _ _).alloc (Nat.le_refl _) (.stringIter s 0);have HA:=Lib.hid ha;clear ha;go_enter Tryz.func168,Tryz.ntmps168;go_wp2_with fail;generalize w.iter s 0=w1 at *;go_loopg [3] s.size (fun q v wr=>∃ pos:Nat,pos+q=s.size∧v=.int .u32 (numT (s.data.toList.take pos))∧IterAt wr w.heap.size s pos∧Below w.heap.size w wr)
 case atStart=>exact ⟨0,by omega,rfl,h0,hb0⟩
 case round =>
  obtain ⟨pos,hq,rfl,hit,hbr⟩:=hrel
  by_cases hp:pos<s.size
  ·have hc:=HA.out s[pos] (by show s.data[pos]'hp∈s.data.toList;rw [Array.mem_toList_iff];exact Array.getElem_mem _)
   have hnx:=fun ty=>run_next_at (P:=Tryz.prog) hit ty hp hc
   have hn:=numT_snoc (s.data.toList.take pos) s[pos];rw [← ba_snoc s pos hp] at hn;have HN:=Lib.hid hn;have hit2:=hit.put (pos+1);have hb2:=below_putIter (.stringIter s (pos+1)) hbr (Nat.le_refl w.heap.size);have hbd:=numT_bd (s.data.toList.take pos);clear hn hit;generalize s[pos]=c at *;generalize numT (s.data.toList.take pos)=n at *;go_wp2_with fail;go_roundg (s.size-(pos+1))
   case measure=>omega
   case rel=>exact ⟨pos+1,by omega,by rw [HN.out];simp,hit2,hb2⟩
  ·obtain rfl:gk=0:=by omega
   obtain rfl:pos=s.size:=by omega
   have hnx:=fun ty=>run_next_done (P:=Tryz.prog) hit ty hp
   rw [ba_all s];clear hit;go_wp2_with fail;go_ret
   exact ⟨rfl,hbr⟩
end
end Go.Proofs.YtdebjkiilnhgpaaGreatDoor
