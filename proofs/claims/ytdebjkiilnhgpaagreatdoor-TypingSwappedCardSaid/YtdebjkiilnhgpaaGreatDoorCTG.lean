/- Walks: the writer's arg. -/
import Derived.Deep.QuietTactic
import Derived.BigQuiet
import Derived.Test.YtdebjkiilnhgpaaGreatDoorCTF
import Derived.Test.YtdebjkiilnhgpaaGreatDoorCTB
set_option maxRecDepth 100000
set_option maxHeartbeats 4000000
namespace Go.Proofs.YtdebjkiilnhgpaaGreatDoor
section
open Go.RowKit
def argBad (op:Int) (k:Nat) (kd n:Int) (s:ByteArray):Bool:=(letterOf op k==0)||(kd != kindT (letterOf op k))||((kd==3)&&(n != 0))||(!(kd==3)&&!s.toList.isEmpty)
def argE (op bound:Int) (k:Nat) (kd n:Int) (s:ByteArray):Int :=
 if argBad op k kd n s then 42 else if kd==3 then txE s else if kd==1 then idE n bound else if kd==4 then namedE (letterOf op k) n else 0
def argW (op:Int) (k:Nat) (kd n:Int) (s:ByteArray):List Int:=if argBad op k kd n s then [] else if kd==3 then txW s else [n]
def argR (op:Int) (k:Nat) (kd n:Int) (s:ByteArray):Nat:=if argBad op k kd n s then 0 else if kd==3 then txR s else 1
theorem three_ {w:World} {g:Nat} {t:TypeId} {x0 x1 x2:Value} (h:Blk w g t #[x0,x1,x2]):w.cell? ⟨g,0,none⟩=some x0∧w.cell? ⟨g,1,none⟩=some x1∧w.cell? ⟨g,2,none⟩=some x2 :=
 ⟨h.cell 0,h.cell 1,h.cell 2⟩
theorem below_dN {B:Nat} {a w:World} (h:Below B a w) (j:Nat):Below B a (w.drewN j):=⟨h.os,h.tape,h.output,h.size,h.block⟩
theorem WrS.drewN_ {B g:Nat} {op bound:Int} {ws:List Int} {room:Int} {W:World} (h:WrS B g op bound ws room W) (j:Nat):WrS B g op bound ws room (W.drewN j):=h
theorem arg_any (B g:Nat) (op bound:Int) (ws:List Int) (room:Int) (k:Nat) (kd n:Int) (s:ByteArray) (w:World) (h:WrS B g op bound ws room w) (hB:B≤w.heap.size) (hl:ws.length≤8796093022208) (hr:0≤room∧room<2^61) (hs:s.size≤140737488351232) (hk:k<2^62) :
  Calls Tryz.prog 138 #[.pointer (some ⟨g,0,none⟩),.int .i64 (k:Nat),.agg #[.int .u8 kd,.int .u32 n,.string s]] w fun e w'=>e=.returned (.int .i64 (argE op bound k kd n s))∧WrS B g op bound (ws++argW op k kd n s) (room+argR op k kd n s) w'∧Below B w w':=by
 have hlet:=fun w=>Letter_any op k w hk
 have hkind':∀ c w,Calls Tryz.prog 150 #[.int .u8 c] w fun e w'=>e=.returned (.int .u8 (kindT c))∧w'=w:=fun c w=>(kind_any c w).mono (by rintro e w' ⟨h1,h2⟩;exact ⟨h1,h2.symm⟩)
 have hid:=fun w=>id_any n bound w
 have hid':∀ w,Calls Tryz.prog 148 #[.int .u32 n,.int .u32 bound] w fun e w'=>e=.returned (.int .i64 (idE n bound))∧w'=w:=fun w=>(id_any n bound w).mono (by rintro e w' ⟨h1,h2⟩;exact ⟨h1,h2.symm⟩)
 have hnm:=fun w=>named_any (letterOf op k) n w
 have htx:=fun w h hB=>text_any B g op bound ws room s w h hB hl hr hs
 have hpt:=fun w h hB=>put_any B g op bound ws room n w h hB hl (by omega)
 unfold argE argW argR argBad;generalize letterOf op k=lt at *;have hki:=hkind' lt;generalize kindT lt=kl at *;generalize txE s=te at *;generalize txW s=tw at *;generalize txR s=tr at *;generalize idE n bound=ie at *;generalize namedE lt n=ne at *;clear hkind' hid;have h1:=h.step ((Below.refl w.heap.size w).alloc (Nat.le_refl _) (.cells #[.int .u8 kd,.int .u32 n,.string s] 44));have hb1:=(Below.refl B w).alloc hB (.cells #[.int .u8 kd,.int .u32 n,.string s] 44);have k1:=Blk.new w 44 #[.int .u8 kd,.int .u32 n,.string s];obtain ⟨y8,y0,y10⟩:=h1.bound_
 rcases e1:(lt==0) with _ | _
 ·rcases e2:(kd != kl) with _ | _
  ·rcases e3:(kd==3) with _ | _
   ·rcases e5:s.toList.isEmpty with _ | _
    ·simp only [Bool.false_or,Bool.or_false,Bool.not_false,Bool.and_self,Bool.false_and,if_true,List.append_nil];clear htx hpt hnm hid';go_enter Tryz.func138,Tryz.ntmps138;go_wp2_with (go_at_call 149;refine (hlet _).mono ?_;rintro e w2 ⟨rfl,hb2⟩;have h2:=h1.step hb2;have k2:=k1.step hb2;have hbb:=below_cut hb1 hb2 hB;obtain ⟨c0,c1,c2⟩:=three_ k2)
     go_quiet ((go_at_call 150;refine Calls.quiet_of_same (hki _)))
     go_wp2_with fail;go_ret
     exact ⟨rfl,by simpa using h2.drewN_ _,below_dN hbb _⟩
    ·simp only [Bool.or_false,Bool.not_true,Bool.not_false,Bool.false_and,Bool.and_false,Bool.false_eq_true,if_false];clear htx
     rcases e6:(kd==1) with _ | _
     ·rcases e7:(kd==4) with _ | _
      ·simp only [Bool.false_eq_true,if_false];clear hnm hid';go_enter Tryz.func138,Tryz.ntmps138;go_wp2_with (go_at_call 149;refine (hlet _).mono ?_;rintro e w2 ⟨rfl,hb2⟩;have h2:=h1.step hb2;have k2:=k1.step hb2;have hbb:=below_cut hb1 hb2 hB;obtain ⟨c0,c1,c2⟩:=three_ k2)
       go_quiet ((go_at_call 150;refine Calls.quiet_of_same (hki _)))
       go_wp2_with (go_at_call 147;refine (hpt _ (h2.drewN_ _) (Nat.le_trans hB hbb.size)).mono ?_;rintro e w5 ⟨rfl,h5,hb5,hkt⟩;have k5:=hkt _ _ _ (show Blk (w2.drewN _) _ _ _ from k2) (by decide) (by decide);obtain ⟨d0,d1,d2⟩:=three_ k5;obtain ⟨q8,q0,q10⟩:=h5.bound_)
       go_ret
       exact ⟨rfl,h5,(below_dN hbb _).trans hb5⟩
      ·simp only [Bool.false_eq_true,if_false,if_true];clear hid';go_enter Tryz.func138,Tryz.ntmps138;go_wp2_with (go_at_call 149;refine (hlet _).mono ?_;rintro e w2 ⟨rfl,hb2⟩;have h2:=h1.step hb2;have k2:=k1.step hb2;have hbb:=below_cut hb1 hb2 hB;obtain ⟨c0,c1,c2⟩:=three_ k2)
       go_quiet ((go_at_call 150;refine Calls.quiet_of_same (hki _)))
       go_wp2_with (first | (go_at_call 147;refine (hpt _ (h2.drewN_ _) (Nat.le_trans hB hbb.size)).mono ?_;rintro e w5 ⟨rfl,h5,hb5,hkt⟩;have k5:=hkt _ _ _ (show Blk (w2.drewN _) _ _ _ from k2) (by decide) (by decide);obtain ⟨d0,d1,d2⟩:=three_ k5;obtain ⟨q8,q0,q10⟩:=h5.bound_) | (go_at_call 152;refine (hnm _).mono ?_;rintro e w6 ⟨rfl,hb6⟩))
       go_ret
       exact ⟨rfl,h5.step hb6,(below_dN hbb _).trans (below_cut hb5 hb6 (Nat.le_trans hB hbb.size))⟩
     ·simp only [if_true];clear hnm;go_enter Tryz.func138,Tryz.ntmps138;go_wp2_with (go_at_call 149;refine (hlet _).mono ?_;rintro e w2 ⟨rfl,hb2⟩;have h2:=h1.step hb2;have k2:=k1.step hb2;have hbb:=below_cut hb1 hb2 hB;obtain ⟨c0,c1,c2⟩:=three_ k2)
      go_quiet ((go_at_call 150;refine Calls.quiet_of_same (hki _)))
      go_wp2_with (go_at_call 147;refine (hpt _ (h2.drewN_ _) (Nat.le_trans hB hbb.size)).mono ?_;rintro e w5 ⟨rfl,h5,hb5,hkt⟩;have k5:=hkt _ _ _ (show Blk (w2.drewN _) _ _ _ from k2) (by decide) (by decide);obtain ⟨d0,d1,d2⟩:=three_ k5;obtain ⟨q8,q0,q10⟩:=h5.bound_)
      go_quiet ((go_at_call 148;refine Calls.quiet_of_same (hid' _)))
      go_wp2_with fail;go_ret
      exact ⟨rfl,h5.drewN_ _,below_dN ((below_dN hbb _).trans hb5) _⟩
   ·rcases e4:(n != 0) with _ | _
    ·simp only [Bool.or_false,Bool.and_false,Bool.not_true,Bool.false_and,Bool.false_eq_true,if_false,if_true];clear hpt hnm hid';go_enter Tryz.func138,Tryz.ntmps138;go_wp2_with (go_at_call 149;refine (hlet _).mono ?_;rintro e w2 ⟨rfl,hb2⟩;have h2:=h1.step hb2;have k2:=k1.step hb2;have hbb:=below_cut hb1 hb2 hB;obtain ⟨c0,c1,c2⟩:=three_ k2)
     go_quiet ((go_at_call 150;refine Calls.quiet_of_same (hki _)))
     go_wp2_with (go_at_call 151;refine (htx _ (h2.drewN_ _) (Nat.le_trans hB hbb.size)).mono ?_;rintro e w5 ⟨rfl,h5,hb5⟩)
     go_ret
     exact ⟨rfl,h5,(below_dN hbb _).trans hb5⟩
    ·simp only [Bool.false_or,Bool.or_true,Bool.true_or,Bool.and_self,if_true,List.append_nil];clear htx hpt hnm hid';go_enter Tryz.func138,Tryz.ntmps138;go_wp2_with (go_at_call 149;refine (hlet _).mono ?_;rintro e w2 ⟨rfl,hb2⟩;have h2:=h1.step hb2;have k2:=k1.step hb2;have hbb:=below_cut hb1 hb2 hB;obtain ⟨c0,c1,c2⟩:=three_ k2)
     go_quiet ((go_at_call 150;refine Calls.quiet_of_same (hki _)))
     go_wp2_with fail;go_ret
     exact ⟨rfl,by simpa using h2.drewN_ _,below_dN hbb _⟩
  ·simp only [Bool.false_or,Bool.true_or,if_true,List.append_nil];clear htx hpt hnm hid';go_enter Tryz.func138,Tryz.ntmps138;go_wp2_with (go_at_call 149;refine (hlet _).mono ?_;rintro e w2 ⟨rfl,hb2⟩;have h2:=h1.step hb2;have k2:=k1.step hb2;have hbb:=below_cut hb1 hb2 hB;obtain ⟨c0,c1,c2⟩:=three_ k2)
   go_quiet ((go_at_call 150;refine Calls.quiet_of_same (hki _)))
   go_wp2_with fail;go_ret
   exact ⟨rfl,by simpa using h2.drewN_ _,below_dN hbb _⟩
 ·simp only [Bool.true_or,if_true,List.append_nil];clear htx hpt hnm hid';go_enter Tryz.func138,Tryz.ntmps138;go_wp2_with (go_at_call 149;refine (hlet _).mono ?_;rintro e w2 ⟨rfl,hb2⟩;have h2:=h1.step hb2;have k2:=k1.step hb2;have hbb:=below_cut hb1 hb2 hB;obtain ⟨c0,c1,c2⟩:=three_ k2)
  go_quiet ((go_at_call 150;refine Calls.quiet_of_same (hki _)))
  go_wp2_with fail;go_ret
  exact ⟨rfl,by simpa using h2.drewN_ _,below_dN hbb _⟩
end
section
open Go.RowKit
theorem sl8:SliceOf Tryz.prog 158 5 (.int .u8 0) 1 1:=⟨Tryz.underlying158,by kernel_rfl,rfl,by decide⟩
noncomputable def wholeE (op:Int) (l:List ArgI):Int:=if fitsB op (kinds l)=true then 0 else 42
theorem whole_any (op:Int) (s0:ByteArray) (T R:Bool) (s2 s3:ByteArray) (m part:Int) (A:Option Addr) (n c:Nat) (l:List ArgI) (w:World) (hn:n≤8796093022208) (hu:Under 256 (kinds l)) (hr:Reads w w.heap.size 3 A n (Acells l)) :
  Calls Tryz.prog 139 #[.agg (formC op s0 T R s2 s3 m part),.slice A n c] w fun e w'=>e=.returned (.int .i64 (wholeE op l))∧Below w.heap.size w w':=by
 have hlen:=hr.args_len;obtain ⟨v,hv⟩:∃ v,v=wholeE op l:=⟨_,rfl⟩;rw [← hv];have HV:=Lib.hid hv;have HU:=Lib.hid hu;clear hv hu;unfold formC;have k2:=Blk.new w 129 #[.int .u16 op,.string s0,.bool T,.bool R,.string s2,.string s3,.int .i64 m,.int .u8 part];have hb:=(Below.refl w.heap.size w).alloc (Nat.le_refl _) (.cells #[.int .u16 op,.string s0,.bool T,.bool R,.string s2,.string s3,.int .i64 m,.int .u8 part] 129);have hz:(w.alloc (.cells #[.int .u16 op,.string s0,.bool T,.bool R,.string s2,.string s3,.int .i64 m,.int .u8 part] 129)).heap.size=w.heap.size+1:=by simp
 go_enter Tryz.func139,Tryz.ntmps139;go_wp2_with fail;generalize w.alloc (.cells #[.int .u16 op,.string s0,.bool T,.bool R,.string s2,.string s3,.int .i64 m,.int .u8 part] 129)=w1 at *;go_loopg [5,12] n (fun q v i wr=>∃ k:Nat,k+q=n∧i=.int .i64 (k:Nat)∧wr.ownsRow (w.heap.size+1) 5 1 v k (Ints .u8 (kinds (l.take k)))∧Blk wr w.heap.size 129 #[.int .u16 op,.string s0,.bool T,.bool R,.string s2,.string s3,.int .i64 m,.int .u8 part]∧Below w.heap.size w wr∧w.heap.size+1≤wr.heap.size)
 case atStart=>exact ⟨0,by omega,rfl,World.ownsRow_nil _ _ _ _,k2,hb,by omega⟩
 case round =>
  obtain ⟨k,hq,rfl,ho,kr,hbr,hsz⟩:=hrel
  by_cases hlt:k<n
  ·obtain ⟨b,off,rfl,hb2,hc⟩:=(hr.below hbr).args (by omega)
   obtain ⟨c0,c1,c2⟩:=hc k hlt;have hkt:=kinds_take (l:=l) (k:=k) (by omega)
   have HK:=Lib.hid hkt;generalize ag l k=x at *;obtain ⟨x1,x2,x3⟩:=x;dsimp only at c0 c1 c2 HK;obtain ⟨A1,cc,rfl⟩:=own_shape ho;clear hc hkt;have k7:=Blk.new wr 44 #[.int .u8 x1,.int .u32 x2,.string x3];have kr2:=kr.alloc (.cells #[.int .u8 x1,.int .u32 x2,.string x3] 44);have ho2:=ho.alloc (.cells #[.int .u8 x1,.int .u32 x2,.string x3] 44);have hb2:=hbr.alloc hbr.size (.cells #[.int .u8 x1,.int .u32 x2,.string x3] 44);have hsz2:w.heap.size+1≤(wr.alloc (.cells #[.int .u8 x1,.int .u32 x2,.string x3] 44)).heap.size:=by simp;omega
   clear ho kr hbr hb;go_wp2_with (at_builtin;refine ap_one sl8 _ rfl _ _ rfl (w.heap.size+1) _ _ _ rfl ho2 _ _ rfl (by rw [World.size_alloc];rfl) (by omega) (by omega) hsz2 ?_;intro v' w3 ho3 hgr3 _)
   have kr3:=(kr2.alloc (.cells #[.int .u8 x1] 5)).grown hgr3 (fun e=>by have:=(ho2.lt _ e.symm).1;omega)
   have hb3:=(hb2.alloc hb2.size (.cells #[.int .u8 x1] 5)).grown hgr3 (by simp;omega) (fun j hj=>Nat.le_of_succ_le (ho2.lt j hj).1)
   have hsz3:w.heap.size+1≤w3.heap.size:=by have:=hgr3.size;simp at this;omega
   go_roundg (n-(k+1))
   case measure=>omega
   case rel=>exact ⟨k+1,by omega,by go_num,by rw [HK.out,Ints_append];exact ho3,kr3,hb3,hsz3⟩
  ·obtain rfl:gk=0:=by omega
   obtain rfl:k=n:=by omega
   rw [← hlen,List.take_length,hlen] at ho;obtain ⟨A1,cc,rfl⟩:=own_shape ho;have y0:=kr.cell 0;simp at y0;have hF:=fits_any op A1 k cc (kinds l) wr (by omega) HU.out (Reads.of_own ho)
   have hW:v=if fitsB op (kinds l)=true then 0 else 42:=HV.out
   generalize fitsB op (kinds l)=fb at *;have HW:=Lib.hid hW;clear hW ho hb k2
   rcases fb with _ | _
   ·go_wp2_with (go_at_call 153;refine hF.mono ?_;rintro e w4 ⟨⟨p,rfl⟩,hb4⟩)
    go_ret
    exact ⟨by rw [HW.out];rfl,below_cut hbr hb4 (Nat.le_refl _)⟩
   ·go_wp2_with (go_at_call 153;refine hF.mono ?_;rintro e w4 ⟨⟨p,rfl⟩,hb4⟩)
    go_ret
    exact ⟨by rw [HW.out];rfl,below_cut hbr hb4 (Nat.le_refl _)⟩
end
section
def restOk (s:ByteArray):Bool:=((fdS s.data.toList).2 3).all (fun c=>decide (c≠115))
theorem first_rest:(firstT.all fun x=>restOk x.2)=true:=by decide +kernel
theorem second_rest:(secondT.all fun x=>restOk x.2)=true:=by decide +kernel
theorem third_rest:(thirdT.all fun x=>restOk x.2)=true:=by decide +kernel
theorem pickT_rest {l:List (Int × ByteArray)} (h:(l.all fun x=>restOk x.2)=true) (op:Int):pickT l op=⟨#[]⟩∨restOk (pickT l op)=true:=by
 induction l with
 | nil=>exact .inl rfl
 | cons x l ih =>
  obtain ⟨k,s⟩:=x;simp only [List.all_cons,Bool.and_eq_true] at h;unfold pickT
  split
  ·exact .inr h.1
  ·exact ih h.2
theorem rowT_rest (op:Int):rowT op=⟨#[]⟩∨restOk (rowT op)=true:=by
 unfold rowT
 split
 ·exact pickT_rest first_rest op
 ·split
  ·exact pickT_rest second_rest op
  ·exact pickT_rest third_rest op
abbrev RSt:=Int × List Int × Nat
def stepR (op bound:Int) (k:Nat) (a:ArgI) (st:RSt):RSt :=
 if st.1=0 then (argE op bound k a.1 a.2.1 a.2.2,st.2.1++argW op k a.1 a.2.1 a.2.2,st.2.2+argR op k a.1 a.2.1 a.2.2) else st
def loopR (op bound:Int) (l:List ArgI) (st:RSt):Nat→RSt
 | 0=>st
 | k+1=>stepR op bound k (ag l k) (loopR op bound l st k)
theorem letter_text {op:Int} {k:Nat} (h:letterOf op k=115):k<61:=by
 unfold letterOf at h;cases hf:formOf op with
 | none=>rw [hf] at h;simp at h
 | some f =>
  rw [hf] at h;simp only at h;obtain ⟨hs2,hs3,-,-⟩:=formOf_bd hf;unfold letterB at h
  split at h
  ·exfalso
   unfold restB at h
   split at h
   ·omega
   ·split at h
    ·rename_i hlt
     obtain ⟨rfl,hok⟩:=formOf_ok hf
     rcases rowT_rest op with hr | hr
     ·have h1:formOf op=none:=by unfold formOf;rw [hr];rfl
      rw [h1] at hf;cases hf
     ·unfold restOk at hr;rw [List.all_eq_true] at hr;have hm:(bs (formT (rowT op)).rest)[(k-(bs (formT (rowT op)).fixed).size) % (bs (formT (rowT op)).rest).size]'hlt∈(formT (rowT op)).rest:=by
       have:(bs (formT (rowT op)).rest).data.toList=(formT (rowT op)).rest:=rfl;have h2:(bs (formT (rowT op)).rest)[(k-(bs (formT (rowT op)).fixed).size) % (bs (formT (rowT op)).rest).size]'hlt∈(bs (formT (rowT op)).rest).data.toList:=by
        rw [Array.mem_toList_iff];exact Array.getElem_mem _
       rw [this] at h2;exact h2
      have h3:=hr _ hm;rw [decide_eq_true_eq] at h3;refine h3 (UInt8.toNat_inj.1 ?_)
      show _=115
      omega
    ·omega
  ·rename_i h0
   unfold fixedB at h0
   split at h0
   ·omega
   ·exact absurd rfl h0
theorem arg_text {op:Int} {k:Nat} {kd n:Int} {s:ByteArray} (h:argBad op k kd n s=false) (h3:(kd==3)=true):k<61:=by
 unfold argBad at h;simp only [Bool.or_eq_false_iff] at h;obtain ⟨⟨⟨h1,h2⟩,-⟩,-⟩:=h;have e:kd=kindT (letterOf op k):=by simpa using h2
 have e3:kd=3:=by simpa using h3
 refine letter_text (op:=op) ?_;unfold kindT at e;rw [e3] at e
 split at e
 ·omega
 ·split at e
  ·omega
  ·split at e
   ·rename_i h;simpa using h
   ·split at e <;> omega
theorem argW_le (op:Int) (k:Nat) (kd n:Int) (s:ByteArray):(argW op k kd n s).length≤1+(if k<61 then 65535 else 0):=by
 unfold argW;cases hb:argBad op k kd n s with
 | true=>simp
 | false =>
  cases h3:(kd==3) with
  | true =>
   rw [if_pos (arg_text hb h3)];simp only [Bool.false_eq_true,if_false,if_true];unfold txW
   split
   ·simp
   ·unfold ofW
    split
    ·rename_i h0
     unfold ofE at h0
     split at h0
     ·omega
     ·split at h0
      ·omega
      ·rw [part_length];omega
    ·simp
  | false=>simp
theorem argR_le (op:Int) (k:Nat) (kd n:Int) (s:ByteArray) (hs:s.size≤140737488351232):argR op k kd n s≤1+(if k<61 then 35184372087809 else 0):=by
 unfold argR;cases hb:argBad op k kd n s with
 | true=>simp
 | false =>
  cases h3:(kd==3) with
  | true =>
   rw [if_pos (arg_text hb h3)];simp only [Bool.false_eq_true,if_false,if_true];unfold txR
   split
   ·omega
   ·unfold roomOf;rw [bl_length];omega
  | false=>simp
theorem loopR_words (op bound:Int) (l:List ArgI) (st:RSt) (k:Nat):(loopR op bound l st k).2.1.length≤st.2.1.length+k+65535*min k 61:=by
 induction k with
 | zero=>simp [loopR]
 | succ k ih =>
  unfold loopR stepR
  split
  ·have h:=argW_le op k (ag l k).1 (ag l k).2.1 (ag l k).2.2;rw [List.length_append]
   split at h <;> omega
  ·omega
theorem loopR_room (op bound:Int) (l:List ArgI) (st:RSt) (k:Nat) (hl:∀ a∈l,a.2.2.size≤140737488351232) (hk:k≤l.length):(loopR op bound l st k).2.2≤st.2.2+k+35184372087809*min k 61:=by
 induction k with
 | zero=>simp [loopR]
 | succ k ih =>
  have ih:=ih (by omega)
  unfold loopR stepR
  split
  ·have h:=argR_le op k (ag l k).1 (ag l k).2.1 (ag l k).2.2 (hl _ (ag_mem (by omega)))
   show _+_≤_
   split at h <;> omega
  ·omega
abbrev InstI:=Int × Int × Int × List ArgI
noncomputable def headsR (f:FormI) (i:InstI) (bound:Int):RSt :=
 if headE f.ty i.2.1 40 bound=0 then (headE f.res i.2.2.1 41 bound,headW f.ty i.2.1++headW f.res i.2.2.1,(headW f.ty i.2.1).length+(headW f.res i.2.2.1).length)
 else (headE f.ty i.2.1 40 bound,headW f.ty i.2.1,(headW f.ty i.2.1).length)
noncomputable def rawR (i:InstI) (bound:Int):Int × List Int:=match formOf i.1 with
 | none=>(30,[])
 | some f =>
  let st:=loopR i.1 bound i.2.2.2 (headsR f i bound) i.2.2.2.length
  let e:=if st.1=0 then wholeE i.1 i.2.2.2 else st.1
  let e:=if e=0∧65535≤st.2.2 then 25 else e
  if e=0 then (0,st.2.1) else (e,[])
end
section
open Go.RowKit
def RawIs (i:InstI) (bound:Int) (w:World) (e:Ending) (w':World):Prop:=∃ (p:Int) (A':Option Addr) (c':Nat),
 e=.returned (.tuple #[.agg #[.int .u16 p,.slice A' (rawR i bound).2.length c'],.int .i64 (rawR i bound).1])∧Below w.heap.size w w'
theorem results_ct1 {fn:Func} {p q:Tmp} {ty:TypeId} (h:fn.results=#[.cell p ty,.tmp q]) (tmps:Array Value) (P:Program) (w:World) :
  (results fn tmps).run P w=((asAddr (tmps.getD p undef)).run P w).andThen fun ad w₁=>((loadVar ty ad).run P w₁).andThen fun v w₂=>.ok (.tuple #[v,tmps.getD q undef]) w₂:=by
 simp only [results,h];simp [Sem.run_bind,Result.andThen]
theorem two_ {w:World} {g:Nat} {t:TypeId} {x0 x1:Value} (h:Blk w g t #[x0,x1]):w.cell? ⟨g,0,none⟩=some x0∧w.cell? ⟨g,1,none⟩=some x1:=⟨h.cell 0,h.cell 1⟩
theorem four_ {w:World} {g:Nat} {t:TypeId} {x0 x1 x2 x3:Value} (h:Blk w g t #[x0,x1,x2,x3]):w.cell? ⟨g,0,none⟩=some x0∧w.cell? ⟨g,1,none⟩=some x1∧w.cell? ⟨g,2,none⟩=some x2∧w.cell? ⟨g,3,none⟩=some x3:=⟨h.cell 0,h.cell 1,h.cell 2,h.cell 3⟩
theorem raw_put {W:World} {g:Nat} {x0 x1:Value} (k:Blk W g 174 #[x0,x1]) (y0 y1:Value):Blk ((W.setCell ⟨g,0,none⟩ y0).setCell ⟨g,1,none⟩ y1) g 174 #[y0,y1]:=by
 simpa using (k.set_ 0 y0).set_ 1 y1
theorem raw_none (op ty res bound:Int) (l:List ArgI) (A:Option Addr) (n c:Nat) (w:World) (hf:formOf op=none) :
  Calls Tryz.prog 125 #[.agg #[.int .u16 op,.int .u32 ty,.int .u32 res,.slice A n c],.int .u32 bound] w (RawIs (op,ty,res,l) bound w):=by
 have ho:=of_none op;have hR:rawR (op,ty,res,l) bound=(30,[]):=by unfold rawR;rw [hf]
 unfold RawIs;rw [hR];unfold form0 at ho;have hb0:=((Below.refl w.heap.size w).alloc (Nat.le_refl _) (.cells #[.int .u16 op,.int .u32 ty,.int .u32 res,.slice A n c] 42)).alloc (by simp) (.cells #[.int .u16 0,.slice none 0 0] 174)
 have k4:=Blk.new (w.alloc (.cells #[.int .u16 op,.int .u32 ty,.int .u32 res,.slice A n c] 42)) 174 #[.int .u16 0,.slice none 0 0];rw [World.size_alloc] at k4;clear hR;go_enter Tryz.func125,Tryz.ntmps125;go_wp2_with (go_at_call 58;refine (ho _ hf).mono ?_;rintro e w2 ⟨rfl,hb2⟩;have k5:=(k4.step hb2).alloc (.cells #[.int .u16 0,.string ⟨#[]⟩,.bool false,.bool false,.string ⟨#[]⟩,.string ⟨#[]⟩,.int .i64 0,.int .u8 0] 129);have hb3:=below_cut hb0 hb2 (Nat.le_refl _);have hb4:=hb3.alloc hb3.size (.cells #[.int .u16 0,.string ⟨#[]⟩,.bool false,.bool false,.string ⟨#[]⟩,.string ⟨#[]⟩,.int .i64 0,.int .u8 0] 129);obtain ⟨z0,z1⟩:=two_ k5;have fz:=k5.frozen)
 generalize w2.alloc (.cells #[.int .u16 0,.string ⟨#[]⟩,.bool false,.bool false,.string ⟨#[]⟩,.string ⟨#[]⟩,.int .i64 0,.int .u8 0] 129)=w3 at *;have k6:=raw_put k5 (.int .u16 0) (.slice none 0 0);have hb5:=(hb4.setCell (p:=⟨w.heap.size+1,0,none⟩) (show w.heap.size≤w.heap.size+1 by omega) (.int .u16 0)).setCell (p:=⟨w.heap.size+1,1,none⟩) (show w.heap.size≤w.heap.size+1 by omega) (.slice none 0 0)
 clear z0 z1 fz k5 k4 hb0;generalize (w3.setCell ⟨w.heap.size+1,0,none⟩ (.int .u16 0)).setCell ⟨w.heap.size+1,1,none⟩ (.slice none 0 0)=w4 at *;obtain ⟨z0,z1⟩:=two_ k6;refine bodyPost_ret (v:=.tuple #[.agg #[.int .u16 0,.slice none 0 0],.int .i64 30]) (by rw [results_ct1 rfl];go_simp) rfl ⟨0,none,0,rfl,hb5⟩
end
end Go.Proofs.YtdebjkiilnhgpaaGreatDoor
