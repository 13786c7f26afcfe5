/- Walks: the document's Part, Ends, first. -/
import Derived.Test.YteelmakkogdieaaGreatDoorCRC
import Derived.Test.YteelmakkogdieaaGreatDoorCTI
set_option maxRecDepth 100000
set_option maxHeartbeats 40000000
namespace Go.Proofs.YteelmakkogdieaaGreatDoor
section
open Go.RowKit
theorem refPart_any (x:InstA) (w:World) (h:InstOk w w.heap.size x):Calls Tryz.prog 83 #[.agg (instC x)] w fun e w'=>e=.returned (.int .i64 (partI x.1))∧Below w.heap.size w w':=by
 obtain ⟨⟨op,ty,res,l⟩,A,n,c⟩:=x;obtain ⟨hr,hn,-,-⟩:=h;have hl:=hr.args_len;dsimp only at *;obtain ⟨v,hv⟩:∃ v,v=partI (op,ty,res,l):=⟨_,rfl⟩;rw [← hv];unfold partI variableB at hv;dsimp only at hv;have hb:=(Below.refl w.heap.size w).alloc (Nat.le_refl _) (.cells #[.int .u16 op,.int .u32 ty,.int .u32 res,.slice A n c] 51);have k1:=Blk.new w 51 #[.int .u16 op,.int .u32 ty,.int .u32 res,.slice A n c];have ho:=fun w=>refOf_any op w
 have hpb:=partOf_bd op;obtain ⟨op',s0,T,R,s2,s3,m,hV⟩:=ofV_part op;rw [hV] at ho;clear hV;unfold instC;dsimp only;have HV:=Lib.hid hv;have HR:=Lib.hid hr;clear hv hr
 by_cases h59:op=59
 ·obtain rfl:=h59
  by_cases h0:0<n
  ·have hr2:=HR.out.below hb;obtain ⟨b,off,rfl,hbb,hcc⟩:=hr2.args h0;obtain ⟨-,c1,-⟩:=hcc 0 h0;have d0:decide ((0:Int)<(n:Nat))=true:=by rw [decide_eq_true_eq];omega
   have d0n:decide (((n:Nat):Int)>0)=true:=d0;have hln:0<l.length:=by omega
   have hv2:=HV.out;rw [decide_eq_true hln] at hv2;simp only [beq_self_eq_true,Bool.true_and] at hv2;clear hcc HV HR hr2;simp only [Nat.zero_mul,Nat.add_zero] at c1;generalize (ag l 0).2.1=N at *
   by_cases h7:N=7
   ·obtain rfl:=h7;obtain rfl:v=8:=by rw [hv2];rfl
    clear hv2 ho;go_enter Tryz.func83,Tryz.ntmps83;go_upto_region 1 with fail
    generalize w.alloc (.cells #[.int .u16 59,.int .u32 ty,.int .u32 res,.slice (some ⟨b,off,none⟩) n c] 51)=W at *;have y0:=k1.cell 0;have y3:=k1.cell 3;simp at y0 y3;go_wp2_with fail;go_ret
    exact ⟨rfl,hb⟩
   ·have e7:(N==7)=false:=by simpa using h7
    rw [e7] at hv2;simp only [Bool.false_eq_true,if_false] at hv2;obtain rfl:=hv2;generalize partOf 59=p at *;generalize ofB 59=ob at *;have wp:IntKind.i64.wrap p=p:=IntWalk.i64_in _ (by omega)
    clear h7;go_enter Tryz.func83,Tryz.ntmps83;go_upto_region 1 with fail
    generalize w.alloc (.cells #[.int .u16 59,.int .u32 ty,.int .u32 res,.slice (some ⟨b,off,none⟩) n c] 51)=W at *;have y0:=k1.cell 0;have y3:=k1.cell 3;simp at y0 y3;go_wp2_with (go_at_call 44;refine (ho _).mono ?_;rintro e w1 ⟨rfl,hb1⟩)
    go_ret
    exact ⟨rfl,(below_cut hb hb1 (Nat.le_refl _)).alloc (below_cut hb hb1 (Nat.le_refl _)).size _⟩
  ·obtain rfl:n=0:=by omega
   have hv2:=HV.out;rw [decide_eq_false (show ¬ 0<l.length by omega)] at hv2
   simp only [Bool.false_and,Bool.and_false,Bool.false_eq_true,if_false] at hv2;obtain rfl:=hv2;generalize partOf 59=p at *;generalize ofB 59=ob at *;have wp:IntKind.i64.wrap p=p:=IntWalk.i64_in _ (by omega)
   clear HV HR h0 hl hn;go_enter Tryz.func83,Tryz.ntmps83;go_upto_region 1 with fail
   generalize w.alloc (.cells #[.int .u16 59,.int .u32 ty,.int .u32 res,.slice A 0 c] 51)=W at *;have y0:=k1.cell 0;have y3:=k1.cell 3;simp at y0 y3;go_wp2_with (go_at_call 44;refine (ho _).mono ?_;rintro e w1 ⟨rfl,hb1⟩)
   go_ret
   exact ⟨rfl,(below_cut hb hb1 (Nat.le_refl _)).alloc (below_cut hb hb1 (Nat.le_refl _)).size _⟩
 ·have e59:(op==59)=false:=by simpa using h59
  have hv2:=HV.out;rw [e59] at hv2;simp only [Bool.false_and,Bool.false_eq_true,if_false] at hv2;obtain rfl:=hv2;generalize partOf op=p at *;generalize ofB op=ob at *;have wp:IntKind.i64.wrap p=p:=IntWalk.i64_in _ (by omega)
  clear HV HR h59;go_enter Tryz.func83,Tryz.ntmps83;go_upto_region 1 with fail
  generalize w.alloc (.cells #[.int .u16 op,.int .u32 ty,.int .u32 res,.slice A n c] 51)=W at *;have y0:=k1.cell 0;simp at y0;go_wp2_with (go_at_call 44;refine (ho _).mono ?_;rintro e w1 ⟨rfl,hb1⟩)
  go_ret
  exact ⟨rfl,(below_cut hb hb1 (Nat.le_refl _)).alloc (below_cut hb hb1 (Nat.le_refl _)).size _⟩
theorem refEnds_any (op:Int) (w:World):Calls Tryz.prog 238 #[.int .u16 op] w fun e w'=>e=.returned (.bool (endsB op))∧w=w':=by
 by_cases h249:op=249
 ·obtain rfl:=h249;go_enter Tryz.func238,Tryz.ntmps238;go_wp2_with fail;go_ret
  exact ⟨rfl,rfl⟩
 by_cases h250:op=250
 ·obtain rfl:=h250;go_enter Tryz.func238,Tryz.ntmps238;go_wp2_with fail;go_ret
  exact ⟨rfl,rfl⟩
 by_cases h251:op=251
 ·obtain rfl:=h251;go_enter Tryz.func238,Tryz.ntmps238;go_wp2_with fail;go_ret
  exact ⟨rfl,rfl⟩
 by_cases h252:op=252
 ·obtain rfl:=h252;go_enter Tryz.func238,Tryz.ntmps238;go_wp2_with fail;go_ret
  exact ⟨rfl,rfl⟩
 by_cases h253:op=253
 ·obtain rfl:=h253;go_enter Tryz.func238,Tryz.ntmps238;go_wp2_with fail;go_ret
  exact ⟨rfl,rfl⟩
 by_cases h254:op=254
 ·obtain rfl:=h254;go_enter Tryz.func238,Tryz.ntmps238;go_wp2_with fail;go_ret
  exact ⟨rfl,rfl⟩
 by_cases h255:op=255
 ·obtain rfl:=h255;go_enter Tryz.func238,Tryz.ntmps238;go_wp2_with fail;go_ret
  exact ⟨rfl,rfl⟩
 have hv:endsB op=false:=by
  unfold endsB;rw [Bool.eq_false_iff];intro e;simp at e;omega
 have e249:(op==249)=false:=by simpa using h249
 have e250:(op==250)=false:=by simpa using h250
 have e251:(op==251)=false:=by simpa using h251
 have e252:(op==252)=false:=by simpa using h252
 have e253:(op==253)=false:=by simpa using h253
 have e254:(op==254)=false:=by simpa using h254
 have e255:(op==255)=false:=by simpa using h255
 rw [hv];clear hv h249 h250 h251 h252 h253 h254 h255;go_enter Tryz.func238,Tryz.ntmps238;go_wp2_with fail;go_ret
 exact ⟨rfl,rfl⟩
theorem opAt_ig {ls:List InstA} {k:Nat} (h:k<ls.length):opAt (ls.map (·.1)) k=(ig ls k).1.1:=opAt_at (ig_map h)
theorem partAt_ig {ls:List InstA} {k:Nat} (h:k<ls.length):partAt (ls.map (·.1)) k=partI (ig ls k).1:=partAt_at (ig_map h)
theorem refFirst_any (ls:List InstA) (A:Option Addr) (n c:Nat) (a j0:Nat) (w:World) (hr:Reads w w.heap.size 4 A n (Icells ls)) (ha:a<n) (h1:1≤j0) (h2:j0≤a) (hop:opAt (ls.map (·.1)) j0=248) (hn:n≤7100000000000) :
  Calls Tryz.prog 239 #[.slice A n c,.int .i64 (a:Nat)] w fun e w'=>e=.returned (.bool (firstD (ls.map (·.1)) a))∧w=w':=by
 have hlen:=hr.insts_len;obtain ⟨v,hv⟩:∃ v,v=firstD (ls.map (·.1)) a:=⟨_,rfl⟩;rw [← hv];have HV:=Lib.hid hv;have HO:=Lib.hid hop;obtain ⟨b,off,rfl,hbb,hcc⟩:=hr.insts (by omega)
 have HC:=Lib.hid hcc;clear hv hop hcc hr;go_enter Tryz.func239,Tryz.ntmps239;go_wp2_with fail;go_loopg [5] (a-j0) (fun q i wr=>∃ k:Nat,k-j0=q∧j0≤k∧k≤a∧i=.int .i64 (k:Nat)∧wr=w∧Hid (v=firstD (ls.map (·.1)) k))
 case atStart=>exact ⟨a,rfl,h2,Nat.le_refl _,rfl,rfl,HV⟩
 case round =>
  obtain ⟨k,hk,hkj,hka,rfl,rfl,HK⟩:=hrel;obtain ⟨c0,-,-,-⟩:=HC.out k (by omega)
  by_cases h248:(ig ls k).1.1=248
  ·obtain ⟨p0,-,-,-⟩:=HC.out (k-1) (by omega)
   have hv2:v=decide (opAt (ls.map (·.1)) (k-1)=54∨opAt (ls.map (·.1)) (k-1)=55):=by
    rw [HK.out,firstD_label (by omega) (by rw [opAt_ig (by omega)];exact h248)]
   rw [opAt_ig (by omega)] at hv2
   rw [h248] at c0;have e1:((248:Int) != 248)=false:=rfl;have wk:IntKind.i64.wrap (((k:Nat):Int)-1)=((k-1:Nat):Int):=by rw [IntWalk.i64_in _ (by omega)];omega
   generalize (ig ls (k-1)).1.1=x at *;have hkk:k-1<n:=by omega
   generalize hkm:k-1=k' at *;have hkn:k<n:=by omega
   clear HV HO HC HK hkm hk
   by_cases h54:x=54
   ·obtain rfl:=h54;obtain rfl:v=true:=by rw [hv2];rfl
    clear hv2;go_wp2_with fail;go_ret
    exact ⟨rfl,rfl⟩
   ·have e54:(x==54)=false:=by simpa using h54
    have e55:(x==55)=v:=by rw [hv2,Bool.eq_iff_iff,beq_iff_eq,decide_eq_true_eq];omega
    clear hv2;go_wp2_with fail;go_ret
    exact ⟨rfl,rfl⟩
  ·have hne:k≠j0:=fun e=>by
    have:=HO.out;rw [opAt_ig (by omega),← e] at this
    exact h248 this
   have e1:((ig ls k).1.1 != 248)=true:=by simpa using h248
   have HK2:Hid (v=firstD (ls.map (·.1)) (k-1)):=Lib.hid (by
    rw [HK.out,firstD_far (l:=ls.map (·.1)) (k:=k-1) (j:=k) (by omega) (fun i i1 i2=>by
     obtain rfl:i=k:=by omega
     rw [opAt_ig (by omega)];exact h248)])
   have wk:IntKind.i64.wrap (((k:Nat):Int)-1)=((k-1:Nat):Int):=by rw [IntWalk.i64_in _ (by omega)];omega
   clear HV HO HC HK h248;generalize (ig ls k).1.1=x at *;go_wp2_with fail;go_roundg (k-1-j0)
   case measure=>omega
   case rel=>exact ⟨k-1,rfl,by omega,by omega,by rw [← wk],rfl,HK2⟩
end
section
open Go.RowKit
theorem mayD_le {l:List InstI} {k:Nat} (h:∀ j,j<k→partAt l j≤partAt l k):mayD l k =
  if partAt l k=1 then noMod l k else if 1<partAt l k∧noMod l k=true then false else if partAt l k<8 then true else mayO (opAt l k) (ahd l k) (firstD l (k-1)):=by
 unfold mayD;rw [if_neg (fun e=>by
  obtain ⟨j,hj,hp⟩:=above_iff.1 e;have:=h j hj;omega)]
theorem mayD_mod {l:List InstI} {k:Nat} (h:mayD l k=true) (hp:partAt l k=8):mayO (opAt l k) (ahd l k) (firstD l (k-1))=true:=by
 unfold mayD at h
 split at h
 ·cases h
 ·rw [if_neg (by omega)] at h
  split at h
  ·cases h
  ·rw [if_neg (by omega)] at h
   exact h
theorem hasLab {l:List InstI}:∀ {k:Nat},(∀ j,j<k→mayD l j=true)→0<k→partAt l (k-1)=8→(opAt l (k-1)=248∨opAt l (k-1)=245∨opAt l (k-1)=59)→∃ j,1≤j∧j≤k-1∧opAt l j=248
 | 0,_,h0,_,_=>absurd h0 (by decide)
 | k+1,h,_,hp,ho=>by
  rw [Nat.add_sub_cancel] at hp ho ⊢;have hm:=mayD_mod (h k (Nat.lt_succ_self k)) hp;have hah:ahd l k≠0→0<k∧partAt l (k-1)=8∧ahd l k=opAt l (k-1):=fun hne=>by
   by_cases hc:0<k∧partAt l (k-1)=8
   ·exact ⟨hc.1,hc.2,if_pos hc⟩
   ·exact absurd (if_neg hc) hne
  generalize firstD l (k-1)=f at *
  rcases ho with ho | ho | ho
  ·rw [ho] at hm;refine ⟨k,?_,Nat.le_refl _,ho⟩;have hne:ahd l k≠0:=fun e=>by rw [e] at hm;cases f <;> exact absurd hm (by decide)
   exact (hah hne).1
  ·rw [ho] at hm;have h2:ahd l k=248∨ahd l k=245:=by
    generalize ahd l k=a at *;unfold mayO at hm;rw [if_neg (by decide),if_neg (by decide),if_neg (by decide),if_neg (by decide)] at hm
    split at hm
    ·cases hm
    ·rw [if_pos rfl] at hm;simp at hm;exact hm.1
   obtain ⟨h3,h4,h5⟩:=hah (by omega)
   obtain ⟨j,j1,j2,j3⟩:=hasLab (k:=k) (fun j hj=>h j (by omega)) h3 h4 (by rw [← h5];omega)
   exact ⟨j,j1,by omega,j3⟩
  ·rw [ho] at hm;have h2:ahd l k=248∨ahd l k=59:=by
    generalize ahd l k=a at *;unfold mayO at hm;rw [if_neg (by decide),if_neg (by decide),if_neg (by decide),if_neg (by decide)] at hm
    split at hm
    ·cases hm
    ·rw [if_neg (by decide),if_pos rfl] at hm
     simp at hm;exact hm.1
   obtain ⟨h3,h4,h5⟩:=hah (by omega)
   obtain ⟨j,j1,j2,j3⟩:=hasLab (k:=k) (fun j hj=>h j (by omega)) h3 h4 (by rw [← h5];omega)
   exact ⟨j,j1,by omega,j3⟩
theorem refMay_any (ls:List InstA) (A:Option Addr) (n c k:Nat) (w:World) (hM:ModS w w.heap.size A n ls) (hk:k<n) (hprev:∀ j,j<k→mayD (ls.map (·.1)) j=true) :
  Calls Tryz.prog 199 #[.slice A n c,.int .i64 (k:Nat)] w fun e w'=>e=.returned (.bool (mayD (ls.map (·.1)) k))∧Below w.heap.size w w':=by
 have hlen:=hM.reads.insts_len;have hnb:=hM.len;obtain ⟨v,hv⟩:∃ v,v=mayD (ls.map (·.1)) k:=⟨_,rfl⟩;rw [← hv];have HV:=Lib.hid hv;have HM:=Lib.hid hM;have HP:=Lib.hid hprev;obtain ⟨b,off,rfl,hbb,hcc⟩:=hM.reads.insts (by omega)
 have HC:=Lib.hid hcc;have hpt:∀ j,j<n→∀ W:World,Below w.heap.size w W→Calls Tryz.prog 83 #[.agg (instC (ig ls j))] W fun e w'=>e=.returned (.int .i64 (partAt (ls.map (·.1)) j))∧Below W.heap.size W w':=fun j hj W hW=>by
  rw [partAt_ig (by omega)]
  exact refPart_any (ig ls j) W (((HM.out.keep hW).ok _ (ig_mem (l:=ls) (k:=j) (by omega))).more hW.size)
 unfold instC at hpt;have hcl:∀ j,j<n→∀ W:World,Below w.heap.size w W→W.cell? ⟨b,off+j*4,none⟩=some (.int .u16 (ig ls j).1.1)∧W.cell? ⟨b,off+j*4+1,none⟩=some (.int .u32 (ig ls j).1.2.1)∧W.cell? ⟨b,off+j*4+2,none⟩=some (.int .u32 (ig ls j).1.2.2.1) ∧
   W.cell? ⟨b,off+j*4+3,none⟩=some (.slice (ig ls j).2.1 (ig ls j).2.2.1 (ig ls j).2.2.2):=fun j hj W hW=>by
  obtain ⟨c0,c1,c2,c3⟩:=HC.out j hj;exact ⟨cell_on c0 hW,cell_on c1 hW,cell_on c2 hW,cell_on c3 hW⟩
 have HCL:=Lib.hid hcl;have HPT:=Lib.hid hpt;have hp0:=hpt k hk w (Below.refl _ _);obtain ⟨c0,c1,c2,c3⟩:=hcc k hk;have hpb:=partAt_bd (ls.map (·.1)) k;clear hv hM hprev hcc hcl hpt;obtain ⟨p,hp⟩:∃ p,p=partAt (ls.map (·.1)) k:=⟨_,rfl⟩;rw [← hp] at hp0 hpb;have HPk:=Lib.hid hp;clear hp;generalize hx:ig ls k=x at *;have HX:=Lib.hid hx;clear hx;go_enter Tryz.func199,Tryz.ntmps199;go_wp2_with (go_at_call 83;refine hp0.mono ?_;rintro e w1 ⟨rfl,hb1⟩)
 clear c0 c1 c2 c3 hp0;go_loopg [4,6,7] k (fun q a u i wr=>∃ (j m:Nat),j+q=k∧a=.bool false∧u=.int .i64 (m:Nat)∧m≤j∧i=.int .i64 (j:Nat)∧Hid (m=0 ↔ noMod (ls.map (·.1)) j=true)∧Hid (∀ i,i<j→partAt (ls.map (·.1)) i≤p)∧Below w.heap.size w wr)
 case atStart=>exact ⟨0,0,by omega,rfl,rfl,Nat.le_refl _,rfl,Lib.hid ⟨fun _=>rfl,fun _=>rfl⟩,Lib.hid (fun i hi=>absurd hi (Nat.not_lt_zero _)),hb1⟩
 case round =>
  obtain ⟨j,m,hq,rfl,rfl,hm,rfl,HN,HL,hbr⟩:=hrel
  by_cases hlt:j<k
  ·obtain ⟨c0,c1,c2,c3⟩:=HCL.out j (by omega) wr hbr
   have hpj:=HPT.out j (by omega) wr hbr
   have hpj2:=fun W hW=>HPT.out j (by omega) W hW
   have hcj2:=fun W hW=>HCL.out j (by omega) W hW
   obtain ⟨pj,hpj0⟩:∃ pj,pj=partAt (ls.map (·.1)) j:=⟨_,rfl⟩;have hpb2:=partAt_bd (ls.map (·.1)) j;rw [← hpj0] at hpj hpj2 hpb2;have HPJ:=Lib.hid hpj0;clear hpj0;generalize ig ls j=y at *
   by_cases hgt:p<pj
   ·have d1:decide (p<pj)=true:=decide_eq_true hgt;have d2:decide (pj>p)=true:=d1;obtain rfl:v=false:=by rw [HV.out];exact mayD_low (j:=j) hlt (by rw [← HPJ.out,← HPk.out];exact hgt)
    clear HV HN HL hpj2 hcj2;go_wp2_with (go_at_call 83;refine hpj.mono ?_;rintro e w3 ⟨rfl,hb3⟩)
    go_ret
    exact ⟨rfl,below_cut hbr hb3 (Nat.le_refl _)⟩
   ·have d1:decide (p<pj)=false:=decide_eq_false hgt;have d2:decide (pj>p)=false:=d1;have HL2:=Lib.hid (show ∀ i,i<j+1→partAt (ls.map (·.1)) i≤p from fun i hi=>by
     by_cases e:i=j
     ·rw [e,← HPJ.out];omega
     ·exact HL.out i (by omega))
    go_upto_region 8 with (go_at_call 83;refine hpj.mono ?_;rintro e w3 ⟨rfl,hb3⟩)
    have hb4:=below_cut hbr hb3 (Nat.le_refl _);have hpk:=hpj2 w3 hb4;clear c0 c1 c2 c3;obtain ⟨c0,c1,c2,c3⟩:=hcj2 w3 hb4;clear hpj hpj2 hcj2 HL
    by_cases h1:pj=1
    ·have e1:(pj==1)=true:=by simpa using h1
     have wm:IntKind.i64.wrap (((m:Nat):Int)+1)=((m:Nat):Int)+1:=IntWalk.i64_in _ (by omega)
     have HN2:=Lib.hid (show m+1=0 ↔ noMod (ls.map (·.1)) (j+1)=true from ⟨fun h=>by omega,fun h=>absurd (noMod_iff.1 h j (by omega)) (by rw [← HPJ.out];exact fun hh=>hh h1)⟩)
     clear HN;go_wp2_with (go_at_call 83;refine hpk.mono ?_;rintro e w5 ⟨rfl,hb5⟩)
     go_roundg (k-(j+1))
     case measure=>omega
     case rel=>exact ⟨j+1,m+1,by omega,rfl,by go_num,by omega,by go_num,HN2,HL2,below_cut hb4 hb5 (Nat.le_refl _)⟩
    ·have e1:(pj==1)=false:=by simpa using h1
     have HN2:=Lib.hid (show m=0 ↔ noMod (ls.map (·.1)) (j+1)=true from ⟨fun h=>noMod_iff.2 fun i hi=>by
      by_cases e:i=j
      ·rw [e,← HPJ.out];exact h1
      ·exact noMod_iff.1 (HN.out.1 h) i (by omega),fun h=>HN.out.2 (noMod_iff.2 fun i hi=>noMod_iff.1 h i (by omega))⟩)
     clear HN;go_wp2_with (go_at_call 83;refine hpk.mono ?_;rintro e w5 ⟨rfl,hb5⟩)
     go_roundg (k-(j+1))
     case measure=>omega
     case rel=>exact ⟨j+1,m,by omega,rfl,rfl,by omega,by go_num,HN2,HL2,below_cut hb4 hb5 (Nat.le_refl _)⟩
  ·obtain rfl:j=k:=by omega
   have hv2:=HV.out;rw [mayD_le (fun i hi=>by rw [← HPk.out];exact HL.out i hi),← HPk.out] at hv2
   have hmod:noMod (ls.map (·.1)) j=decide (m=0):=by rw [Bool.eq_iff_iff,decide_eq_true_eq];exact HN.out.symm
   rw [hmod] at hv2;clear HV HN HL hmod
   by_cases h1:p=1
   ·obtain rfl:=h1;rw [if_pos rfl] at hv2;have em:(((m:Nat):Int)==0)=v:=by rw [hv2,Bool.eq_iff_iff,beq_iff_eq,decide_eq_true_eq];omega
    clear hv2;go_wp2_with fail;go_ret
    exact ⟨rfl,hbr⟩
   rw [if_neg h1] at hv2;have e1:(p==1)=false:=by simpa using h1
   by_cases h2:1<p
   case neg =>
    have d1:decide ((1:Int)<p)=false:=decide_eq_false h2;have d2:decide (p>(1:Int))=false:=d1;rw [if_neg (fun hh=>h2 hh.1),if_pos (by omega)] at hv2
    have d3:decide (p<(8:Int))=true:=by rw [decide_eq_true_eq];omega
    obtain rfl:=hv2;clear h1 h2;go_wp2_with fail;go_ret
    exact ⟨rfl,hbr⟩
   have d1:decide ((1:Int)<p)=true:=decide_eq_true h2;have d2:decide (p>(1:Int))=true:=d1
   by_cases hm0:m=0
   ·obtain rfl:=hm0;obtain rfl:v=false:=hv2.trans (if_pos ⟨h2,by simp⟩)
    clear h1 h2 hv2;go_wp2_with fail;go_ret
    exact ⟨rfl,hbr⟩
   have em:(((m:Nat):Int)==0)=false:=by rw [beq_eq_false_iff_ne];omega
   rw [if_neg (fun hh=>hm0 (by simpa using hh.2))] at hv2
   by_cases h8:p<8
   ·have d3:decide (p<(8:Int))=true:=decide_eq_true h8;rw [if_pos h8] at hv2;obtain rfl:=hv2;clear h1 h2 h8;go_wp2_with fail;go_ret
    exact ⟨rfl,hbr⟩
   rw [if_neg h8] at hv2;obtain rfl:p=8:=by omega
   have hO:opAt (ls.map (·.1)) j=x.1.1:=by rw [opAt_ig (by omega),HX.out]
   rw [hO] at hv2;have HO:=Lib.hid hv2;obtain ⟨c0,-,-,-⟩:=HCL.out j hk wr hbr;rw [HX.out] at c0;have HF:=Lib.hid (fun (W:World) (hW:Below w.heap.size w W) (hp:0<j∧partAt (ls.map (·.1)) (j-1)=8) (ho:opAt (ls.map (·.1)) (j-1)=248∨opAt (ls.map (·.1)) (j-1)=245∨opAt (ls.map (·.1)) (j-1)=59)=>by
    obtain ⟨j0,j1,j2,j3⟩:=hasLab HP.out hp.1 hp.2 ho;exact refFirst_any ls (some ⟨b,off,none⟩) n c (j-1) j0 W ((HM.out.reads.below hW).more hW.size) (by omega) j1 j2 j3 hnb)
   obtain ⟨op,hop⟩:∃ op,op=x.1.1:=⟨_,rfl⟩;rw [← hop] at c0;have HO2:Hid (v=mayO op (ahd (ls.map (·.1)) j) (firstD (ls.map (·.1)) (j-1))):=Lib.hid (by rw [hop];exact HO.out)
   clear hv2 hO HO hop h1 h2 h8 hm0 HP d1 d2 e1;go_upto_region 18 with fail
   by_cases hj0:j=0
   case' pos =>
    obtain rfl:=hj0;have HA:Hid (v=mayO op 0 (firstD (ls.map (·.1)) 0)):=HO2;clear HO2;have hbW:=hbr;go_upto_region 20 with fail
   case' neg =>
    have d5:decide ((0:Int)<((j:Nat):Int))=true:=by rw [decide_eq_true_eq];omega
    have d6:decide (((j:Nat):Int)>0)=true:=d5;have wj:IntKind.i64.wrap (((j:Nat):Int)-1)=((j-1:Nat):Int):=by rw [IntWalk.i64_in _ (by omega)];omega
    have hjl:j-1<n:=by omega
    have hpq:=HPT.out (j-1) hjl wr hbr;have hah:ahd (ls.map (·.1)) j=if partAt (ls.map (·.1)) (j-1)=8 then opAt (ls.map (·.1)) (j-1) else 0:=by
     unfold ahd
     by_cases hc:partAt (ls.map (·.1)) (j-1)=8
     ·rw [if_pos ⟨by omega,hc⟩,if_pos hc]
     ·rw [if_neg (fun hh=>hc hh.2),if_neg hc]
    have HAH:=Lib.hid hah;have ho1:opAt (ls.map (·.1)) (j-1)=(ig ls (j-1)).1.1:=opAt_ig (by omega)
    have HO1:=Lib.hid ho1;obtain ⟨g0,g1,g2,g3⟩:=HCL.out (j-1) hjl wr hbr;have hgl:=fun W hW=>(HCL.out (j-1) hjl W hW).1
    have HJ0:=Lib.hid hj0;have HF2:Hid (∀ (W:World),Below w.heap.size w W→partAt (ls.map (·.1)) (j-1)=8→(opAt (ls.map (·.1)) (j-1)=248∨opAt (ls.map (·.1)) (j-1)=245∨opAt (ls.map (·.1)) (j-1)=59)→Calls Tryz.prog 239 #[.slice (some ⟨b,off,none⟩) n c,.int .i64 ((j-1:Nat):Int)] W fun e w'=>e=.returned (.bool (firstD (ls.map (·.1)) (j-1)))∧W=w') :=
     Lib.hid (fun W hW hp ho=>HF.out W hW ⟨by have:=HJ0.out;omega,hp⟩ ho)
    obtain ⟨pq,hpq0⟩:∃ pq,pq=partAt (ls.map (·.1)) (j-1):=⟨_,rfl⟩;rw [← hpq0] at hpq;have HPQ:=Lib.hid hpq0;clear hah ho1 HF hpq0 hj0;generalize hz:ig ls (j-1)=z at *;clear hz;generalize hjm:j-1=j' at *;clear hjm
    by_cases h8:pq=8
    case' neg =>
     have e8:(pq==8)=false:=by simpa using h8
     have HA:Hid (v=mayO op 0 (firstD (ls.map (·.1)) j')):=Lib.hid (by rw [HO2.out,HAH.out,← HPQ.out,if_neg h8])
     clear HO2 hgl;go_upto_region 20 with (go_at_call 83;refine hpq.mono ?_;rintro e w3 ⟨rfl,hb3⟩)
     have hbW:=below_cut hbr hb3 (Nat.le_refl _)
    case pos =>
     obtain rfl:=h8;have HA:Hid (v=mayO op z.1.1 (firstD (ls.map (·.1)) j')):=Lib.hid (by rw [HO2.out,HAH.out,← HPQ.out,if_pos rfl,HO1.out])
     go_upto_region 19 with (go_at_call 83;refine hpq.mono ?_;rintro e w3 ⟨rfl,hb3⟩)
     have hbW:=below_cut hbr hb3 (Nat.le_refl _);clear g0 g1 g2 g3;have g0:=hgl w3 hbW;have hfs:=fun ho=>HF2.out w3 hbW HPQ.out.symm ho
     rw [HO1.out] at hfs;have hne0:z.1.1≠0:=by rw [← HO1.out];exact part8_ne0 HPQ.out.symm
     clear HO2 HAH hgl hpq;generalize z.1.1=ah at *;generalize firstD (ls.map (·.1)) j'=f at *;go_upto_region 20 with fail
     have hEn:=fun w=>refEnds_any ah w
     have z0:(ah==0)=false:=by simpa using hne0
     unfold endsB at hEn;clear g0
     rcases Decidable.em (op=54) with rfl | o54
     ·skip
      rcases Decidable.em (ah=56) with rfl | a56
      ·skip
       obtain rfl:v=true:=HA.out;clear HA;go_wp2_with fail;go_ret
       exact ⟨rfl,hbW⟩
      have ea56:(ah==56)=false:=by simpa using a56
      obtain rfl:v=false:=HA.out.trans (by show decide (ah=0∨ah=56)=false;rw [decide_eq_false_iff_not];omega)
      clear HA;go_wp2_with fail;go_ret
      exact ⟨rfl,hbW⟩
     have eo54:(op==54)=false:=by simpa using o54
     rcases Decidable.em (op=55) with rfl | o55
     ·skip
      rcases Decidable.em (ah=54) with rfl | a54
      ·skip
       obtain rfl:v=true:=HA.out;clear HA;go_wp2_with fail;go_ret
       exact ⟨rfl,hbW⟩
      have ea54:(ah==54)=false:=by simpa using a54
      rcases Decidable.em (ah=55) with rfl | a55
      ·skip
       obtain rfl:v=true:=HA.out;clear HA;go_wp2_with fail;go_ret
       exact ⟨rfl,hbW⟩
      have ea55:(ah==55)=false:=by simpa using a55
      obtain rfl:v=false:=HA.out.trans (by show decide (ah=54∨ah=55)=false;rw [decide_eq_false_iff_not];omega)
      clear HA;go_wp2_with fail;go_ret
      exact ⟨rfl,hbW⟩
     have eo55:(op==55)=false:=by simpa using o55
     rcases Decidable.em (op=248) with rfl | o248
     ·skip
      rcases Decidable.em (ah=54) with rfl | a54
      ·skip
       obtain rfl:v=true:=HA.out;clear HA;go_wp2_with fail;go_ret
       exact ⟨rfl,hbW⟩
      have ea54:(ah==54)=false:=by simpa using a54
      rcases Decidable.em (ah=55) with rfl | a55
      ·skip
       obtain rfl:v=true:=HA.out;clear HA;go_wp2_with fail;go_ret
       exact ⟨rfl,hbW⟩
      have ea55:(ah==55)=false:=by simpa using a55
      obtain rfl:v=(decide (249≤ah)&&decide (ah≤255)):=HA.out.trans (by show decide (ah=54∨ah=55∨(249≤ah∧ah≤255))=_;rw [← Bool.decide_and];congr 1;rw [eq_iff_iff];omega)
      clear HA;go_wp2_with (first | (go_at_call 238;refine (hEn _).mono ?_;rintro e w9 ⟨rfl,rfl⟩))
      go_ret
      exact ⟨rfl,hbW⟩
     have eo248:(op==248)=false:=by simpa using o248
     rcases Decidable.em (op=56) with rfl | o56
     ·skip
      obtain rfl:v=(decide (249≤ah)&&decide (ah≤255)):=HA.out.trans (by show decide (249≤ah∧ah≤255)=_;rw [← Bool.decide_and])
      clear HA;go_wp2_with (first | (go_at_call 238;refine (hEn _).mono ?_;rintro e w9 ⟨rfl,rfl⟩))
      go_ret
      exact ⟨rfl,hbW⟩
     have eo56:(op==56)=false:=by simpa using o56
     rcases Decidable.em (ah=54) with rfl | a54
     ·skip
      obtain rfl:v=false:=HA.out.trans (by unfold mayO;rw [if_neg o54,if_neg o55,if_neg o248,if_neg o56,if_pos (by omega)])
      clear HA;go_wp2_with fail;go_ret
      exact ⟨rfl,hbW⟩
     have ea54:(ah==54)=false:=by simpa using a54
     rcases Decidable.em (ah=55) with rfl | a55
     ·skip
      obtain rfl:v=false:=HA.out.trans (by unfold mayO;rw [if_neg o54,if_neg o55,if_neg o248,if_neg o56,if_pos (by omega)])
      clear HA;go_wp2_with fail;go_ret
      exact ⟨rfl,hbW⟩
     have ea55:(ah==55)=false:=by simpa using a55
     rcases Decidable.em (ah=56) with rfl | a56
     ·skip
      obtain rfl:v=false:=HA.out.trans (by unfold mayO;rw [if_neg o54,if_neg o55,if_neg o248,if_neg o56,if_pos (by omega)])
      clear HA;go_wp2_with fail;go_ret
      exact ⟨rfl,hbW⟩
     have ea56:(ah==56)=false:=by simpa using a56
     by_cases hends:249≤ah∧ah≤255
     ·rw [show (decide (249≤ah)&&decide (ah≤255))=true by rw [← Bool.decide_and];exact decide_eq_true hends] at hEn
      obtain rfl:v=false:=HA.out.trans (by unfold mayO;rw [if_neg o54,if_neg o55,if_neg o248,if_neg o56,if_pos (by omega)])
      clear HA;go_wp2_with (first | (go_at_call 238;refine (hEn _).mono ?_;rintro e w9 ⟨rfl,rfl⟩))
      go_ret
      exact ⟨rfl,hbW⟩
     rw [show (decide (249≤ah)&&decide (ah≤255))=false by rw [← Bool.decide_and];exact decide_eq_false hends] at hEn
     have hmo:mayO op ah f=if op=245 then decide (ah=248∨ah=245)&&!f else if op=59 then decide (ah=248∨ah=59)&&f else if ah=246 then decide (op=249∨op=250) else if ah=247 then decide (op=250∨op=251) else true:=by unfold mayO;rw [if_neg o54,if_neg o55,if_neg o248,if_neg o56,if_neg (by omega)]
     rw [hmo] at HA;clear hmo
     rcases Decidable.em (op=245) with rfl | o245
     ·skip
      rcases Decidable.em (ah=248) with rfl | a248
      ·skip
       obtain rfl:v=(!f):=HA.out.trans (by simp)
       clear HA;go_wp2_with (first | (go_at_call 238;refine (hEn _).mono ?_;rintro e w9 ⟨rfl,rfl⟩) | (go_at_call 239;refine (hfs (by decide)).mono ?_;rintro e w9 ⟨rfl,rfl⟩))
       go_ret
       exact ⟨rfl,hbW⟩
      have ea248:(ah==248)=false:=by simpa using a248
      rcases Decidable.em (ah=245) with rfl | a245
      ·skip
       obtain rfl:v=(!f):=HA.out.trans (by simp)
       clear HA;go_wp2_with (first | (go_at_call 238;refine (hEn _).mono ?_;rintro e w9 ⟨rfl,rfl⟩) | (go_at_call 239;refine (hfs (by decide)).mono ?_;rintro e w9 ⟨rfl,rfl⟩))
       go_ret
       exact ⟨rfl,hbW⟩
      have ea245:(ah==245)=false:=by simpa using a245
      obtain rfl:v=false:=HA.out.trans (by rw [if_pos rfl,decide_eq_false (by omega)];rfl)
      clear HA;go_wp2_with (first | (go_at_call 238;refine (hEn _).mono ?_;rintro e w9 ⟨rfl,rfl⟩))
      go_ret
      exact ⟨rfl,hbW⟩
     have eo245:(op==245)=false:=by simpa using o245
     rcases Decidable.em (op=59) with rfl | o59
     ·skip
      rcases Decidable.em (ah=248) with rfl | a248
      ·skip
       obtain rfl:v=f:=HA.out.trans (by simp)
       clear HA;go_wp2_with (first | (go_at_call 238;refine (hEn _).mono ?_;rintro e w9 ⟨rfl,rfl⟩) | (go_at_call 239;refine (hfs (by decide)).mono ?_;rintro e w9 ⟨rfl,rfl⟩))
       go_ret
       exact ⟨rfl,hbW⟩
      have ea248:(ah==248)=false:=by simpa using a248
      rcases Decidable.em (ah=59) with rfl | a59
      ·skip
       obtain rfl:v=f:=HA.out.trans (by simp)
       clear HA;go_wp2_with (first | (go_at_call 238;refine (hEn _).mono ?_;rintro e w9 ⟨rfl,rfl⟩) | (go_at_call 239;refine (hfs (by decide)).mono ?_;rintro e w9 ⟨rfl,rfl⟩))
       go_ret
       exact ⟨rfl,hbW⟩
      have ea59:(ah==59)=false:=by simpa using a59
      obtain rfl:v=false:=HA.out.trans (by rw [if_neg (by decide),if_pos rfl,decide_eq_false (by omega)];rfl)
      clear HA;go_wp2_with (first | (go_at_call 238;refine (hEn _).mono ?_;rintro e w9 ⟨rfl,rfl⟩))
      go_ret
      exact ⟨rfl,hbW⟩
     have eo59:(op==59)=false:=by simpa using o59
     rcases Decidable.em (ah=246) with rfl | a246
     ·skip
      rcases Decidable.em (op=249) with rfl | o249
      ·skip
       obtain rfl:v=true:=HA.out.trans (by simp)
       clear HA;go_wp2_with (first | (go_at_call 238;refine (hEn _).mono ?_;rintro e w9 ⟨rfl,rfl⟩))
       go_ret
       exact ⟨rfl,hbW⟩
      have eo249:(op==249)=false:=by simpa using o249
      rcases Decidable.em (op=250) with rfl | o250
      ·skip
       obtain rfl:v=true:=HA.out.trans (by simp)
       clear HA;go_wp2_with (first | (go_at_call 238;refine (hEn _).mono ?_;rintro e w9 ⟨rfl,rfl⟩))
       go_ret
       exact ⟨rfl,hbW⟩
      have eo250:(op==250)=false:=by simpa using o250
      obtain rfl:v=false:=HA.out.trans (by rw [if_neg o245,if_neg o59,if_pos rfl,decide_eq_false (by omega)])
      clear HA;go_wp2_with (first | (go_at_call 238;refine (hEn _).mono ?_;rintro e w9 ⟨rfl,rfl⟩))
      go_ret
      exact ⟨rfl,hbW⟩
     have ea246:(ah==246)=false:=by simpa using a246
     rcases Decidable.em (ah=247) with rfl | a247
     ·skip
      rcases Decidable.em (op=250) with rfl | o250
      ·skip
       obtain rfl:v=true:=HA.out.trans (by simp)
       clear HA;go_wp2_with (first | (go_at_call 238;refine (hEn _).mono ?_;rintro e w9 ⟨rfl,rfl⟩))
       go_ret
       exact ⟨rfl,hbW⟩
      have eo250:(op==250)=false:=by simpa using o250
      rcases Decidable.em (op=251) with rfl | o251
      ·skip
       obtain rfl:v=true:=HA.out.trans (by simp)
       clear HA;go_wp2_with (first | (go_at_call 238;refine (hEn _).mono ?_;rintro e w9 ⟨rfl,rfl⟩))
       go_ret
       exact ⟨rfl,hbW⟩
      have eo251:(op==251)=false:=by simpa using o251
      obtain rfl:v=false:=HA.out.trans (by rw [if_neg o245,if_neg o59,if_neg (by decide),if_pos rfl,decide_eq_false (by omega)])
      clear HA;go_wp2_with (first | (go_at_call 238;refine (hEn _).mono ?_;rintro e w9 ⟨rfl,rfl⟩))
      go_ret
      exact ⟨rfl,hbW⟩
     have ea247:(ah==247)=false:=by simpa using a247
     obtain rfl:v=true:=HA.out.trans (by rw [if_neg o245,if_neg o59,if_neg a246,if_neg a247])
     clear HA;go_wp2_with (first | (go_at_call 238;refine (hEn _).mono ?_;rintro e w9 ⟨rfl,rfl⟩))
     go_ret
     exact ⟨rfl,hbW⟩
   all_goals
    clear c0
    first | have hbX:=hbW | have hbX:=hbr
    have hE0:=fun w=>refEnds_any 0 w
    rw [show endsB 0=false from rfl] at hE0
    rcases Decidable.em (op=54) with rfl | o54
    ·skip
     obtain rfl:v=true:=HA.out;clear HA;go_wp2_with fail;go_ret
     exact ⟨rfl,hbX⟩
    have eo54:(op==54)=false:=by simpa using o54
    rcases Decidable.em (op=55) with rfl | o55
    ·skip
     obtain rfl:v=false:=HA.out;clear HA;go_wp2_with fail;go_ret
     exact ⟨rfl,hbX⟩
    have eo55:(op==55)=false:=by simpa using o55
    rcases Decidable.em (op=248) with rfl | o248
    ·skip
     obtain rfl:v=false:=HA.out;clear HA;go_wp2_with (first | (go_at_call 238;refine (hE0 _).mono ?_;rintro e w9 ⟨rfl,rfl⟩))
     go_ret
     exact ⟨rfl,hbX⟩
    have eo248:(op==248)=false:=by simpa using o248
    rcases Decidable.em (op=56) with rfl | o56
    ·skip
     obtain rfl:v=false:=HA.out;clear HA;go_wp2_with (first | (go_at_call 238;refine (hE0 _).mono ?_;rintro e w9 ⟨rfl,rfl⟩))
     go_ret
     exact ⟨rfl,hbX⟩
    have eo56:(op==56)=false:=by simpa using o56
    obtain rfl:v=false:=HA.out.trans (by unfold mayO;rw [if_neg o54,if_neg o55,if_neg o248,if_neg o56,if_pos (by decide)])
    clear HA;go_wp2_with fail;go_ret
    exact ⟨rfl,hbX⟩
end
section
open Go.RowKit
theorem refLay_any (gen bound:Int) (ls:List InstA) (A:Option Addr) (n c:Nat) (w:World) (hM:ModS w w.heap.size A n ls) :
  Calls Tryz.prog 156 #[.agg #[.int .u32 gen,.int .u32 bound,.slice A n c]] w fun e w'=>e=.returned (.agg #[.int .i64 (layM bound (ls.map (·.1))).1,.int .i64 (layM bound (ls.map (·.1))).2])∧Below w.heap.size w w':=by
 have hlen:=hM.reads.insts_len;have hnb:=hM.len;obtain ⟨v,hv⟩:∃ v,v=layM bound (ls.map (·.1)):=⟨_,rfl⟩;rw [← hv];rw [layM_eq] at hv;have HV:=Lib.hid hv;have HM:=Lib.hid hM;have hb0:=((Below.refl w.heap.size w).alloc (Nat.le_refl _) (.cells #[.int .u32 gen,.int .u32 bound,.slice A n c] 25)).alloc (by simp) (.cells #[.int .i64 0,.int .i64 0] 29)
 have k1:=(Blk.new w 25 #[.int .u32 gen,.int .u32 bound,.slice A n c]).alloc (.cells #[.int .i64 0,.int .i64 0] 29);have k2:=Blk.new (w.alloc (.cells #[.int .u32 gen,.int .u32 bound,.slice A n c] 25)) 29 #[.int .i64 0,.int .i64 0];rw [World.size_alloc] at k2;have hsh:=fun (W:World) (hW:Below w.heap.size w W)=>refShape_any gen bound ls A n c W (by omega) ((HM.out.reads.below hW).more hW.size) (fun x hx=>((HM.out.ok x hx).keep hW).more hW.size)
 clear hv hM;obtain ⟨sv,hsv⟩:∃ sv,sv=shapeM bound (ls.map (·.1)):=⟨_,rfl⟩;rw [← hsv] at hsh;have HSV:=Lib.hid hsv;clear hsv;obtain ⟨s1,s2⟩:=sv;go_enter Tryz.func156,Tryz.ntmps156;go_upto_region 1 with fail
 generalize (w.alloc (.cells #[.int .u32 gen,.int .u32 bound,.slice A n c] 25)).alloc (.cells #[.int .i64 0,.int .i64 0] 29)=W at *;have y0:=k1.cell 0;have y1:=k1.cell 1;have y2:=k1.cell 2;simp at y0 y1 y2;have hs1:=hsh W hb0;go_upto_region 2 with (go_at_call 198;refine hs1.mono ?_;rintro e w1 ⟨rfl,hb1⟩)
 have hb2:=below_cut hb0 hb1 (Nat.le_refl _);have k12:=(k1.step hb1).alloc (.cells #[.int .i64 s1,.int .i64 s2] 29);have k22:=(k2.step hb1).alloc (.cells #[.int .i64 s1,.int .i64 s2] 29);have k3:=Blk.new w1 29 #[.int .i64 s1,.int .i64 s2];have hb3:=hb2.alloc hb2.size (.cells #[.int .i64 s1,.int .i64 s2] 29);clear hs1 hsh k1 k2 hb0 hb1 hb2 y0 y1 y2;generalize w1.alloc (.cells #[.int .i64 s1,.int .i64 s2] 29)=W2 at *;generalize w1.heap.size=g3 at *;obtain ⟨x0,x1⟩:=two_ k3;have hv2:=HV.out;rw [← HSV.out] at hv2;dsimp only at hv2;clear HV
 by_cases h0:s1=0
 case neg =>
  rw [if_pos h0] at hv2;obtain rfl:=hv2;have e1:(s1 != 0)=true:=by simpa using h0
  obtain ⟨z0,z1⟩:=two_ k22;have fz:=k22.frozen;go_wp2_with fail;exact bodyPost_ret (spot_end1 rfl _ rfl (spot_put k22 _ _)) rfl ⟨rfl,below_spot hb3 (by omega) _ _⟩
 rw [if_neg (by simpa using h0)] at hv2
 have e1:(s1 != 0)=false:=by rw [h0];rfl
 have HV2:=Lib.hid hv2;have y2:=k12.cell 2;simp at y2;clear hv2 h0 HSV;go_wp2_with fail;clear x0 x1 y2 e1 k3;have hmay:=fun (k:Nat) (W:World) (hW:Below w.heap.size w W) (hk:k<n) hp=>refMay_any ls A n c k W ⟨hnb,(HM.out.reads.below hW).more hW.size,fun x hx=>((HM.out.ok x hx).keep hW).more hW.size⟩ hk hp
 have hpt:∀ j,j<n→∀ W:World,Below w.heap.size w W→Calls Tryz.prog 83 #[.agg (instC (ig ls j))] W fun e w'=>e=.returned (.int .i64 (partAt (ls.map (·.1)) j))∧Below W.heap.size W w':=fun j hj W hW=>by
  rw [partAt_ig (by omega)]
  exact refPart_any (ig ls j) W (((HM.out.keep hW).ok _ (ig_mem (l:=ls) (k:=j) (by omega))).more hW.size)
 unfold instC at hpt;have hcl:∀ j,j<n→∃ b off,A=some ⟨b,off,none⟩∧∀ W:World,Below w.heap.size w W→W.cell? ⟨b,off+j*4,none⟩=some (.int .u16 (ig ls j).1.1)∧W.cell? ⟨b,off+j*4+1,none⟩=some (.int .u32 (ig ls j).1.2.1)∧W.cell? ⟨b,off+j*4+2,none⟩=some (.int .u32 (ig ls j).1.2.2.1) ∧
   W.cell? ⟨b,off+j*4+3,none⟩=some (.slice (ig ls j).2.1 (ig ls j).2.2.1 (ig ls j).2.2.2):=fun j hj=>by
  obtain ⟨b,off,hA,-,hcc⟩:=HM.out.reads.insts (by omega)
  refine ⟨b,off,hA,fun W hW=>?_⟩
  obtain ⟨c0,c1,c2,c3⟩:=hcc j hj;exact ⟨cell_on c0 hW,cell_on c1 hW,cell_on c2 hW,cell_on c3 hW⟩
 have HMAY:=Lib.hid hmay;have HPT:=Lib.hid hpt;have HCL:=Lib.hid hcl;clear hmay hpt hcl;have hL:(ls.map (·.1)).length=n:=by rw [List.length_map];exact hlen
 go_loopg [5,6] n (fun q u i wr=>∃ (j m:Nat),j+q=n∧u=.int .i64 (m:Nat)∧m≤j∧i=.int .i64 (j:Nat)∧Hid (m=0 ↔ noMod (ls.map (·.1)) j=true)∧Hid (∀ i,i<j→mayD (ls.map (·.1)) i=true)∧Below W2.heap.size W2 wr)
 case atStart=>exact ⟨0,0,by omega,rfl,Nat.le_refl _,rfl,Lib.hid ⟨fun _=>rfl,fun _=>rfl⟩,Lib.hid (fun i hi=>absurd hi (Nat.not_lt_zero _)),Below.refl _ _⟩
 case round =>
  obtain ⟨j,m,hq,rfl,hm,rfl,HN,HP,hbr⟩:=hrel;have hbw:=below_cut hb3 hbr (Nat.le_refl _);have k22r:=k22.step hbr
  by_cases hlt:j<n
  ·have hmy:=HMAY.out j wr hbw hlt HP.out;cases hmd:mayD (ls.map (·.1)) j with
   | false =>
    rw [hmd] at hmy;obtain rfl:v=(50,(j:Int)):=by
     rw [HV2.out];unfold layD;rw [badD_at (by omega) HP.out hmd]
    clear HV2 HN HP hmd;go_upto_region 10 with (go_at_call 199;refine hmy.mono ?_;rintro e w3 ⟨rfl,hb4⟩)
    have k23:=k22r.step hb4;obtain ⟨z0,z1⟩:=two_ k23;have fz:=k23.frozen;go_wp2_with fail;exact bodyPost_ret (spot_end1 rfl _ rfl (spot_put k23 _ _)) rfl ⟨rfl,below_spot (below_cut hbw hb4 (Nat.le_refl _)) (by omega) _ _⟩
   | true =>
    rw [hmd] at hmy;obtain ⟨b,off,rfl,hcj⟩:=HCL.out j hlt;have hpj:=HPT.out j hlt;obtain ⟨pj,hpj0⟩:∃ pj,pj=partAt (ls.map (·.1)) j:=⟨_,rfl⟩;rw [← hpj0] at hpj;have HPJ:=Lib.hid hpj0;have HP2:=Lib.hid (show ∀ i,i<j+1→mayD (ls.map (·.1)) i=true from fun i hi=>by
     by_cases e:i=j
     ·rw [e];exact hmd
     ·exact HP.out i (by omega))
    clear hpj0 hmd HP;generalize ig ls j=y at *;go_upto_region 11 with (go_at_call 199;refine hmy.mono ?_;rintro e w3 ⟨rfl,hb4⟩)
    have hb5:=below_cut hbr hb4 (Nat.le_refl _);have hbw5:=below_cut hb3 hb5 (Nat.le_refl _);obtain ⟨c0,c1,c2,c3⟩:=hcj w3 hbw5;have hpk:=hpj w3 hbw5;clear hmy hcj hpj
    by_cases h1:pj=1
    ·have e1:(pj==1)=true:=by simpa using h1
     have wm:IntKind.i64.wrap (((m:Nat):Int)+1)=((m:Nat):Int)+1:=IntWalk.i64_in _ (by omega)
     have HN2:=Lib.hid (show m+1=0 ↔ noMod (ls.map (·.1)) (j+1)=true from ⟨fun h=>by omega,fun h=>absurd (noMod_iff.1 h j (by omega)) (by rw [← HPJ.out];exact fun hh=>hh h1)⟩)
     clear HN;go_wp2_with (go_at_call 83;refine hpk.mono ?_;rintro e w5 ⟨rfl,hb6⟩)
     go_roundg (n-(j+1))
     case measure=>omega
     case rel=>exact ⟨j+1,m+1,by omega,by go_num,by omega,by go_num,HN2,HP2,below_cut hb5 hb6 (Nat.le_refl _)⟩
    ·have e1:(pj==1)=false:=by simpa using h1
     have HN2:=Lib.hid (show m=0 ↔ noMod (ls.map (·.1)) (j+1)=true from ⟨fun h=>noMod_iff.2 fun i hi=>by
      by_cases e:i=j
      ·rw [e,← HPJ.out];exact h1
      ·exact noMod_iff.1 (HN.out.1 h) i (by omega),fun h=>HN.out.2 (noMod_iff.2 fun i hi=>noMod_iff.1 h i (by omega))⟩)
     clear HN;go_wp2_with (go_at_call 83;refine hpk.mono ?_;rintro e w5 ⟨rfl,hb6⟩)
     go_roundg (n-(j+1))
     case measure=>omega
     case rel=>exact ⟨j+1,m,by omega,rfl,by omega,by go_num,HN2,HP2,below_cut hb5 hb6 (Nat.le_refl _)⟩
  ·obtain rfl:j=n:=by omega
   have hv3:=HV2.out;unfold layD at hv3;rw [badD_none (by rw [hL];exact HP.out),hL] at hv3
   dsimp only at hv3;clear HV2 HP
   by_cases hm0:m=0
   ·obtain rfl:v=(51,(j:Int)):=hv3.trans (if_pos (.inl (HN.out.1 hm0)));have em:(((m:Nat):Int)==0)=true:=by rw [hm0];rfl
    clear hv3 HN hm0;obtain ⟨z0,z1⟩:=two_ k22r;have fz:=k22r.frozen;go_wp2_with fail;exact bodyPost_ret (spot_end1 rfl _ rfl (spot_put k22r _ _)) rfl ⟨rfl,below_spot hbw (by omega) _ _⟩
   ·have em:(((m:Nat):Int)==0)=false:=by rw [beq_eq_false_iff_ne];omega
    have hnm:¬ noMod (ls.map (·.1)) j=true:=fun h=>hm0 (HN.out.2 h)
    have hj1:j-1<j:=by omega
    obtain ⟨b,off,rfl,hcj⟩:=HCL.out (j-1) hj1;have hpj:=HPT.out (j-1) hj1 wr hbw;have wj:IntKind.i64.wrap (((j:Nat):Int)-1)=((j-1:Nat):Int):=by rw [IntWalk.i64_in _ (by omega)];omega
    rw [opAt_ig (show j-1<ls.length by omega)] at hv3
    obtain ⟨c0,c1,c2,c3⟩:=hcj wr hbw;generalize partAt (ls.map (·.1)) (j-1)=pj at *;generalize ig ls (j-1)=y at *;generalize hjm:j-1=j' at *;clear hjm HN hm0 HCL HPT HMAY
    by_cases h8:pj=8
    ·obtain rfl:=h8
     by_cases h56:y.1.1=56
     ·obtain rfl:v=(0,0):=hv3.trans (if_neg (fun h=>h.elim hnm (fun h=>h.2 h56)))
      have e5:(y.1.1 != 56)=false:=by simpa using h56
      clear hv3 h56;go_upto_region 15 with (go_at_call 83;refine hpj.mono ?_;rintro e w5 ⟨rfl,hb6⟩;have d0:=(hcj _ (below_cut hbw hb6 (Nat.le_refl _))).1)
      have k25:=k22r.step hb6;obtain ⟨z0,z1⟩:=two_ k25;have fz:=k25.frozen;go_wp2_with fail;exact bodyPost_ret (spot_end1 rfl _ rfl (spot_put k25 _ _)) rfl ⟨rfl,below_spot (below_cut hbw hb6 (Nat.le_refl _)) (by omega) _ _⟩
     ·obtain rfl:v=(51,(j:Int)):=hv3.trans (if_pos (.inr ⟨rfl,h56⟩));have e5:(y.1.1 != 56)=true:=by simpa using h56
      clear hv3 h56;go_upto_region 14 with (go_at_call 83;refine hpj.mono ?_;rintro e w5 ⟨rfl,hb6⟩;have d0:=(hcj _ (below_cut hbw hb6 (Nat.le_refl _))).1)
      have k25:=k22r.step hb6;obtain ⟨z0,z1⟩:=two_ k25;have fz:=k25.frozen;go_wp2_with fail;exact bodyPost_ret (spot_end1 rfl _ rfl (spot_put k25 _ _)) rfl ⟨rfl,below_spot (below_cut hbw hb6 (Nat.le_refl _)) (by omega) _ _⟩
    ·obtain rfl:v=(0,0):=hv3.trans (if_neg (fun h=>h.elim hnm (fun h=>h8 h.1)))
     have e8:(pj==8)=false:=by simpa using h8
     clear hv3;go_upto_region 15 with (go_at_call 83;refine hpj.mono ?_;rintro e w5 ⟨rfl,hb6⟩)
     have k25:=k22r.step hb6;obtain ⟨z0,z1⟩:=two_ k25;have fz:=k25.frozen;go_wp2_with fail;exact bodyPost_ret (spot_end1 rfl _ rfl (spot_put k25 _ _)) rfl ⟨rfl,below_spot (below_cut hbw hb6 (Nat.le_refl _)) (by omega) _ _⟩
end
end Go.Proofs.YteelmakkogdieaaGreatDoor
