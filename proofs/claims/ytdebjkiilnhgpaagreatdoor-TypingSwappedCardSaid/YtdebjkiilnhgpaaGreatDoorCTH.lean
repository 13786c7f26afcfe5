/- Walks: code.Raw, of an operation that there is. -/
import Derived.Test.YtdebjkiilnhgpaaGreatDoorCTG
set_option maxRecDepth 100000
set_option maxHeartbeats 4000000
namespace Go.Proofs.YtdebjkiilnhgpaaGreatDoor
section
open Go.RowKit
theorem headW_len (must:Bool) (n:Int):(headW must n).length≤1:=by
 unfold headW
 split
 ·split <;> simp
 ·simp
theorem raw_some (op ty res bound:Int) (l:List ArgI) (A:Option Addr) (n c:Nat) (w:World) (f:FormI) (hf:formOf op=some f) (hn:n≤6000000000000) (hu:Under 256 (kinds l)) (hsz:∀ a∈l,a.2.2.size≤140737488351232) (hr:Reads w w.heap.size 3 A n (Acells l)) :
  Calls Tryz.prog 125 #[.agg #[.int .u16 op,.int .u32 ty,.int .u32 res,.slice A n c],.int .u32 bound] w (RawIs (op,ty,res,l) bound w):=by
 have ho:=fun w=>of_some op w f hf
 have HF:=Lib.hid hf;have hmf:∀ (fn:Fn) (first cap:Array Value) (w:World),(Instr.makeFunc fn first cap).run Tryz.prog w=.ok (.func fn first cap) w:=fun _ _ _ _=>rfl
 unfold RawIs;obtain ⟨R,hR⟩:∃ R,R=rawR (op,ty,res,l) bound:=⟨_,rfl⟩;rw [← hR];have HR:=Lib.hid hR;unfold formV at ho;have hb0:=((Below.refl w.heap.size w).alloc (Nat.le_refl _) (.cells #[.int .u16 op,.int .u32 ty,.int .u32 res,.slice A n c] 42)).alloc (by simp) (.cells #[.int .u16 0,.slice none 0 0] 174)
 have k2:=(Blk.new w 42 #[.int .u16 op,.int .u32 ty,.int .u32 res,.slice A n c]).alloc (.cells #[.int .u16 0,.slice none 0 0] 174);have k4:=Blk.new (w.alloc (.cells #[.int .u16 op,.int .u32 ty,.int .u32 res,.slice A n c] 42)) 174 #[.int .u16 0,.slice none 0 0];rw [World.size_alloc] at k4;have hlen:=hr.args_len;have hh1:=headW_len f.ty ty;have hh2:=headW_len f.res res;have hH1:=fun B g w h hB=>head_any B g op bound [] 0 f.ty ty 40 w h hB (by simp) (by omega)
 have hH2:=fun B g w h hB=>head_any B g op bound (headW f.ty ty) ((headW f.ty ty).length:Nat) f.res res 41 w h hB (by omega) (by omega)
 have HS:Hid (headsR f (op,ty,res,l) bound=if headE f.ty ty 40 bound=0 then (headE f.res res 41 bound,headW f.ty ty++headW f.res res,(headW f.ty ty).length+(headW f.res res).length) else (headE f.ty ty 40 bound,headW f.ty ty,(headW f.ty ty).length)):=Lib.hid rfl
 obtain ⟨st,hst⟩:∃ st,st=headsR f (op,ty,res,l) bound:=⟨_,rfl⟩;rw [← hst] at HS;have HST:=Lib.hid hst;clear hR hst;generalize headE f.ty ty 40 bound=e1 at *;generalize headE f.res res 41 bound=e2 at *;generalize headW f.ty ty=w1' at *;generalize headW f.res res=w2' at *;generalize bs f.name=s0 at *;generalize f.ty=fT at *;generalize f.res=fR at *;generalize f.most=fm at *;generalize f.part=fp at *;generalize bs f.fixed=s2 at *;generalize bs f.rest=s3 at *;go_enter Tryz.func125,Tryz.ntmps125;go_wp2_with fail;refine (ho _).mono ?_;rintro e w2 ⟨rfl,hb2⟩;have k22:=((k2.step hb2).alloc (.cells #[.int .u16 op,.string s0,.bool fT,.bool fR,.string s2,.string s3,.int .i64 fm,.int .u8 fp] 129)).alloc (.cells #[.int .u16 op,.string s0,.bool fT,.bool fR,.string s2,.string s3,.int .i64 fm,.int .u8 fp,.int .u32 bound,.slice none 0 0,.int .i64 0] 195);have k42:=((k4.step hb2).alloc (.cells #[.int .u16 op,.string s0,.bool fT,.bool fR,.string s2,.string s3,.int .i64 fm,.int .u8 fp] 129)).alloc (.cells #[.int .u16 op,.string s0,.bool fT,.bool fR,.string s2,.string s3,.int .i64 fm,.int .u8 fp,.int .u32 bound,.slice none 0 0,.int .i64 0] 195);have k6:=(Blk.new w2 129 #[.int .u16 op,.string s0,.bool fT,.bool fR,.string s2,.string s3,.int .i64 fm,.int .u8 fp]).alloc (.cells #[.int .u16 op,.string s0,.bool fT,.bool fR,.string s2,.string s3,.int .i64 fm,.int .u8 fp,.int .u32 bound,.slice none 0 0,.int .i64 0] 195);have k8:=Blk.new (w2.alloc (.cells #[.int .u16 op,.string s0,.bool fT,.bool fR,.string s2,.string s3,.int .i64 fm,.int .u8 fp] 129)) 195 #[.int .u16 op,.string s0,.bool fT,.bool fR,.string s2,.string s3,.int .i64 fm,.int .u8 fp,.int .u32 bound,.slice none 0 0,.int .i64 0];rw [World.size_alloc] at k8;have hg2:w.heap.size+2≤w2.heap.size:=by have:=hb2.size;simp at this;omega
 have hb3:=below_cut hb0 hb2 (Nat.le_refl _);have hb4:=(hb3.alloc hb3.size (.cells #[.int .u16 op,.string s0,.bool fT,.bool fR,.string s2,.string s3,.int .i64 fm,.int .u8 fp] 129)).alloc (by simp;omega) (.cells #[.int .u16 op,.string s0,.bool fT,.bool fR,.string s2,.string s3,.int .i64 fm,.int .u8 fp,.int .u32 bound,.slice none 0 0,.int .i64 0] 195)
 have hW:WrS (w2.heap.size+1) (w2.heap.size+1) op bound [] 0 ((w2.alloc (.cells #[.int .u16 op,.string s0,.bool fT,.bool fR,.string s2,.string s3,.int .i64 fm,.int .u8 fp] 129)).alloc (.cells #[.int .u16 op,.string s0,.bool fT,.bool fR,.string s2,.string s3,.int .i64 fm,.int .u8 fp,.int .u32 bound,.slice none 0 0,.int .i64 0] 195)):=⟨Nat.le_refl _,s0,fT,fR,s2,s3,fm,fp,none,0,k8,World.ownsRow_nil _ _ _ _⟩;have hsz3:((w2.alloc (.cells #[.int .u16 op,.string s0,.bool fT,.bool fR,.string s2,.string s3,.int .i64 fm,.int .u8 fp] 129)).alloc (.cells #[.int .u16 op,.string s0,.bool fT,.bool fR,.string s2,.string s3,.int .i64 fm,.int .u8 fp,.int .u32 bound,.slice none 0 0,.int .i64 0] 195)).heap.size=w2.heap.size+2:=by simp
 obtain ⟨y0,y1,y2,y3⟩:=four_ k22;have x2:=k6.cell 2;have x3:=k6.cell 3;simp at x2 x3;clear k2 k4 hb2 hb0 hf ho k8 hb3;go_wp2_with fail;generalize (w2.alloc (.cells #[.int .u16 op,.string s0,.bool fT,.bool fR,.string s2,.string s3,.int .i64 fm,.int .u8 fp] 129)).alloc (.cells #[.int .u16 op,.string s0,.bool fT,.bool fR,.string s2,.string s3,.int .i64 fm,.int .u8 fp,.int .u32 bound,.slice none 0 0,.int .i64 0] 195)=w3 at *;generalize w2.heap.size=g6 at *;refine (hH1 (g6+1) (g6+1) w3 hW (by omega)).mono ?_
 rintro e w4 ⟨rfl,hW4,hb5⟩;rw [List.nil_append,Int.zero_add] at hW4;have k23:=k22.below hb5 (by omega)
 have k43:=k42.below hb5 (by omega)
 have k63:=k6.below hb5 (by omega)
 have hb6:=hb4.trans (hb5.mono (show w.heap.size≤g6+1 by omega))
 have hsz4:g6+2≤w4.heap.size:=by have:=hb5.size;omega
 obtain ⟨u0,u1,u2,u3⟩:=four_ k23;have t3:=k63.cell 3;simp at t3;clear hH1 hW hb5 hb4 y0 y1 y2 y3 x2 x3 k22 k42 k6;have hnext:∀ w5:World,∀ (er:Int) (ws:List Int) (rm:Nat),WrS (g6+1) (g6+1) op bound ws (rm:Nat) w5→st=(er,ws,rm)→Below (g6+1) w4 w5→True:=fun _ _ _ _ _ _ _=>trivial
 clear hnext
 by_cases h0:e1=0
 ·have h0b:(e1==0)=true:=by rw [h0];rfl
  have hst:st=(e2,w1'++w2',w1'.length+w2'.length):=by rw [HS.out,if_pos h0]
  have Hst:=Lib.hid hst;clear h0 hst HS;go_wp2_with fail;refine (hH2 (g6+1) (g6+1) w4 hW4 (by omega)).mono ?_
  rintro e w5 ⟨rfl,hW5,hb7⟩;rw [show ((w1'.length:Nat):Int)+(w2'.length:Nat)=((w1'.length+w2'.length:Nat):Int) from by simp] at hW5
  have k24:=k23.below hb7 (by omega)
  have k44:=k43.below hb7 (by omega)
  have k64:=k63.below hb7 (by omega)
  have hb8:=hb6.trans (hb7.mono (show w.heap.size≤g6+1 by omega))
  have hsz5:g6+2≤w5.heap.size:=by have:=hb7.size;omega
  obtain ⟨v0,v1,v2,v3⟩:=four_ k24;clear hH2 hW4 hb7 hb6 u0 u1 u2 u3 t3 k23 k43 k63;go_wp2_with fail;have hss:st.2.1.length≤2∧st.2.2≤2:=by rw [Hst.out];simp only [List.length_append];omega
  have h9:e2=st.1:=by rw [Hst.out]
  have hW6:WrS (g6+1) (g6+1) op bound st.2.1 (st.2.2:Nat) w5:=by rw [Hst.out];exact hW5
  clear hW5;go_wp2_with fail;rw [h9];clear v0 v1 v2 v3;go_loopg [9,45] n (fun q v i wr=>∃ k:Nat,k+q=n∧i=.int .i64 (k:Nat)∧v=.int .i64 (loopR op bound l st k).1∧WrS (g6+1) (g6+1) op bound (loopR op bound l st k).2.1 ((loopR op bound l st k).2.2:Nat) wr∧Blk wr w.heap.size 42 #[.int .u16 op,.int .u32 ty,.int .u32 res,.slice A n c]∧Blk wr (w.heap.size+1) 174 #[.int .u16 0,.slice none 0 0]∧Blk wr g6 129 #[.int .u16 op,.string s0,.bool fT,.bool fR,.string s2,.string s3,.int .i64 fm,.int .u8 fp]∧Below w.heap.size w wr∧g6+2≤wr.heap.size)
  case atStart=>exact ⟨0,by omega,rfl,rfl,hW6,k24,k44,k64,hb8,hsz5⟩
  case round =>
   obtain ⟨k,hq,rfl,rfl,hWk,k25,k45,k65,hb9,hsz6⟩:=hrel;have hlw:=loopR_words op bound l st k;have hlr:=loopR_room op bound l st k hsz (by omega)
   by_cases hlt:k<n
   ·have hstep:loopR op bound l st (k+1)=stepR op bound k (ag l k) (loopR op bound l st k):=rfl;have HSt:=Lib.hid hstep;have hmem:=hsz _ (ag_mem (l:=l) (k:=k) (by omega))
    obtain ⟨b,off,rfl,hbb,hc⟩:=(hr.below hb9).args (by omega)
    obtain ⟨c0,c1,c2⟩:=hc k hlt;clear hstep hc;generalize ag l k=x at *;obtain ⟨x1,x2,x3⟩:=x;generalize loopR op bound l st k=sk at *;obtain ⟨ek,wk,rk⟩:=sk;dsimp only at *;have hWk2:=hWk.step ((Below.refl wr.heap.size wr).alloc (Nat.le_refl _) (.cells #[.int .u8 x1,.int .u32 x2,.string x3] 44));have k26:=k25.alloc (.cells #[.int .u8 x1,.int .u32 x2,.string x3] 44);have k46:=k45.alloc (.cells #[.int .u8 x1,.int .u32 x2,.string x3] 44);have k66:=k65.alloc (.cells #[.int .u8 x1,.int .u32 x2,.string x3] 44);have hb10:=hb9.alloc hb9.size (.cells #[.int .u8 x1,.int .u32 x2,.string x3] 44);have hsz7:g6+2≤(wr.alloc (.cells #[.int .u8 x1,.int .u32 x2,.string x3] 44)).heap.size:=by simp;omega
    clear hWk k25 k45 k65 hb9
    by_cases hek:ek=0
    ·have hekb:(ek==0)=true:=by rw [hek];rfl
     have Hek:=Lib.hid hek;have hA:=arg_any (g6+1) (g6+1) op bound wk (rk:Nat) k x1 x2 x3 _ hWk2 (by omega) (by omega) (by omega) hmem (by omega)
     clear hek;go_wp2_with fail;refine hA.mono ?_;rintro e w6 ⟨rfl,hW7,hb11⟩;have hs1:loopR op bound l st (k+1)=(argE op bound k x1 x2 x3,wk++argW op k x1 x2 x3,rk+argR op k x1 x2 x3):=by rw [HSt.out];unfold stepR;rw [if_pos Hek.out]
     have Hs1:=Lib.hid hs1;rw [← Int.natCast_add] at hW7;have k27:=k26.below hb11 (by omega)
     have k47:=k46.below hb11 (by omega)
     have k67:=k66.below hb11 (by omega)
     have hb12:=hb10.trans (hb11.mono (show w.heap.size≤g6+1 by omega))
     have hsz8:g6+2≤w6.heap.size:=by have:=hb11.size;omega
     clear hs1 k26 k46 k66 hb10 hb11;go_wp2_with fail;go_roundg (n-(k+1))
     case measure=>omega
     case rel=>exact ⟨k+1,by omega,by go_num,by rw [Hs1.out],by rw [Hs1.out];exact hW7,k27,k47,k67,hb12,hsz8⟩
    ·have hekb:(ek==0)=false:=by simpa using hek
     have Hek:=Lib.hid hek;have hs1:loopR op bound l st (k+1)=(ek,wk,rk):=by rw [HSt.out];unfold stepR;rw [if_neg Hek.out]
     have Hs1:=Lib.hid hs1;clear hek hs1;go_wp2_with fail;go_roundg (n-(k+1))
     case measure=>omega
     case rel=>exact ⟨k+1,by omega,by go_num,by rw [Hs1.out],by rw [Hs1.out];exact hWk2,k26,k46,k66,hb10,hsz7⟩
   ·obtain rfl:gk=0:=by omega
    obtain rfl:k=n:=by omega
    have hWh:=fun w hr=>whole_any op s0 fT fR s2 s3 fm fp A k c l w (by omega) hu hr
    obtain ⟨y0,y1,y2,y3⟩:=four_ k25;have x65:=fun i=>k65.cell i
    obtain ⟨sk,hsk⟩:∃ sk,sk=loopR op bound l st k:=⟨_,rfl⟩;have hR0:=HR.out;unfold rawR at hR0;rw [show formOf (op,ty,res,l).1=some f from HF.out] at hR0
    dsimp only at hR0;rw [← HST.out,hlen,← hsk] at hR0;rw [← hsk] at hWk hlw hlr ⊢;clear hsk;obtain ⟨er,wk,rk⟩:=sk;dsimp only at *;have HR0:=Lib.hid hR0;clear hR0
    by_cases her:er=0
    ·have herb:(er==0)=true:=by rw [her];rfl
     have Her:=Lib.hid her;clear her;have y65:=fun i=>k65.cell i
     have p0:=y65 0;have p1:=y65 1;have p2:=y65 2;have p3:=y65 3;have p4:=y65 4;have p5:=y65 5;have p6:=y65 6;have p7:=y65 7;simp at p0 p1 p2 p3 p4 p5 p6 p7;clear y65;go_wp2_with fail;refine (hWh wr (hr.below hb9 |>.more (by omega))).mono ?_
     rintro e w7 ⟨rfl,hb10⟩;have k47:=k45.step hb10;have k27:=k25.step hb10;have hb11:=below_cut hb9 hb10 (Nat.le_refl _);have hW8:=hWk.step hb10;obtain ⟨-,-,r10⟩:=hW8.bound_;obtain ⟨z0,z1⟩:=two_ k47;have fz:=k47.frozen;obtain ⟨we,hwe⟩:∃ we,we=wholeE op l:=⟨_,rfl⟩;have hR2:=HR0.out;rw [← hwe] at hR2 ⊢;rw [if_pos Her.out] at hR2;have HR2:=Lib.hid hR2;clear hwe hR2 hWh hb10 hb9 k45 k25 hWk p0 p1 p2 p3 p4 p5 p6 p7 y0 y1 y2 y3
     by_cases hw0:we=0
     ·have hwb:(we==0)=true:=by rw [hw0];rfl
      by_cases hbig:65535≤rk
      ·have hbb:decide ((65535:Int)≤(rk:Int))=true:=by simp;omega
       have hR1:=Lib.hid (show R=(25,[]) by rw [HR2.out];simp [hw0,hbig])
       clear hw0 hbig;go_wp2_with fail;have k46:=raw_put k47 (.int .u16 0) (.slice none 0 0);have hb20:=(hb11.setCell (p:=⟨w.heap.size+1,0,none⟩) (show w.heap.size≤w.heap.size+1 by omega) (.int .u16 0)).setCell (p:=⟨w.heap.size+1,1,none⟩) (show w.heap.size≤w.heap.size+1 by omega) (.slice none 0 0)
       clear z0 z1 fz;generalize (w7.setCell ⟨w.heap.size+1,0,none⟩ (.int .u16 0)).setCell ⟨w.heap.size+1,1,none⟩ (.slice none 0 0)=w9 at *;obtain ⟨z0,z1⟩:=two_ k46;refine bodyPost_ret (v:=.tuple #[.agg #[.int .u16 0,.slice none 0 0],.int .i64 25]) (by rw [results_ct1 rfl];go_simp) rfl ⟨0,none,0,by rw [hR1.out];rfl,hb20⟩
      ·have hbb:decide ((65535:Int)≤(rk:Int))=false:=by simp;omega
       have hR1:=Lib.hid (show R=(0,wk) by rw [HR2.out];simp [hw0,hbig])
       have hwn:(we != 0)=false:=by rw [hw0];rfl
       clear hw0 hbig;obtain ⟨q0,q1,q2,q3⟩:=four_ k27;obtain ⟨hg,s0',T',R',s2',s3',m',part',A',c',kw,how⟩:=hW8;unfold wcells at kw;obtain ⟨-,-,r9,-⟩:=eleven_ kw.cell;go_wp2_with fail;refine wp_region_tail 7 (by kernel_rfl) (by kernel_rfl) ?_
       simp only [List.take_succ_cons,List.take_zero,List.drop_succ_cons,List.drop_zero]
       repeat (go_big_quiet_step (fail))
       refine wpQuiet_nil ?_;go_wp2_with fail;have k46:=(raw_put k47 (.int .u16 op) (.slice A' wk.length c')).drew;have hb20:=((hb11.setCell (p:=⟨w.heap.size+1,0,none⟩) (show w.heap.size≤w.heap.size+1 by omega) (.int .u16 op)).setCell (p:=⟨w.heap.size+1,1,none⟩) (show w.heap.size≤w.heap.size+1 by omega) (.slice A' wk.length c')).drew
       clear z0 z1 fz;generalize ((w7.setCell ⟨w.heap.size+1,0,none⟩ (.int .u16 op)).setCell ⟨w.heap.size+1,1,none⟩ (.slice A' wk.length c')).drew=w9 at *;obtain ⟨z0,z1⟩:=two_ k46;refine bodyPost_ret (v:=.tuple #[.agg #[.int .u16 op,.slice A' wk.length c'],.int .i64 0]) (by rw [results_ct1 rfl];go_simp) rfl ⟨op,A',c',by rw [hR1.out],hb20⟩
     ·have hwb:(we==0)=false:=by simpa using hw0
      have hwn:(we != 0)=true:=by simpa using hw0
      have hR1:=Lib.hid (show R=(we,[]) by rw [HR2.out];simp [hw0])
      clear hw0;go_wp2_with fail;have k46:=raw_put k47 (.int .u16 0) (.slice none 0 0);have hb20:=(hb11.setCell (p:=⟨w.heap.size+1,0,none⟩) (show w.heap.size≤w.heap.size+1 by omega) (.int .u16 0)).setCell (p:=⟨w.heap.size+1,1,none⟩) (show w.heap.size≤w.heap.size+1 by omega) (.slice none 0 0)
      clear z0 z1 fz;generalize (w7.setCell ⟨w.heap.size+1,0,none⟩ (.int .u16 0)).setCell ⟨w.heap.size+1,1,none⟩ (.slice none 0 0)=w9 at *;obtain ⟨z0,z1⟩:=two_ k46;refine bodyPost_ret (v:=.tuple #[.agg #[.int .u16 0,.slice none 0 0],.int .i64 we]) (by rw [results_ct1 rfl];go_simp) rfl ⟨0,none,0,by rw [hR1.out];rfl,hb20⟩
    ·have herb:(er==0)=false:=by simpa using her
     have hern:(er != 0)=true:=by simpa using her
     have hR1:=Lib.hid (show R=(er,[]) by rw [HR0.out];simp [her])
     obtain ⟨z0,z1⟩:=two_ k45;have fz:=k45.frozen;clear her hWh;go_wp2_with fail;have k46:=raw_put k45 (.int .u16 0) (.slice none 0 0);have hb10:=(hb9.setCell (p:=⟨w.heap.size+1,0,none⟩) (show w.heap.size≤w.heap.size+1 by omega) (.int .u16 0)).setCell (p:=⟨w.heap.size+1,1,none⟩) (show w.heap.size≤w.heap.size+1 by omega) (.slice none 0 0)
     clear z0 z1 fz;generalize (wr.setCell ⟨w.heap.size+1,0,none⟩ (.int .u16 0)).setCell ⟨w.heap.size+1,1,none⟩ (.slice none 0 0)=w9 at *;obtain ⟨z0,z1⟩:=two_ k46;refine bodyPost_ret (v:=.tuple #[.agg #[.int .u16 0,.slice none 0 0],.int .i64 er]) (by rw [results_ct1 rfl];go_simp) rfl ⟨0,none,0,by rw [hR1.out];rfl,hb10⟩
 ·have h0b:(e1==0)=false:=by simpa using h0
  have hst:st=(e1,w1',w1'.length):=by rw [HS.out,if_neg h0]
  have Hst:=Lib.hid hst;obtain ⟨v0,v1,v2,v3⟩:=four_ k23;have k24:=k23;have k44:=k43;have k64:=k63;have hb8:=hb6;have hsz5:=hsz4;have hss:st.2.1.length≤2∧st.2.2≤2:=by rw [Hst.out];simp only;omega
  have h9:e1=st.1:=by rw [Hst.out]
  have hW6:WrS (g6+1) (g6+1) op bound st.2.1 (st.2.2:Nat) w4:=by rw [Hst.out];exact hW4
  have H9:=Lib.hid h9;clear h9 h0 hst HS hH2 u0 u1 u2 u3 t3 k23 k43 k63 hb6 hsz4 hW4;go_wp2_with fail;rw [H9.out];clear v0 v1 v2 v3;go_loopg [9,45] n (fun q v i wr=>∃ k:Nat,k+q=n∧i=.int .i64 (k:Nat)∧v=.int .i64 (loopR op bound l st k).1∧WrS (g6+1) (g6+1) op bound (loopR op bound l st k).2.1 ((loopR op bound l st k).2.2:Nat) wr∧Blk wr w.heap.size 42 #[.int .u16 op,.int .u32 ty,.int .u32 res,.slice A n c]∧Blk wr (w.heap.size+1) 174 #[.int .u16 0,.slice none 0 0]∧Blk wr g6 129 #[.int .u16 op,.string s0,.bool fT,.bool fR,.string s2,.string s3,.int .i64 fm,.int .u8 fp]∧Below w.heap.size w wr∧g6+2≤wr.heap.size)
  case atStart=>exact ⟨0,by omega,rfl,rfl,hW6,k24,k44,k64,hb8,hsz5⟩
  case round =>
   obtain ⟨k,hq,rfl,rfl,hWk,k25,k45,k65,hb9,hsz6⟩:=hrel;have hlw:=loopR_words op bound l st k;have hlr:=loopR_room op bound l st k hsz (by omega)
   by_cases hlt:k<n
   ·have hstep:loopR op bound l st (k+1)=stepR op bound k (ag l k) (loopR op bound l st k):=rfl;have HSt:=Lib.hid hstep;have hmem:=hsz _ (ag_mem (l:=l) (k:=k) (by omega))
    obtain ⟨b,off,rfl,hbb,hc⟩:=(hr.below hb9).args (by omega)
    obtain ⟨c0,c1,c2⟩:=hc k hlt;clear hstep hc;generalize ag l k=x at *;obtain ⟨x1,x2,x3⟩:=x;generalize loopR op bound l st k=sk at *;obtain ⟨ek,wk,rk⟩:=sk;dsimp only at *;have hWk2:=hWk.step ((Below.refl wr.heap.size wr).alloc (Nat.le_refl _) (.cells #[.int .u8 x1,.int .u32 x2,.string x3] 44));have k26:=k25.alloc (.cells #[.int .u8 x1,.int .u32 x2,.string x3] 44);have k46:=k45.alloc (.cells #[.int .u8 x1,.int .u32 x2,.string x3] 44);have k66:=k65.alloc (.cells #[.int .u8 x1,.int .u32 x2,.string x3] 44);have hb10:=hb9.alloc hb9.size (.cells #[.int .u8 x1,.int .u32 x2,.string x3] 44);have hsz7:g6+2≤(wr.alloc (.cells #[.int .u8 x1,.int .u32 x2,.string x3] 44)).heap.size:=by simp;omega
    clear hWk k25 k45 k65 hb9
    by_cases hek:ek=0
    ·have hekb:(ek==0)=true:=by rw [hek];rfl
     have Hek:=Lib.hid hek;have hA:=arg_any (g6+1) (g6+1) op bound wk (rk:Nat) k x1 x2 x3 _ hWk2 (by omega) (by omega) (by omega) hmem (by omega)
     clear hek;go_wp2_with fail;refine hA.mono ?_;rintro e w6 ⟨rfl,hW7,hb11⟩;have hs1:loopR op bound l st (k+1)=(argE op bound k x1 x2 x3,wk++argW op k x1 x2 x3,rk+argR op k x1 x2 x3):=by rw [HSt.out];unfold stepR;rw [if_pos Hek.out]
     have Hs1:=Lib.hid hs1;rw [← Int.natCast_add] at hW7;have k27:=k26.below hb11 (by omega)
     have k47:=k46.below hb11 (by omega)
     have k67:=k66.below hb11 (by omega)
     have hb12:=hb10.trans (hb11.mono (show w.heap.size≤g6+1 by omega))
     have hsz8:g6+2≤w6.heap.size:=by have:=hb11.size;omega
     clear hs1 k26 k46 k66 hb10 hb11;go_wp2_with fail;go_roundg (n-(k+1))
     case measure=>omega
     case rel=>exact ⟨k+1,by omega,by go_num,by rw [Hs1.out],by rw [Hs1.out];exact hW7,k27,k47,k67,hb12,hsz8⟩
    ·have hekb:(ek==0)=false:=by simpa using hek
     have Hek:=Lib.hid hek;have hs1:loopR op bound l st (k+1)=(ek,wk,rk):=by rw [HSt.out];unfold stepR;rw [if_neg Hek.out]
     have Hs1:=Lib.hid hs1;clear hek hs1;go_wp2_with fail;go_roundg (n-(k+1))
     case measure=>omega
     case rel=>exact ⟨k+1,by omega,by go_num,by rw [Hs1.out],by rw [Hs1.out];exact hWk2,k26,k46,k66,hb10,hsz7⟩
   ·obtain rfl:gk=0:=by omega
    obtain rfl:k=n:=by omega
    have hWh:=fun w hr=>whole_any op s0 fT fR s2 s3 fm fp A k c l w (by omega) hu hr
    obtain ⟨y0,y1,y2,y3⟩:=four_ k25;have x65:=fun i=>k65.cell i
    obtain ⟨sk,hsk⟩:∃ sk,sk=loopR op bound l st k:=⟨_,rfl⟩;have hR0:=HR.out;unfold rawR at hR0;rw [show formOf (op,ty,res,l).1=some f from HF.out] at hR0
    dsimp only at hR0;rw [← HST.out,hlen,← hsk] at hR0;rw [← hsk] at hWk hlw hlr ⊢;clear hsk;obtain ⟨er,wk,rk⟩:=sk;dsimp only at *;have HR0:=Lib.hid hR0;clear hR0
    by_cases her:er=0
    ·have herb:(er==0)=true:=by rw [her];rfl
     have Her:=Lib.hid her;clear her;have y65:=fun i=>k65.cell i
     have p0:=y65 0;have p1:=y65 1;have p2:=y65 2;have p3:=y65 3;have p4:=y65 4;have p5:=y65 5;have p6:=y65 6;have p7:=y65 7;simp at p0 p1 p2 p3 p4 p5 p6 p7;clear y65;go_wp2_with fail;refine (hWh wr (hr.below hb9 |>.more (by omega))).mono ?_
     rintro e w7 ⟨rfl,hb10⟩;have k47:=k45.step hb10;have k27:=k25.step hb10;have hb11:=below_cut hb9 hb10 (Nat.le_refl _);have hW8:=hWk.step hb10;obtain ⟨-,-,r10⟩:=hW8.bound_;obtain ⟨z0,z1⟩:=two_ k47;have fz:=k47.frozen;obtain ⟨we,hwe⟩:∃ we,we=wholeE op l:=⟨_,rfl⟩;have hR2:=HR0.out;rw [← hwe] at hR2 ⊢;rw [if_pos Her.out] at hR2;have HR2:=Lib.hid hR2;clear hwe hR2 hWh hb10 hb9 k45 k25 hWk p0 p1 p2 p3 p4 p5 p6 p7 y0 y1 y2 y3
     by_cases hw0:we=0
     ·have hwb:(we==0)=true:=by rw [hw0];rfl
      by_cases hbig:65535≤rk
      ·have hbb:decide ((65535:Int)≤(rk:Int))=true:=by simp;omega
       have hR1:=Lib.hid (show R=(25,[]) by rw [HR2.out];simp [hw0,hbig])
       clear hw0 hbig;go_wp2_with fail;have k46:=raw_put k47 (.int .u16 0) (.slice none 0 0);have hb20:=(hb11.setCell (p:=⟨w.heap.size+1,0,none⟩) (show w.heap.size≤w.heap.size+1 by omega) (.int .u16 0)).setCell (p:=⟨w.heap.size+1,1,none⟩) (show w.heap.size≤w.heap.size+1 by omega) (.slice none 0 0)
       clear z0 z1 fz;generalize (w7.setCell ⟨w.heap.size+1,0,none⟩ (.int .u16 0)).setCell ⟨w.heap.size+1,1,none⟩ (.slice none 0 0)=w9 at *;obtain ⟨z0,z1⟩:=two_ k46;refine bodyPost_ret (v:=.tuple #[.agg #[.int .u16 0,.slice none 0 0],.int .i64 25]) (by rw [results_ct1 rfl];go_simp) rfl ⟨0,none,0,by rw [hR1.out];rfl,hb20⟩
      ·have hbb:decide ((65535:Int)≤(rk:Int))=false:=by simp;omega
       have hR1:=Lib.hid (show R=(0,wk) by rw [HR2.out];simp [hw0,hbig])
       have hwn:(we != 0)=false:=by rw [hw0];rfl
       clear hw0 hbig;obtain ⟨q0,q1,q2,q3⟩:=four_ k27;obtain ⟨hg,s0',T',R',s2',s3',m',part',A',c',kw,how⟩:=hW8;unfold wcells at kw;obtain ⟨-,-,r9,-⟩:=eleven_ kw.cell;go_wp2_with fail;refine wp_region_tail 7 (by kernel_rfl) (by kernel_rfl) ?_
       simp only [List.take_succ_cons,List.take_zero,List.drop_succ_cons,List.drop_zero]
       repeat (go_big_quiet_step (fail))
       refine wpQuiet_nil ?_;go_wp2_with fail;have k46:=(raw_put k47 (.int .u16 op) (.slice A' wk.length c')).drew;have hb20:=((hb11.setCell (p:=⟨w.heap.size+1,0,none⟩) (show w.heap.size≤w.heap.size+1 by omega) (.int .u16 op)).setCell (p:=⟨w.heap.size+1,1,none⟩) (show w.heap.size≤w.heap.size+1 by omega) (.slice A' wk.length c')).drew
       clear z0 z1 fz;generalize ((w7.setCell ⟨w.heap.size+1,0,none⟩ (.int .u16 op)).setCell ⟨w.heap.size+1,1,none⟩ (.slice A' wk.length c')).drew=w9 at *;obtain ⟨z0,z1⟩:=two_ k46;refine bodyPost_ret (v:=.tuple #[.agg #[.int .u16 op,.slice A' wk.length c'],.int .i64 0]) (by rw [results_ct1 rfl];go_simp) rfl ⟨op,A',c',by rw [hR1.out],hb20⟩
     ·have hwb:(we==0)=false:=by simpa using hw0
      have hwn:(we != 0)=true:=by simpa using hw0
      have hR1:=Lib.hid (show R=(we,[]) by rw [HR2.out];simp [hw0])
      clear hw0;go_wp2_with fail;have k46:=raw_put k47 (.int .u16 0) (.slice none 0 0);have hb20:=(hb11.setCell (p:=⟨w.heap.size+1,0,none⟩) (show w.heap.size≤w.heap.size+1 by omega) (.int .u16 0)).setCell (p:=⟨w.heap.size+1,1,none⟩) (show w.heap.size≤w.heap.size+1 by omega) (.slice none 0 0)
      clear z0 z1 fz;generalize (w7.setCell ⟨w.heap.size+1,0,none⟩ (.int .u16 0)).setCell ⟨w.heap.size+1,1,none⟩ (.slice none 0 0)=w9 at *;obtain ⟨z0,z1⟩:=two_ k46;refine bodyPost_ret (v:=.tuple #[.agg #[.int .u16 0,.slice none 0 0],.int .i64 we]) (by rw [results_ct1 rfl];go_simp) rfl ⟨0,none,0,by rw [hR1.out];rfl,hb20⟩
    ·have herb:(er==0)=false:=by simpa using her
     have hern:(er != 0)=true:=by simpa using her
     have hR1:=Lib.hid (show R=(er,[]) by rw [HR0.out];simp [her])
     obtain ⟨z0,z1⟩:=two_ k45;have fz:=k45.frozen;clear her hWh;go_wp2_with fail;have k46:=raw_put k45 (.int .u16 0) (.slice none 0 0);have hb10:=(hb9.setCell (p:=⟨w.heap.size+1,0,none⟩) (show w.heap.size≤w.heap.size+1 by omega) (.int .u16 0)).setCell (p:=⟨w.heap.size+1,1,none⟩) (show w.heap.size≤w.heap.size+1 by omega) (.slice none 0 0)
     clear z0 z1 fz;generalize (wr.setCell ⟨w.heap.size+1,0,none⟩ (.int .u16 0)).setCell ⟨w.heap.size+1,1,none⟩ (.slice none 0 0)=w9 at *;obtain ⟨z0,z1⟩:=two_ k46;refine bodyPost_ret (v:=.tuple #[.agg #[.int .u16 0,.slice none 0 0],.int .i64 er]) (by rw [results_ct1 rfl];go_simp) rfl ⟨0,none,0,by rw [hR1.out];rfl,hb10⟩
theorem raw_any (op ty res bound:Int) (l:List ArgI) (A:Option Addr) (n c:Nat) (w:World) (hn:n≤6000000000000) (hu:Under 256 (kinds l)) (hsz:∀ a∈l,a.2.2.size≤140737488351232) (hr:Reads w w.heap.size 3 A n (Acells l)) :
  Calls Tryz.prog 125 #[.agg #[.int .u16 op,.int .u32 ty,.int .u32 res,.slice A n c],.int .u32 bound] w (RawIs (op,ty,res,l) bound w):=by
 cases hf:formOf op with
 | none=>exact raw_none op ty res bound l A n c w hf
 | some f=>exact raw_some op ty res bound l A n c w f hf hn hu hsz hr
end
section
open Go.RowKit
theorem spot_put {W:World} {g:Nat} {x0 x1:Value} (k:Blk W g 28 #[x0,x1]) (y0 y1:Value):Blk ((W.setCell ⟨g,0,none⟩ y0).setCell ⟨g,1,none⟩ y1) g 28 #[y0,y1]:=by
 simpa using (k.set_ 0 y0).set_ 1 y1
theorem counted_nil (w:World) :
  Calls Tryz.prog 136 #[.slice none 0 0] w fun e w'=>e=.returned (.tuple #[.int .i64 5,.agg #[.int .i64 0,.int .i64 0]])∧Below w.heap.size w w':=by
 have hb:=(Below.refl w.heap.size w).alloc (Nat.le_refl _) (.cells #[.int .i64 0,.int .i64 0] 28);have k3:=Blk.new w 28 #[.int .i64 0,.int .i64 0];go_enter Tryz.func136,Tryz.ntmps136;go_wp2_with fail;generalize w.alloc (.cells #[.int .i64 0,.int .i64 0] 28)=w1 at *;go_loopg [4,9] 0 (fun _ v i wr=>v=.int .i64 5∧i=.int .i64 0∧Blk wr w.heap.size 28 #[.int .i64 0,.int .i64 0]∧Below w.heap.size w wr)
 case atStart=>exact ⟨rfl,rfl,k3,hb⟩
 case round =>
  obtain ⟨rfl,rfl,kr,hbr⟩:=hrel;obtain ⟨z0,z1⟩:=two_ kr;have fz:=kr.frozen;go_wp2_with fail;have k4:=spot_put kr (.int .i64 0) (.int .i64 0);have hb2:=(hbr.setCell (p:=⟨w.heap.size,0,none⟩) (Nat.le_refl _) (.int .i64 0)).setCell (p:=⟨w.heap.size,1,none⟩) (Nat.le_refl _) (.int .i64 0);clear z0 z1 fz;generalize (wr.setCell ⟨w.heap.size,0,none⟩ (.int .i64 0)).setCell ⟨w.heap.size,1,none⟩ (.int .i64 0)=w9 at *;obtain ⟨z0,z1⟩:=two_ k4;exact bodyPost_ret (v:=.tuple #[.int .i64 5,.agg #[.int .i64 0,.int .i64 0]]) (by simp [results,Tryz.results136,go_sem,z0,z1]) rfl ⟨rfl,hb2⟩
theorem size_nil (w:World) :
  Calls Tryz.prog 124 #[.slice none 0 0] w fun e w'=>e=.returned (.tuple #[.int .i64 5,.int .i64 0])∧Below w.heap.size w w':=by
 have hc:=counted_nil w;go_enter Tryz.func124,Tryz.ntmps124;go_wp2_with (go_at_call 136;refine hc.mono ?_;rintro e w2 ⟨rfl,hb2⟩)
 go_quiet (fail)
 go_wp2_with fail;go_ret2
 exact ⟨rfl,below_drewN (hb2.alloc hb2.size _) _⟩
end
section
open Go.RowKit
abbrev InstA:=InstI × Option Addr × Nat × Nat
def Icells:List InstA→List Value
 | []=>[]
 | q :: r=>.int .u16 q.1.1 :: .int .u32 q.1.2.1 :: .int .u32 q.1.2.2.1 :: .slice q.2.1 q.2.2.1 q.2.2.2 :: Icells r
def ig (l:List InstA) (k:Nat):InstA:=l.getD k ((0,0,0,[]),none,0,0)
theorem Icells_length (l:List InstA):(Icells l).length=l.length*4:=by
 induction l with
 | nil=>rfl
 | cons p r ih=>simp only [Icells,List.length_cons,ih];omega
theorem Icells_at:∀ {l:List InstA} {k:Nat},k<l.length→(Icells l)[k*4]?=some (.int .u16 (ig l k).1.1)∧(Icells l)[k*4+1]?=some (.int .u32 (ig l k).1.2.1)∧(Icells l)[k*4+2]?=some (.int .u32 (ig l k).1.2.2.1)∧(Icells l)[k*4+3]?=some (.slice (ig l k).2.1 (ig l k).2.2.1 (ig l k).2.2.2)
 | p :: r,0,_=>⟨rfl,rfl,rfl,rfl⟩
 | p :: r,k+1,h=>by
  have h1:=Icells_at (l:=r) (k:=k) (by simpa using h)
  have e:(k+1)*4=k*4+4:=by omega
  rw [e];exact h1
theorem ig_of {l:List InstA} {k:Nat} (h:k<l.length):ig l k=l[k]:=by simp [ig,List.getD,List.getElem?_eq_getElem h]
theorem ig_mem {l:List InstA} {k:Nat} (h:k<l.length):ig l k∈l:=by rw [ig_of h];exact List.getElem_mem h
theorem Reads.insts_len {w:World} {B n:Nat} {A:Option Addr} {l:List InstA} (h:Reads w B 4 A n (Icells l)):l.length=n:=by have:=h.1;rw [Icells_length] at this;omega
theorem Reads.insts {w:World} {B n:Nat} {A:Option Addr} {l:List InstA} (h:Reads w B 4 A n (Icells l)) (hn:0<n) :
  ∃ b off,A=some ⟨b,off,none⟩∧b<B∧∀ k,k<n→w.cell? ⟨b,off+k*4,none⟩=some (.int .u16 (ig l k).1.1)∧w.cell? ⟨b,off+k*4+1,none⟩=some (.int .u32 (ig l k).1.2.1) ∧
   w.cell? ⟨b,off+k*4+2,none⟩=some (.int .u32 (ig l k).1.2.2.1)∧w.cell? ⟨b,off+k*4+3,none⟩=some (.slice (ig l k).2.1 (ig l k).2.2.1 (ig l k).2.2.2):=by
 have hl:=h.insts_len;obtain ⟨ad,rfl,hb,hc⟩:=h.2 hn;obtain ⟨b,off,spot⟩:=ad;have h0:=hc 0 _ (Icells_at (l:=l) (k:=0) (by omega)).1
 have hs:spot=none:=by simpa [Addr.add] using World.cell?_spot h0
 subst hs;refine ⟨b,off,rfl,hb,fun k hk=>?_⟩
 obtain ⟨h0,h1,h2,h3⟩:=Icells_at (l:=l) (k:=k) (by omega)
 have e:=fun j=>add_plain b off j
 refine ⟨?_,?_,?_,?_⟩
 ·rw [← e];exact hc _ _ h0
 ·rw [Nat.add_assoc,← e];exact hc _ _ h1
 ·rw [Nat.add_assoc,← e];exact hc _ _ h2
 ·rw [Nat.add_assoc,← e];exact hc _ _ h3
structure InstOk (w:World) (B:Nat) (x:InstA):Prop where
 reads:Reads w B 3 x.2.1 x.2.2.1 (Acells x.1.2.2.2)
 len:x.2.2.1≤6000000000000
 kinds:Under 256 (kinds x.1.2.2.2)
 text:∀ a∈x.1.2.2.2,a.2.2.size≤140737488351232
noncomputable def shapeR (bound:Int):List InstI→Nat→Int→Int × Int
 | [],_,_=>(0,0)
 | i :: r,k,left =>
  if (rawR i bound).1≠0 then ((rawR i bound).1,k)
  else if left-(1+(rawR i bound).2.length)<0 then (4,k)
  else shapeR bound r (k+1) (left-(1+(rawR i bound).2.length))
noncomputable def shapeM (bound:Int) (l:List InstI):Int × Int:=if bound=0∨65536<bound then (24,0) else shapeR bound l 0 1048571
theorem headsR_len (f:FormI) (i:InstI) (bound:Int):(headsR f i bound).2.1.length≤2:=by
 have h:∀ (must:Bool) (n:Int),(headW must n).length≤1:=fun must n=>by
  unfold headW
  split
  ·split <;> simp
  ·simp
 have h1:=h f.ty i.2.1;have h2:=h f.res i.2.2.1;unfold headsR
 split
 ·simp only [List.length_append];omega
 ·simp only;omega
theorem rawR_len (i:InstI) (bound:Int):(rawR i bound).2.length≤i.2.2.2.length+3997637:=by
 unfold rawR;cases formOf i.1 with
 | none=>simp
 | some f =>
  have h1:=loopR_words i.1 bound i.2.2.2 (headsR f i bound) i.2.2.2.length;have h2:=headsR_len f i bound;have h:∀ (e:Int) (ws:List Int),(if e=0 then ((0:Int),ws) else (e,[])).2.length≤ws.length:=fun e ws=>by split <;> simp
  exact Nat.le_trans (h _ _) (by omega)
end
section
open Go.RowKit
theorem slRaw:SliceOf Tryz.prog 147 174 (.agg #[.int .u16 0,.slice none 0 0]) 2 32:=⟨Tryz.underlying147,by kernel_rfl,rfl,by decide⟩
def RawsIs (bound:Int) (l:List InstI) (w:World) (e:Ending) (w':World):Prop:=∃ (A':Option Addr) (n' c':Nat),
 e=.returned (.tuple #[.slice A' n' c',.agg #[.int .i64 (shapeM bound l).1,.int .i64 (shapeM bound l).2]])∧Below w.heap.size w w'
theorem raws_bad (gen bound:Int) (l:List InstI) (A:Option Addr) (n c:Nat) (w:World) (hb:bound=0∨65536<bound) :
  Calls Tryz.prog 103 #[.agg #[.int .u32 gen,.int .u32 bound,.slice A n c]] w (RawsIs bound l w):=by
 have hR:shapeM bound l=(24,0):=if_pos hb;unfold RawsIs;rw [hR];clear hR
 by_cases h0:bound=0
 ·have h0b:(bound==0)=true:=by rw [h0];rfl
  clear h0 hb;go_enter Tryz.func103,Tryz.ntmps103;go_wp2_with fail;exact bodyPost_ret (v:=.tuple #[.slice none 0 0,.agg #[.int .i64 24,.int .i64 0]]) (by simp [results,Tryz.results103,go_sem]) rfl ⟨none,0,0,rfl,((Below.refl w.heap.size w).alloc (Nat.le_refl _) _).alloc (by simp) _⟩
 ·have h0b:(bound==0)=false:=by simpa using h0
  have hgt:decide ((65536:Int)<bound)=true:=by simp;omega
  clear h0 hb;go_enter Tryz.func103,Tryz.ntmps103;go_wp2_with fail;exact bodyPost_ret (v:=.tuple #[.slice none 0 0,.agg #[.int .i64 24,.int .i64 0]]) (by simp [results,Tryz.results103,go_sem]) rfl ⟨none,0,0,rfl,((Below.refl w.heap.size w).alloc (Nat.le_refl _) _).alloc (by simp) _⟩
end
section
open Go.RowKit
theorem lit_cells2 (w:World) (cs:Array Value) (t:TypeId) (n:Nat) (h:cs.size=n) (hm:n≤1000):∀ j u,cs.toList[j]?=some u→(w.alloc (.cells cs t)).cell? ((⟨w.heap.size,0,none⟩:Addr).add j)=some u :=
 (World.ownsRow_lit (base:=0) (e:=t) (size:=1) w cs n (Nat.zero_le _) (by unfold maxLen;omega) (by omega)).cells rfl
theorem Reads.litN (w:World) (cs:Array Value) (t:TypeId) (size n k:Nat) (h:cs.size=k) (hk:k=n*size) (hm:k≤1000):Reads (w.alloc (.cells cs t)) (w.heap.size+1) size (some ⟨w.heap.size,0,none⟩) n cs.toList :=
 ⟨by simp [h,hk],fun _=>⟨_,rfl,by simp,lit_cells2 w cs t k h hm⟩⟩
theorem raws_ok (gen bound:Int) (ls:List InstA) (A:Option Addr) (n c:Nat) (w:World) (hb:¬ (bound=0∨65536<bound)) (hn:n≤35184372087808) (hr:Reads w w.heap.size 4 A n (Icells ls)) (hok:∀ x∈ls,InstOk w w.heap.size x) :
  Calls Tryz.prog 103 #[.agg #[.int .u32 gen,.int .u32 bound,.slice A n c]] w (RawsIs bound (ls.map (·.1)) w):=by
 have hlen:=hr.insts_len;have h0b:(bound==0)=false:=by simp;exact fun e=>hb (.inl e)
 have hgt:decide ((65536:Int)<bound)=false:=by simp;omega
 have hR:shapeM bound (ls.map (·.1))=shapeR bound (ls.map (·.1)) 0 1048571:=if_neg hb;have hsz:=size_nil;unfold RawsIs;rw [hR];obtain ⟨v,hv⟩:∃ v,v=shapeR bound (ls.map (·.1)) 0 1048571:=⟨_,rfl⟩;rw [← hv];have HV:=Lib.hid hv;clear hR hv hb;have hb0:=((Below.refl w.heap.size w).alloc (Nat.le_refl _) (.cells #[.int .u32 gen,.int .u32 bound,.slice A n c] 25)).alloc (by simp) (.cells #[.int .i64 0,.int .i64 0] 28)
 have k1:=(Blk.new w 25 #[.int .u32 gen,.int .u32 bound,.slice A n c]).alloc (.cells #[.int .i64 0,.int .i64 0] 28);have k3:=Blk.new (w.alloc (.cells #[.int .u32 gen,.int .u32 bound,.slice A n c] 25)) 28 #[.int .i64 0,.int .i64 0];rw [World.size_alloc] at k3;go_enter Tryz.func103,Tryz.ntmps103;go_wp2_with fail;refine (hsz _).mono ?_;rintro e w2 ⟨rfl,hb2⟩;have k12:=k1.step hb2;have k32:=k3.step hb2;have hb3:=below_cut hb0 hb2 (Nat.le_refl _);have hsz2:w.heap.size+2≤w2.heap.size:=by have:=hb2.size;simp at this;omega
 have y2:=k12.cell 2;simp at y2;clear hb0 k1 k3 hb2 hsz;go_wp2_with fail;have hv0:v=shapeR bound ((ls.map (·.1)).drop 0) 0 1048571:=HV.out;have HV0:=Lib.hid hv0;clear hv0 y2;go_loopg [4,6,29] n (fun q a u i wr=>∃ (k:Nat) (lf:Int) (xs:List Value),k+q=n∧i=.int .i64 (k:Nat)∧a=.int .i64 lf∧0≤lf∧lf+(k:Int)≤1048571∧Hid (v=shapeR bound ((ls.map (·.1)).drop k) k lf)∧wr.ownsRow (w.heap.size+2) 174 2 u k xs∧Blk wr w.heap.size 25 #[.int .u32 gen,.int .u32 bound,.slice A n c]∧Blk wr (w.heap.size+1) 28 #[.int .i64 0,.int .i64 0]∧Below w.heap.size w wr∧w.heap.size+2≤wr.heap.size)
 case atStart=>exact ⟨0,1048571,[],by omega,rfl,rfl,by decide,by decide,HV0,World.ownsRow_nil _ _ _ _,k12,k32,hb3,hsz2⟩
 case round =>
  obtain ⟨k,lf,xs,hq,rfl,rfl,hl0,hl1,HK,ho,k13,k33,hb4,hsz3⟩:=hrel
  by_cases hlt:k<n
  ·obtain ⟨b,off,rfl,hbb,hc⟩:=(hr.below hb4).insts (by omega)
   obtain ⟨c0,c1,c2,c3⟩:=hc k hlt;have hmem:=hok _ (ig_mem (l:=ls) (k:=k) (by omega))
   have hdrop:(ls.map (·.1)).drop k=(ig ls k).1 :: (ls.map (·.1)).drop (k+1):=by
    rw [List.drop_eq_getElem_cons (by rw [List.length_map];omega),List.getElem_map,← ig_of (by omega)]
   have hk1:=HK.out;rw [hdrop] at hk1;unfold shapeR at hk1;clear hc hdrop HK HV0;generalize ig ls k=x at *;obtain ⟨⟨op,ty,res,al⟩,Ax,nx,cx⟩:=x;obtain ⟨hrd,hnx,hkx,htx⟩:=hmem;dsimp only at *;have HK1:=Lib.hid hk1;clear hk1;have hbA:=(Below.refl wr.heap.size wr).alloc (Nat.le_refl _) (.cells #[.int .u16 op,.int .u32 ty,.int .u32 res,.slice Ax nx cx] 42);have k14:=k13.step hbA;have k34:=k33.step hbA;have ho4:=own_below ho hbA;have hb5:=below_cut hb4 hbA (Nat.le_refl _);have hszA:w.heap.size+2≤(wr.alloc (.cells #[.int .u16 op,.int .u32 ty,.int .u32 res,.slice Ax nx cx] 42)).heap.size:=by have:=hbA.size;omega
   have hraw:=raw_any op ty res bound al Ax nx cx _ hnx hkx htx ((hrd.below hb5).more (B':=(wr.alloc (.cells #[.int .u16 op,.int .u32 ty,.int .u32 res,.slice Ax nx cx] 42)).heap.size) (by omega))
   have hrl:=hrd.args_len;have y1:=k14.cell 1;simp at y1;clear hrd hkx htx hbA k13 k33 ho hb4;go_wp2_with fail;refine hraw.mono ?_;rintro e w5 ⟨p,A',c',rfl,hb6⟩;have hlenw:=rawR_len (op,ty,res,al) bound;have hal:=hrl;obtain ⟨rr,hrr⟩:∃ rr,rr=rawR (op,ty,res,al) bound:=⟨_,rfl⟩;have hk2:=HK1.out;rw [← hrr] at hk2 hlenw ⊢;clear hrr HK1;obtain ⟨er,ws⟩:=rr;dsimp only at *;have HK2:=Lib.hid hk2;have hwl:ws.length≤6000003997637:=by omega
   have k15:=(k14.step hb6).alloc (.cells #[.int .u16 p,.slice A' ws.length c'] 174);have k35:=(k34.step hb6).alloc (.cells #[.int .u16 p,.slice A' ws.length c'] 174);have ho5:=(own_below ho4 hb6).alloc (.cells #[.int .u16 p,.slice A' ws.length c'] 174);have hb7:=below_cut hb5 hb6 (Nat.le_refl _);have hb8:=hb7.alloc hb7.size (.cells #[.int .u16 p,.slice A' ws.length c'] 174);have hsz8:w.heap.size+2≤(w5.alloc (.cells #[.int .u16 p,.slice A' ws.length c'] 174)).heap.size:=by have:=hb6.size;simp;omega
   clear hk2 k14 k34 ho4 hb5 hb6 hb7
   by_cases her:er=0
   ·by_cases hlf:lf-(1+(ws.length:Int))<0
    ·have hern:(er != 0)=false:=by rw [her];rfl
     have hv2:=Lib.hid (show v=(4,(k:Int)) by rw [HK2.out];simp [her,hlf])
     clear her;obtain ⟨z0,z1⟩:=two_ k35;have fz:=k35.frozen;go_wp2_with fail;have k4:=spot_put k35 (.int .i64 4) (.int .i64 (k:Nat));have hb5:=(hb8.setCell (p:=⟨w.heap.size+1,0,none⟩) (show w.heap.size≤w.heap.size+1 by omega) (.int .i64 4)).setCell (p:=⟨w.heap.size+1,1,none⟩) (show w.heap.size≤w.heap.size+1 by omega) (.int .i64 (k:Nat))
     clear z0 z1 fz;generalize ((w5.alloc (.cells #[.int .u16 p,.slice A' ws.length c'] 174)).setCell ⟨w.heap.size+1,0,none⟩ (.int .i64 4)).setCell ⟨w.heap.size+1,1,none⟩ (.int .i64 (k:Nat))=w9 at *;obtain ⟨z0,z1⟩:=two_ k4;exact bodyPost_ret (v:=.tuple #[.slice none 0 0,.agg #[.int .i64 4,.int .i64 (k:Nat)]]) (by simp [results,Tryz.results103,go_sem,z0,z1]) rfl ⟨none,0,0,by rw [hv2.out],hb5⟩
    ·have hern:(er != 0)=false:=by rw [her];rfl
     have hv2:=Lib.hid (show v=shapeR bound ((ls.map (·.1)).drop (k+1)) (k+1) (lf-(1+(ws.length:Int))) by rw [HK2.out];simp [her,hlf])
     obtain ⟨A1,cc,rfl⟩:=own_shape ho5;clear her;have hlit:=Reads.litN (w5.alloc (.cells #[.int .u16 p,.slice A' ws.length c'] 174)) #[.int .u16 p,.slice A' ws.length c'] 174 2 1 2 rfl rfl (by omega)
     rw [World.size_alloc] at hlit;have hne1:=Ne.symm (own_blk_ne ho5 k15 (by decide))
     have hne3:=Ne.symm (own_blk_ne ho5 k35 (by decide))
     go_wp2_with (at_builtin;refine ap_any slRaw _ rfl _ _ rfl (w.heap.size+2) _ _ _ rfl (ho5.alloc _) _ _ 1 1 [.int .u16 p,.slice A' ws.length c'] rfl hlit (by simp [Value.oneCell']) (by omega) (by omega) (by rw [World.size_alloc];omega) ?_;intro A8 c8 w8 ho8 hg8 hat8)
     have k18:=(k15.alloc _).grown hg8 hne1;have k38:=(k35.alloc _).grown hg8 hne3;have hb9:=(hb8.alloc hb8.size _).grown hg8 (by rw [World.size_alloc];omega) (fun j hj=>by have:=(ho5.lt j hj).1;omega)
     have hsz9:w.heap.size+2≤w8.heap.size:=by have:=hg8.size;rw [World.size_alloc] at this;omega
     go_roundg (n-(k+1))
     case measure=>omega
     case rel=>exact ⟨k+1,lf-(1+(ws.length:Int)),_,by omega,rfl,rfl,by omega,by omega,hv2,ho8,k18,k38,hb9,hsz9⟩
   ·have hern:(er != 0)=true:=by simpa using her
    have hv2:=Lib.hid (show v=(er,(k:Int)) by rw [HK2.out];simp [her])
    clear her;obtain ⟨z0,z1⟩:=two_ k35;have fz:=k35.frozen;go_wp2_with fail;have k4:=spot_put k35 (.int .i64 er) (.int .i64 (k:Nat));have hb5:=(hb8.setCell (p:=⟨w.heap.size+1,0,none⟩) (show w.heap.size≤w.heap.size+1 by omega) (.int .i64 er)).setCell (p:=⟨w.heap.size+1,1,none⟩) (show w.heap.size≤w.heap.size+1 by omega) (.int .i64 (k:Nat))
    clear z0 z1 fz;generalize ((w5.alloc (.cells #[.int .u16 p,.slice A' ws.length c'] 174)).setCell ⟨w.heap.size+1,0,none⟩ (.int .i64 er)).setCell ⟨w.heap.size+1,1,none⟩ (.int .i64 (k:Nat))=w9 at *;obtain ⟨z0,z1⟩:=two_ k4;exact bodyPost_ret (v:=.tuple #[.slice none 0 0,.agg #[.int .i64 er,.int .i64 (k:Nat)]]) (by simp [results,Tryz.results103,go_sem,z0,z1]) rfl ⟨none,0,0,by rw [hv2.out],hb5⟩
  ·obtain rfl:gk=0:=by omega
   obtain rfl:k=n:=by omega
   have hv1:v=(0,0):=by
    rw [HK.out,List.drop_of_length_le (by rw [List.length_map,hlen];exact Nat.le_refl _)]
    rfl
   have HV1:=Lib.hid hv1;obtain ⟨A1,c1,rfl⟩:=own_shape ho;obtain ⟨z0,z1⟩:=two_ k33;have fz:=k33.frozen;clear hv1;go_wp2_with fail;have k4:=spot_put k33 (.int .i64 0) (.int .i64 0);have hb5:=(hb4.setCell (p:=⟨w.heap.size+1,0,none⟩) (show w.heap.size≤w.heap.size+1 by omega) (.int .i64 0)).setCell (p:=⟨w.heap.size+1,1,none⟩) (show w.heap.size≤w.heap.size+1 by omega) (.int .i64 0)
   clear z0 z1 fz;generalize (wr.setCell ⟨w.heap.size+1,0,none⟩ (.int .i64 0)).setCell ⟨w.heap.size+1,1,none⟩ (.int .i64 0)=w9 at *;obtain ⟨z0,z1⟩:=two_ k4;exact bodyPost_ret (v:=.tuple #[.slice A1 k c1,.agg #[.int .i64 0,.int .i64 0]]) (by simp [results,Tryz.results103,go_sem,z0,z1]) rfl ⟨A1,k,c1,by rw [HV1.out],hb5⟩
theorem raws_any (gen bound:Int) (ls:List InstA) (A:Option Addr) (n c:Nat) (w:World) (hn:n≤35184372087808) (hr:Reads w w.heap.size 4 A n (Icells ls)) (hok:∀ x∈ls,InstOk w w.heap.size x) :
  Calls Tryz.prog 103 #[.agg #[.int .u32 gen,.int .u32 bound,.slice A n c]] w (RawsIs bound (ls.map (·.1)) w):=by
 by_cases hb:bound=0∨65536<bound
 ·exact raws_bad gen bound _ A n c w hb
 ·exact raws_ok gen bound ls A n c w hb hn hr hok
end
end Go.Proofs.YtdebjkiilnhgpaaGreatDoor
