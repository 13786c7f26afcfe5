/- Walks: the document's types of numbers, of vectors, of functions. -/
import Derived.Test.YteelmakkogdieaaGreatDoorCSA
import Derived.Test.YteelmakkogdieaaGreatDoorCUG
import Derived.Test.YteelmakkogdieaaGreatDoorCRE
import Derived.Test.YteelmakkogdieaaGreatDoorCUI
set_option maxRecDepth 100000
set_option maxHeartbeats 8000000
namespace Go.Proofs.YteelmakkogdieaaGreatDoor
section
open Go.RowKit
def RoneIs (x:TyI) (er:Int) (w:World) (e:Ending) (w':World):Prop :=
 ∃ (y:TyI) (s:SlI),e=.returned (.tuple #[.agg (rtV 0 y s),.int .i64 er])∧(er=0→y.kind=x.kind∧y.signed=x.signed∧y.cls=x.cls∧w'.ownsRow w.heap.size 22 1 (.slice s.1 s.2.1 s.2.2) s.2.1 (Ints .u32 (rparts x)))∧Below w.heap.size w w'
structure TyG (wx W:World) (kd cl:Int) (sg:Bool) (A:Option Addr) (m c:Nat) (l:List Int):Prop where
 blk:Blk W wx.heap.size 188 #[.int .u32 0,.int .u8 kd,.bool sg,.int .u32 cl,.slice A m c]
 own:W.ownsRow (wx.heap.size+1) 22 1 (.slice A m c) m (Ints .u32 l)
 below:Below wx.heap.size wx W
 size:wx.heap.size+1≤W.heap.size
section
variable {wx W W' w3:World} {kd cl:Int} {sg:Bool} {A A':Option Addr} {m c c':Nat} {l:List Int} {x:Int}
theorem TyG.new (wx:World) (kd cl:Int) (sg:Bool):TyG wx (wx.alloc (.cells #[.int .u32 0,.int .u8 kd,.bool sg,.int .u32 cl,.slice none 0 0] 188)) kd cl sg none 0 0 [] :=
 ⟨Blk.new wx _ _,World.ownsRow_nil _ _ _ _,(Below.refl _ _).alloc (Nat.le_refl _) _,by simp⟩
theorem TyG.step (h:TyG wx W kd cl sg A m c l) (hb:Below W.heap.size W W'):TyG wx W' kd cl sg A m c l :=
 ⟨h.blk.step hb,own_below h.own hb,below_cut h.below hb (Nat.le_refl _),Nat.le_trans h.size hb.size⟩
theorem TyG.mid (h:TyG wx W kd cl sg A m c l) {o:Obj} (hg:(W.alloc o).grownBy w3 (Value.slice A m c).ownBlock):w3.cell? ⟨wx.heap.size,4,none⟩=some (.slice A m c)∧w3.frozen? ⟨wx.heap.size,4,none⟩=false:=by
 have k:=(h.blk.alloc o).grown hg (Ne.symm (own_ne_low h.own (by omega)))
 exact ⟨k.cell 4,k.frozen 4⟩
theorem TyG.put (h:TyG wx W kd cl sg A m c l) {o:Obj} (hg:(W.alloc o).grownBy w3 (Value.slice A m c).ownBlock) (ho:w3.ownsRow (wx.heap.size+1) 22 1 (.slice A' (m+1) c') (m+1) (Ints .u32 l++[.int .u32 x])) :
  TyG wx (w3.setCell ⟨wx.heap.size,4,none⟩ (.slice A' (m+1) c')) kd cl sg A' (m+1) c' (l++[x]):=by
 have hs:=h.size;have k:=(h.blk.alloc o).grown hg (Ne.symm (own_ne_low h.own (by omega)))
 refine ⟨by simpa using k.set_ 4 (.slice A' (m+1) c'),?_,?_,?_⟩
 ·rw [Ints_append];exact own_set_other ho (p:=⟨wx.heap.size,4,none⟩) (own_ne_low ho (by show wx.heap.size<_;omega)) _
 ·exact ((h.below.alloc (by omega) o).grown hg (by rw [World.size_alloc];omega) (fun j hj=>by have:=(h.own.lt j hj).1;omega)).setCell (p:=⟨wx.heap.size,4,none⟩) (Nat.le_refl _) _
 ·have:=hg.size;rw [World.size_alloc] at this
  show _≤(w3.setCell ⟨wx.heap.size,4,none⟩ (.slice A' (m+1) c')).heap.size
  simp
  omega
end
theorem own_put5 {W:World} {base n size g:Nat} {e:TypeId} {v:Value} {xs:List Value} (h:W.ownsRow base e size v n xs) (hg:v.ownBlock≠some g) (y0 y1 y2 y3 y4:Value):(put5 W g y0 y1 y2 y3 y4).ownsRow base e size v n xs :=
 own_set_other (p:=⟨g,4,none⟩) (own_set_other (p:=⟨g,3,none⟩) (own_set_other (p:=⟨g,2,none⟩) (own_set_other (p:=⟨g,1,none⟩) (own_set_other (p:=⟨g,0,none⟩) h hg _) hg _) hg _) hg _) hg _
theorem two_ahead (w:World) (cs:Array Value) :
  ∃ W:World,(w.alloc (.cells cs 51)).alloc (.cells #[.int .u32 0,.int .u8 0,.bool false,.int .u32 0,.slice none 0 0] 188)=W∧Below w.heap.size w W∧Blk W w.heap.size 51 cs∧Blk W (w.heap.size+1) 188 #[.int .u32 0,.int .u8 0,.bool false,.int .u32 0,.slice none 0 0]∧W.heap.size=w.heap.size+1+1:=by
 refine ⟨_,rfl,((Below.refl w.heap.size w).alloc (Nat.le_refl _) _).alloc (by simp) _,(Blk.new w 51 cs).alloc _,?_,by simp⟩
 have k2:=Blk.new (w.alloc (.cells cs 51)) 188 #[.int .u32 0,.int .u8 0,.bool false,.int .u32 0,.slice none 0 0];rw [World.size_alloc] at k2;exact k2
theorem rbits_any (op ty res:Int) (al:List ArgI) (A:Option Addr) (n c:Nat) (w:World) (hr:Reads w w.heap.size 3 A n (Acells al)) (hn:2≤n) :
  Calls Tryz.prog 158 #[.agg #[.int .u16 op,.int .u32 ty,.int .u32 res,.slice A n c]] w (RoneIs { ty0 with kind:=3,size:=1,depth:=1,signed:=ixn (nums al) 1==1 } (if ixn (nums al) 0≠32∨1<ixn (nums al) 1 then 102 else 0) w):=by
 have hl:=hr.args_len;obtain ⟨W,hW,hb,kI,kR,hsz⟩:=two_ahead w #[.int .u16 op,.int .u32 ty,.int .u32 res,.slice A n c];obtain ⟨b,off,rfl,hbb,hcc⟩:=(hr.below hb).args (by omega)
 obtain ⟨-,c0,-⟩:=hcc 0 (by omega)
 obtain ⟨-,c1,-⟩:=hcc 1 (by omega)
 rw [nums_getD (show 0<al.length by omega),nums_getD (show 1<al.length by omega)]
 generalize (ag al 0).2.1=x at *;generalize (ag al 1).2.1=y at *;have hlt0:(0:Int)<(n:Int):=by omega
 have hlt1:(1:Int)<(n:Int):=by omega
 have hn0:0<n:=by omega
 have hn1:1<n:=by omega
 have e5:off+1*3+1=off+3+1:=by omega
 simp only [Nat.zero_mul,Nat.add_zero] at c0;obtain ⟨z0,z1,z2,z3⟩:=four_ kI;obtain ⟨q0,q1,q2,q3,q4⟩:=five_ kR;have fz:=kR.frozen;clear hcc hr hl
 by_cases hx:x=32
 ·have e1:(x != 32)=false:=by rw [hx];rfl
  by_cases hy:1<y
  ·have d1:decide (y>1)=true:=decide_eq_true hy;rw [if_pos (.inr hy)];clear hx hy;go_enter Tryz.func158,Tryz.ntmps158;go_upto_region 1 with fail
   go_wp2_with fail;exact bodyPost_ret (rt_end (i:=0) (y:=ty0) (s:=sl0) rfl _ rfl rfl (blk_put5 kR _ _ _ _ _)) rfl ⟨ty0,sl0,rfl,fun h=>(by cases h),below_put5 hb (by omega) _ _ _ _ _⟩
  ·have d1:decide (y>1)=false:=decide_eq_false hy;rw [if_neg (by rintro (h | h);exact h hx;exact hy h)]
   clear hx hy;go_enter Tryz.func158,Tryz.ntmps158;go_upto_region 1 with fail
   go_wp2_with fail;exact bodyPost_ret (rt_end (i:=0) (y:={ ty0 with kind:=3,signed:=y==1 }) (s:=sl0) rfl _ rfl rfl (blk_put5 kR _ _ _ _ _)) rfl ⟨_,sl0,rfl,fun _=>⟨rfl,rfl,rfl,World.ownsRow_nil _ _ _ _⟩,below_put5 hb (by omega) _ _ _ _ _⟩
 ·have e1:(x != 32)=true:=by simpa using hx
  rw [if_pos (.inl hx)];clear hx;go_enter Tryz.func158,Tryz.ntmps158;go_upto_region 1 with fail
  go_wp2_with fail;exact bodyPost_ret (rt_end (i:=0) (y:=ty0) (s:=sl0) rfl _ rfl rfl (blk_put5 kR _ _ _ _ _)) rfl ⟨ty0,sl0,rfl,fun h=>(by cases h),below_put5 hb (by omega) _ _ _ _ _⟩
theorem vectorT_of {T:Int→TyI} (hY:Typed T) {p n:Int} (h1:(T p).kind=2∨(T p).kind=3) (h2:2≤n) (h3:n≤4):vectorT T p n=({ ty0 with kind:=4,part:=p,times:=n,size:=n,depth:=(T p).depth+1 },0):=by
 have hd:=(hY.leaf p h1).1;unfold vectorT;rw [if_neg (by omega),if_neg (by omega)]
 unfold wholeT;rw [if_neg (by omega),if_neg (by omega)]
theorem rep_step (p:Int) (k:Nat):List.replicate k p++[p]=List.replicate (k+1) p:=by rw [List.replicate_succ']
theorem rvector_any (p:Option Addr) (T:Int→TyI) (ord:List Int) (hY:Typed T) (hout:∀ id,id ∉ ord→T id=ty0) (op ty res:Int) (al:List ArgI) (A:Option Addr) (n c:Nat) (w:World) (h:RTab w p T ord) (hr:Reads w w.heap.size 3 A n (Acells al)) (hn:2≤n) (hu:0≤ixn (nums al) 1∧ixn (nums al) 1<4294967296) :
  Calls Tryz.prog 159 #[.pointer p,.agg #[.int .u16 op,.int .u32 ty,.int .u32 res,.slice A n c]] w (RoneIs (vectorT T (ixn (nums al) 0) (ixn (nums al) 1)).1 (vectorT T (ixn (nums al) 0) (ixn (nums al) 1)).2 w):=by
 have hl:=hr.args_len;obtain ⟨W,hW,hb,kI,kR,hsz⟩:=two_ahead w #[.int .u16 op,.int .u32 ty,.int .u32 res,.slice A n c];have hra:=(hr.below hb);rw [nums_getD (show 0<al.length by omega),nums_getD (show 1<al.length by omega)] at *
 have hkd:=fun w' (hb:Below w.heap.size w w')=>rkind_any p T ord (ag al 0).2.1 w' (h.step hb) hout
 obtain ⟨r,hrr⟩:∃ r,r=vectorT T (ag al 0).2.1 (ag al 1).2.1:=⟨_,rfl⟩;rw [← hrr];have hof:=fun h1 h2 h3=>hrr.trans (vectorT_of hY (p:=(ag al 0).2.1) (n:=(ag al 1).2.1) h1 h2 h3)
 unfold vectorT at hrr;have HR:=Lib.hid hrr;have HOF:=Lib.hid hof;have HRA:=Lib.hid hra;clear hrr hof hra hr h;obtain ⟨b,off,rfl,hbb,hcc⟩:=HRA.out.args (by omega)
 obtain ⟨-,c0,-⟩:=hcc 0 (by omega)
 obtain ⟨-,c1,-⟩:=hcc 1 (by omega)
 generalize (ag al 0).2.1=x at *;generalize hy:(ag al 1).2.1=y at *;have hlt0:(0:Int)<(n:Int):=by omega
 have hlt1:(1:Int)<(n:Int):=by omega
 have hn0:0<n:=by omega
 have hn1:1<n:=by omega
 simp only [Nat.zero_mul,Nat.add_zero] at c0;have hc1:=fun (W':World) (hW':Below W.heap.size W W')=>cell_on c1 hW'
 clear hcc hl hy;have hk1:=hkd W hb;generalize hkk:(T x).kind=kx at *;go_enter Tryz.func159,Tryz.ntmps159;go_upto_region 1 with fail
 clear hW;obtain ⟨z0,z1,z2,z3⟩:=four_ kI
 by_cases h2:kx=2
 case' neg =>
  have e2:(kx != 2)=true:=by simpa using h2
  by_cases h3:kx=3
  case neg =>
   have e3:(kx != 3)=true:=by simpa using h3
   obtain rfl:=HR.out.trans (if_pos ⟨h2,h3⟩);clear HR HOF h2 h3;go_wp2_with fail;refine hk1.mono ?_;rintro e w1 ⟨rfl,hb1⟩;have hb2:=below_cut hb hb1 (Nat.le_refl _);have hk2:=hkd w1 hb2;go_wp2_with fail;refine hk2.mono ?_;rintro e w2 ⟨rfl,hb3⟩;have hb4:=below_cut hb2 hb3 (Nat.le_refl _);have kR2:=(kR.step hb1).step hb3;obtain ⟨q0,q1,q2,q3,q4⟩:=five_ kR2;have fz:=kR2.frozen;go_wp2_with fail;exact bodyPost_ret (rt_end (i:=0) (y:=ty0) (s:=sl0) rfl _ rfl rfl (blk_put5 kR2 _ _ _ _ _)) rfl ⟨ty0,sl0,rfl,fun h=>(by cases h),below_put5 hb4 (by omega) _ _ _ _ _⟩
  have e3:(kx != 3)=false:=by rw [h3];rfl
  have h23:kx=2∨kx=3:=by omega
  go_wp2_with fail;refine hk1.mono ?_;rintro e w1 ⟨rfl,hb1⟩;have hb2:=below_cut hb hb1 (Nat.le_refl _);have hk2:=hkd w1 hb2;go_wp2_with fail;refine hk2.mono ?_;rintro e w2 ⟨rfl,hb3⟩;have hbW:=below_cut hb1 hb3 (Nat.le_refl _);replace kI:=kI.step hbW
  replace kR:=kR.step hbW
  replace hb:=below_cut hb hbW (Nat.le_refl _)
  have hsz2:w.heap.size+1+1≤w2.heap.size:=by have:=hbW.size;omega
  replace c1:=hc1 w2 hbW
  clear hb1 hb2 hb3 hk1 hk2 hkd hbW hc1 e2 e3 c0 z0 z1 z2 z3;generalize w2=W2 at *
 case' pos =>
  have e2:(kx != 2)=false:=by rw [h2];rfl
  have h23:kx=2∨kx=3:=by omega
  go_wp2_with fail;refine hk1.mono ?_;rintro e w1 ⟨rfl,hb1⟩;replace kI:=kI.step hb1
  replace kR:=kR.step hb1
  replace hb:=below_cut hb hb1 (Nat.le_refl _)
  have hsz2:w.heap.size+1+1≤w1.heap.size:=by have:=hb1.size;omega
  replace c1:=hc1 w1 hb1
  clear hb1 hk1 hkd hc1 e2 c0 z0 z1 z2 z3;generalize w1=W2 at *
 all_goals
  obtain ⟨z0,z1,z2,z3⟩:=four_ kI;obtain ⟨q0,q1,q2,q3,q4⟩:=five_ kR;have fz:=kR.frozen
  by_cases h5:y<2
  ·have d5:decide (y<2)=true:=decide_eq_true h5;obtain rfl:=(HR.out.trans (if_neg (by omega))).trans (if_pos (.inl h5))
   clear HR HOF h5 hu;go_wp2_with fail;exact bodyPost_ret (rt_end (i:=0) (y:=ty0) (s:=sl0) rfl _ rfl rfl (blk_put5 kR _ _ _ _ _)) rfl ⟨ty0,sl0,rfl,fun h=>(by cases h),below_put5 hb (by omega) _ _ _ _ _⟩
  have d5:decide (y<2)=false:=decide_eq_false h5
  by_cases h6:4<y
  ·have d6:decide (y>4)=true:=decide_eq_true h6;obtain rfl:=(HR.out.trans (if_neg (by omega))).trans (if_pos (.inr h6))
   clear HR HOF h5 h6 hu;go_wp2_with fail;exact bodyPost_ret (rt_end (i:=0) (y:=ty0) (s:=sl0) rfl _ rfl rfl (blk_put5 kR _ _ _ _ _)) rfl ⟨ty0,sl0,rfl,fun h=>(by cases h),below_put5 hb (by omega) _ _ _ _ _⟩
  have d6:decide (y>4)=false:=decide_eq_false h6;obtain rfl:=HOF.out h23 (by omega) (by omega)
  obtain ⟨m,rfl⟩:∃ m:Nat,y=m:=⟨y.toNat,by omega⟩
  have hG:=TyG.new W2 4 0 false;have hm4:m≤4:=by omega
  clear HR HOF hu;go_wp2_with fail;clear z0 z1 z2 z3 q0 q1 q2 q3 q4 fz d5 d6 c1;go_loopg [9] m (fun q i wr=>∃ (k:Nat) (A':Option Addr) (c':Nat),k+q=m∧i=.int .u32 (k:Nat)∧TyG W2 wr 4 0 false A' k c' (List.replicate k x))
  case atStart=>exact ⟨0,none,0,by omega,rfl,hG⟩
  case round =>
   obtain ⟨k,A',c',hkq,rfl,hg⟩:=hrel;obtain ⟨y0,y1,y2,y3,y4⟩:=five_ hg.blk;have hsz3:=hg.size
   by_cases hlt:k<m
   ·have wk:IntKind.u32.wrap (((k:Nat):Int)+1)=((k:Nat):Int)+1:=IntWalk.u32_in _ (by omega)
    have ho:=hg.own;go_wp2_with (at_builtin;refine ap_one sl32 _ rfl _ _ rfl (W2.heap.size+1) _ _ _ rfl ho _ _ rfl rfl (by omega) (by omega) hsz3 ?_;intro v' w3 ho3 hgr3 _;obtain ⟨A3,c3,rfl⟩:=own_shape ho3;obtain ⟨p4,f4⟩:=hg.mid hgr3)
    have hg2:=hg.put hgr3 ho3;rw [rep_step] at hg2;go_roundg (m-(k+1))
    case measure=>omega
    case rel=>exact ⟨k+1,A3,c3,by omega,by go_num,hg2⟩
   ·obtain rfl:k=m:=by omega
    have kR5:=kR.step hg.below;obtain ⟨q0,q1,q2,q3,q4⟩:=five_ kR5;have fz:=kR5.frozen;have ho:=own_put5 hg.own (g:=w.heap.size+1) (own_ne_low hg.own (by omega)) (.int .u32 0) (.int .u8 4) (.bool false) (.int .u32 0) (.slice A' k c')
    have hb5:=below_put5 (below_cut hb hg.below (Nat.le_refl _)) (show w.heap.size≤w.heap.size+1 by omega) (.int .u32 0) (.int .u8 4) (.bool false) (.int .u32 0) (.slice A' k c')
    go_wp2_with fail;refine bodyPost_ret (rt_end (i:=0) (y:={ ty0 with kind:=4 }) (s:=(A',k,c')) rfl _ rfl rfl (blk_put5 kR5 _ _ _ _ _)) rfl ⟨_,(A',k,c'),rfl,fun _=>⟨rfl,rfl,rfl,?_⟩,hb5⟩
    have hp:rparts { ty0 with kind:=4,part:=x,times:=(k:Int),size:=(k:Int),depth:=(T x).depth+1 }=List.replicate k x:=by unfold rparts;rw [if_pos (by show (0:Int)<(k:Int);omega)];rfl
    rw [hp];exact own_base ho (by omega)
end
section
open Go.RowKit
theorem funR_at {T:Int→TyI} {l:List Int} {k:Nat} (h:k<l.length):funR T (l.drop k) k=if (T (ix l k)).size≤0∧(T (ix l k)).kind≠(if k=0 then 1 else 7) then false else funR T (l.drop (k+1)) (k+1):=by
 have e:l.drop k=ix l k :: l.drop (k+1):=by rw [List.drop_eq_getElem_cons h,ix_of h]
 rw [e];rfl
theorem rparts_list_of (k:Int) (l:List Int):rparts { ty0 with kind:=k,parts:=l }=l:=if_neg (by show ¬ (0:Int)<0;decide)
theorem rfunction_any (p:Option Addr) (T:Int→TyI) (ord:List Int) (hY:Typed T) (hout:∀ id,id ∉ ord→T id=ty0) (op ty res:Int) (al:List ArgI) (A:Option Addr) (n c:Nat) (w:World) (h:RTab w p T ord) (hr:Reads w w.heap.size 3 A n (Acells al)) (hn:n≤70000) :
  Calls Tryz.prog 162 #[.pointer p,.agg #[.int .u16 op,.int .u32 ty,.int .u32 res,.slice A n c]] w (RoneIs (functionT T (nums al)).1 (functionT T (nums al)).2 w):=by
 have hl:=hr.args_len;obtain ⟨W,hW,hb,kI,kR,hsz⟩:=two_ahead w #[.int .u16 op,.int .u32 ty,.int .u32 res,.slice A n c];have hra:=(hr.below hb).more hb.size;have hnl:(nums al).length=n:=by rw [nums_len];exact hl
 obtain ⟨r,hrr⟩:∃ r,r=functionT T (nums al):=⟨_,rfl⟩;rw [← hrr];have hrr2:r=if funR T ((nums al).drop 0) 0=true then ({ ty0 with kind:=8,parts:=nums al },0) else (ty0,100):=hrr
 obtain ⟨f,hf⟩:∃ f,f=funR T ((nums al).drop 0) 0:=⟨_,rfl⟩;rw [← hf] at hrr2;have HR:=Lib.hid hrr2;have HF:=Lib.hid hf;have HRA:=Lib.hid hra;have hkd:=fun id w' (hb:Below w.heap.size w w')=>rkind_any p T ord id w' (h.step hb) hout
 have hpl:=fun id w' (hb:Below w.heap.size w w')=>rplain_any p T ord hY id w' (h.step hb) hout
 have HKD:=Lib.hid hkd;have HPL:=Lib.hid hpl;clear hrr hrr2 hf hra hr h hkd hpl;have hG:=TyG.new W 8 0 false;have hsz2:w.heap.size+1+1≤W.heap.size:=by omega
 clear hsz;go_enter Tryz.func162,Tryz.ntmps162;go_upto_region 1 with fail
 clear hW;go_wp2_with fail;go_loopg [7,8,9] n (fun q i u v wr=>∃ (k:Nat) (A':Option Addr) (c':Nat),k+q=n∧i=.int .i64 (k:Nat)∧Hid (f=funR T ((nums al).drop k) k)∧TyG W wr 8 0 false A' k c' ((nums al).take k))
 case atStart=>exact ⟨0,none,0,by omega,rfl,HF,hG⟩
 case round =>
  obtain ⟨k,A',c',hkq,rfl,HK,hg⟩:=hrel;have hbg:=hg.below;have hbw:=below_cut hb hbg (Nat.le_refl _);have kIr:=kI.step hbg;have kRr:=kR.step hbg;obtain ⟨z0,z1,z2,z3⟩:=four_ kIr
  by_cases hlt:k<n
  ·obtain ⟨b,off,rfl,hbb,hcc⟩:=(HRA.out.below hbg).args (by omega)
   obtain ⟨-,c1,-⟩:=hcc k hlt;have hlt2:((k:Nat):Int)<(n:Int):=by omega
   have hst:=funR_at (T:=T) (l:=nums al) (k:=k) (by omega)
   have htk:(nums al).take (k+1)=(nums al).take k++[ix (nums al) k]:=take_snoc_ix (by omega)
   rw [nums_ix (show k<al.length by omega)] at hst htk
   have hplx:=HPL.out (ag al k).2.1;have hkdx:=HKD.out (ag al k).2.1;have hp1:=hplx wr hbw;generalize (ag al k).2.1=x at *;generalize (T x).size=z at *;generalize (T x).kind=kx at *;have HT:=Lib.hid htk;have HK1:=Lib.hid (HK.out.trans hst);have HG:=Lib.hid hg;clear hcc hst htk HK hplx hg;obtain ⟨gd,hgd⟩:∃ gd:Bool,gd=decide (0<z∨kx=(if k=0 then 1 else 7)):=⟨_,rfl⟩
   have hgb:gd=false→f=false:=fun h=>by
    rw [hgd,decide_eq_false_iff_not,not_or] at h;exact HK1.out.trans (if_pos ⟨by omega,h.2⟩)
   have hgg:gd=true→f=funR T ((nums al).drop (k+1)) (k+1):=fun h=>by
    rw [hgd,decide_eq_true_eq] at h;exact HK1.out.trans (if_neg (by rintro ⟨h1,h2⟩;rcases h with h | h;omega;exact h2 h))
   have HGB:=Lib.hid hgb;have HGG:=Lib.hid hgg;have HGD:=Lib.hid hgd;clear hgb hgg hgd HK1;go_upto_region 6 with fail
   go_cut [9] (fun u wx=>u=.bool gd∧Below wr.heap.size wr wx)
   case first =>
    clear z0 z1 z2 z3 c1
    by_cases hz:0<z
    ·have dz:decide (0<z)=true:=decide_eq_true hz;rw [dz] at hp1;obtain rfl:gd=true:=HGD.out.trans (decide_eq_true (.inl hz));clear HGD HGB HGG hz dz;go_wp2_with fail;refine hp1.mono ?_;rintro e w1 ⟨rfl,hb1⟩;go_wp2_with fail;go_meet
     exact ⟨rfl,hb1⟩
    ·have dz:decide (0<z)=false:=decide_eq_false hz;rw [dz] at hp1
     by_cases h0:k=0
     ·subst h0;have hgd:=HGD.out;rw [if_pos rfl] at hgd;have e1:gd=(kx==1):=by
       rw [hgd]
       by_cases h1:kx=1
       ·rw [h1];simp
       ·have:(kx==1)=false:=by simpa using h1
        rw [this];simpa [hz] using h1
      have HE:=Lib.hid e1;clear HGD hgd e1 HGB HGG hz dz;go_wp2_with fail;refine hp1.mono ?_;rintro e w1 ⟨rfl,hb1⟩;have hk1:=hkdx w1 (below_cut hbw hb1 (Nat.le_refl _));go_wp2_with fail;refine hk1.mono ?_;rintro e w2 ⟨rfl,hb2⟩;cases hx1:(kx==1) with
      | true =>
       have hgt:gd=true:=HE.out.trans hx1;subst hgt;go_wp2_with fail;go_meet
       exact ⟨rfl,below_cut hb1 hb2 (Nat.le_refl _)⟩
      | false =>
       have hgt:gd=false:=HE.out.trans hx1;subst hgt;go_wp2_with fail;go_meet
       exact ⟨rfl,below_cut hb1 hb2 (Nat.le_refl _)⟩
     ·have hgd:=HGD.out;rw [if_neg h0] at hgd;have e1:gd=(kx==7):=by
       rw [hgd]
       by_cases h1:kx=7
       ·rw [h1];simp
       ·have:(kx==7)=false:=by simpa using h1
        rw [this];simpa [hz] using h1
      have HE:=Lib.hid e1;have ek:(((k:Nat):Int)==0)=false:=by rw [beq_eq_false_iff_ne];omega
      have dk:decide (((k:Nat):Int)>0)=true:=by rw [decide_eq_true_eq];omega
      have hk0:0<k:=by omega
      have dk2:decide (0<k)=true:=decide_eq_true hk0;clear HGD hgd e1 HGB HGG hz dz h0;go_wp2_with fail;refine hp1.mono ?_;rintro e w1 ⟨rfl,hb1⟩;have hk1:=hkdx w1 (below_cut hbw hb1 (Nat.le_refl _));go_wp2_with fail;refine hk1.mono ?_;rintro e w2 ⟨rfl,hb2⟩;go_wp2_with fail;go_meet
      exact ⟨by rw [HE.out],below_cut hb1 hb2 (Nat.le_refl _)⟩
   obtain ⟨rfl,hb5⟩:=hcut;have hg5:=HG.out.step hb5;have hb6:=below_cut hbw hb5 (Nat.le_refl _);have kR6:=kRr.step hb5;clear z0 z1 z2 z3 c1 hp1;cases gd with
   | false =>
    have hff:=HGB.out rfl;obtain rfl:=HR.out.trans (if_neg (by rw [hff];decide))
    obtain ⟨q0,q1,q2,q3,q4⟩:=five_ kR6;have fz:=kR6.frozen;clear HGB HGG HGD HR HF;go_wp2_with fail;exact bodyPost_ret (rt_end (i:=0) (y:=ty0) (s:=sl0) rfl _ rfl rfl (blk_put5 kR6 _ _ _ _ _)) rfl ⟨ty0,sl0,rfl,fun h=>(by cases h),below_put5 hb6 (by omega) _ _ _ _ _⟩
   | true =>
    have HF2:=Lib.hid (HGG.out rfl);obtain ⟨y0,y1,y2,y3,y4⟩:=five_ hg5.blk;have ho:=hg5.own;have hs5:=hg5.size;clear HGB HGG HGD;go_wp2_with (at_builtin;refine ap_one sl32 _ rfl _ _ rfl (W.heap.size+1) _ _ _ rfl ho _ _ rfl rfl (by omega) (by omega) hs5 ?_;intro v' w3 ho3 hgr3 _;obtain ⟨A3,c3,rfl⟩:=own_shape ho3;obtain ⟨p4,f4⟩:=hg5.mid hgr3)
    have hg6:=hg5.put hgr3 ho3;rw [← HT.out] at hg6;go_roundg (n-(k+1))
    case measure=>omega
    case rel=>exact ⟨k+1,A3,c3,by omega,by go_num,HF2,hg6⟩
  ·obtain rfl:k=n:=by omega
   have hft:f=true:=by
    rw [HK.out,List.drop_of_length_le (by omega)]
    rfl
   obtain rfl:=HR.out.trans (if_pos hft);obtain ⟨y0,y1,y2,y3,y4⟩:=five_ hg.blk;obtain ⟨q0,q1,q2,q3,q4⟩:=five_ kRr;have fz:=kRr.frozen;have hta:(nums al).take k=nums al:=by rw [← hnl];exact List.take_length
   have hg2:=hg;rw [hta] at hg2;have ho:=own_put5 hg2.own (g:=w.heap.size+1) (own_ne_low hg2.own (by omega)) (.int .u32 0) (.int .u8 8) (.bool false) (.int .u32 0) (.slice A' k c')
   have hb5:=below_put5 hbw (show w.heap.size≤w.heap.size+1 by omega) (.int .u32 0) (.int .u8 8) (.bool false) (.int .u32 0) (.slice A' k c')
   have HO:=Lib.hid ho;clear HR HF HK hft ho hta hg;go_wp2_with fail;refine bodyPost_ret (rt_end (i:=0) (y:={ ty0 with kind:=8 }) (s:=(A',k,c')) rfl _ rfl rfl (blk_put5 kRr _ _ _ _ _)) rfl ⟨_,(A',k,c'),rfl,fun _=>⟨rfl,rfl,rfl,?_⟩,hb5⟩
   rw [rparts_list_of];exact own_base HO.out (by omega)
theorem membersT_of {T:Int→TyI} {l:List Int} (h1:1≤l.length) (h2:l.length≤256) (h:∀ p∈l,0<(T p).size):(membersT T l).2=fitE T l∧(fitE T l=0→(membersT T l).1={ ty0 with kind:=6,parts:=l,size:=sumN T l l.length,depth:=maxN T l l.length+1 }):=by
 unfold membersT fitE;rw [if_neg (by omega),memR_of h]
 dsimp only;unfold wholeT
 split
 ·exact ⟨rfl,fun h=>by cases h⟩
 ·split
  ·exact ⟨rfl,fun h=>by cases h⟩
  ·exact ⟨rfl,fun _=>rfl⟩
theorem membersT_bad {T:Int→TyI} {l:List Int} (h1:1≤l.length) (h2:l.length≤256) {k:Nat} (hk:k<l.length) (h:∀ j,j<k→0<(T (ix l j)).size) (hb:¬ 0<(T (ix l k)).size):membersT T l=(ty0,100):=by
 unfold membersT;rw [if_neg (by omega)]
 have hm:∀ j,j≤k→∀ s d,memR T (l.drop (k-j)) s d=none:=by
  intro j
  induction j with
  | zero=>exact fun _ s d=>(show memR T (l.drop k) s d=none from memR_bad hk (by omega))
  | succ j ih =>
   intro hj s d;have hpl:=h (k-(j+1)) (by omega)
   rw [memR_step (by omega) hpl]
   have e:k-(j+1)+1=k-j:=by omega
   rw [e];exact ih (by omega) _ _
 have h0:=hm k (Nat.le_refl _) 0 0;rw [Nat.sub_self,List.drop_zero] at h0;rw [h0]
end
section
open Go.RowKit
def frstD (L:List InstI) (id:Int):Nat→Option Nat
 | 0=>none
 | k+1=>match frstD L id k with
  | some j=>some j
  | none=>if resD L k=id then some k else none
theorem frstD_none {L:List InstI} {id:Int}:∀ {n:Nat},(∀ j,j<n→resD L j≠id)→frstD L id n=none
 | 0,_=>rfl
 | n+1,h=>by
  have h1:=frstD_none (n:=n) (fun j hj=>h j (by omega))
  show (match frstD L id n with | some j=>some j | none=>if resD L n=id then some n else none)=none
  rw [h1];exact if_neg (h n (by omega))
theorem frstD_at {L:List InstI} {id:Int} {k:Nat} (hk:resD L k=id) (hb:∀ j,j<k→resD L j≠id):∀ {n:Nat},k<n→frstD L id n=some k
 | 0,h=>absurd h (Nat.not_lt_zero _)
 | n+1,h=>by
  show (match frstD L id n with | some j=>some j | none=>if resD L n=id then some n else none)=some k
  by_cases e:k=n
  ·subst e;rw [frstD_none hb];exact if_pos hk
  ·rw [frstD_at hk hb (show k<n by omega)]
theorem frstD_some {L:List InstI} {id:Int}:∀ {n k:Nat},frstD L id n=some k→k<n∧resD L k=id∧∀ j,j<k→resD L j≠id
 | 0,_,h=>by cases h
 | n+1,k,h=>by
  have h':(match frstD L id n with | some j=>some j | none=>if resD L n=id then some n else none)=some k:=h
  cases hf:frstD L id n with
  | some j =>
   rw [hf] at h';cases h'
   have:=frstD_some hf;exact ⟨by omega,this.2⟩
  | none =>
   rw [hf] at h';dsimp only at h'
   split at h'
   ·rename_i hr
    cases h'
    refine ⟨Nat.lt_succ_self _,hr,fun j hj hc=>?_⟩
    have:∀ {m:Nat},m≤n→frstD L id m=none:=fun {m} hm=>by
     cases hfm:frstD L id m with
     | none=>rfl
     | some i =>
      have h3:=frstD_some hfm;rw [frstD_at h3.2.1 h3.2.2 (show i<n by omega)] at hf
      cases hf
    have h5:=this (m:=j+1) (by omega)
    have h6:(match frstD L id j with | some i=>some i | none=>if resD L j=id then some j else none)=none:=h5
    rw [this (m:=j) (by omega)] at h6
    dsimp only at h6;rw [if_pos hc] at h6;cases h6
   ·cases h'
def kindA (T:Int→TyI) (L:List InstI) (id:Int) (n:Nat):Int:=match frstD L id n with
 | none=>0
 | some _=>(T id).kind
def lenI (T:Int→TyI) (L:List InstI) (i:InstI) (k:Nat):Int:=if i.1≠43∨kindA T L i.2.1 k≠3∨4096<firstN i then 0 else firstN i
def lenD (T:Int→TyI) (L:List InstI) (id:Int) (n:Nat):Int:=match frstD L id n with
 | none=>0
 | some k=>match L[k]? with
  | none=>0
  | some i=>lenI T L i k
theorem mod_ahead (w:World) (cs:Array Value):∃ W:World,(w.alloc (.cells cs 25))=W∧Below w.heap.size w W∧Blk W w.heap.size 25 cs∧W.heap.size=w.heap.size+1 :=
 ⟨_,rfl,(Below.refl w.heap.size w).alloc (Nat.le_refl _) _,Blk.new w 25 cs,by simp⟩
theorem rkindA_any (p:Option Addr) (T:Int→TyI) (ord:List Int) (hout:∀ id,id ∉ ord→T id=ty0) (gen bound:Int) (ls:List InstA) (A:Option Addr) (n c k:Nat) (id:Int) (w:World) (h:RTab w p T ord) (hM:ModS w w.heap.size A n ls) (hk:k≤n) :
  Calls Tryz.prog 240 #[.pointer p,.agg (modC gen bound A n c),.int .u32 id,.int .i64 (k:Nat)] w fun e w'=>e=.returned (.int .u8 (kindA T (ls.map (·.1)) id k))∧Below w.heap.size w w':=by
 obtain ⟨W,hW,hb,kM,hsz⟩:=mod_ahead w (modC gen bound A n c);have hlen:=hM.reads.insts_len;have hnb:=hM.len;have hMW:=hM.step hb;have hkd:=fun w' (hb:Below w.heap.size w w')=>rkind_any p T ord id w' (h.step hb) hout
 obtain ⟨v,hv⟩:∃ v,v=kindA T (ls.map (·.1)) id k:=⟨_,rfl⟩;rw [← hv];have HV:=Lib.hid hv;have HM:=Lib.hid hMW;clear hv hM hMW h;unfold modC at *;go_enter Tryz.func240,Tryz.ntmps240;go_upto_region 1 with fail
 clear hW;obtain ⟨z0,z1,z2⟩:=three_ kM;go_wp2_with fail;go_loopg [9] k (fun q i wr=>∃ j:Nat,j+q=k∧i=.int .i64 (j:Nat)∧wr=W∧Hid (∀ i,i<j→resD (ls.map (·.1)) i≠id))
 case atStart=>exact ⟨0,by omega,rfl,rfl,Lib.hid (fun i hi=>absurd hi (Nat.not_lt_zero _))⟩
 case round =>
  obtain ⟨j,hq,rfl,rfl,HK⟩:=hrel
  by_cases hlt:j<k
  ·obtain ⟨b,off,rfl,hbb,hcc⟩:=HM.out.reads.insts (by omega)
   obtain ⟨-,-,c2,-⟩:=hcc j (by omega)
   have hj2:((j:Nat):Int)<(n:Int):=by omega
   have hres:resD (ls.map (·.1)) j=(ig ls j).1.2.2.1:=resD_ig (by omega)
   rw [← hres] at c2;clear hcc
   by_cases he:resD (ls.map (·.1)) j=id
   ·have hv:v=(T id).kind:=by
     rw [HV.out];unfold kindA;rw [frstD_at he HK.out hlt]
    rw [he] at c2;have e1:(id==id)=true:=by simp
    have hk1:=hkd wr hb;have HV2:=Lib.hid hv;clear HV HK hres he hv;go_wp2_with fail;refine hk1.mono ?_;rintro e w2 ⟨rfl,hb2⟩;go_wp2_with fail;go_ret
    exact ⟨by rw [HV2.out];rfl,below_cut hb hb2 (Nat.le_refl _)⟩
   ·have e1:(resD (ls.map (·.1)) j==id)=false:=by simpa using he
    have HK2:=Lib.hid (show ∀ i,i<j+1→resD (ls.map (·.1)) i≠id from fun i hi=>by
     by_cases e:i=j
     ·rw [e];exact he
     ·exact HK.out i (by omega))
    clear HK hres he;generalize resD (ls.map (·.1)) j=x at *;go_wp2_with fail;go_roundg (k-(j+1))
    case measure=>omega
    case rel=>exact ⟨j+1,by omega,by go_num,rfl,HK2⟩
  ·obtain rfl:j=k:=by omega
   obtain rfl:v=0:=by
    rw [HV.out];unfold kindA;rw [frstD_none HK.out]
   clear HV HK;go_wp2_with fail;go_ret
   exact ⟨rfl,hb⟩
theorem rlength_any (p:Option Addr) (T:Int→TyI) (ord:List Int) (hout:∀ id,id ∉ ord→T id=ty0) (gen bound:Int) (ls:List InstA) (A:Option Addr) (n c k:Nat) (id:Int) (w:World) (h:RTab w p T ord) (hM:ModS w w.heap.size A n ls) (hk:k≤n)
  (h43:∀ x∈ls,x.1.1=43→0<x.1.2.2.2.length) (hu:∀ x∈ls,0≤firstN x.1∧firstN x.1<4294967296) :
  Calls Tryz.prog 202 #[.pointer p,.agg (modC gen bound A n c),.int .u32 id,.int .i64 (k:Nat)] w fun e w'=>e=.returned (.int .i64 (lenD T (ls.map (·.1)) id k))∧Below w.heap.size w w':=by
 obtain ⟨W,hW,hb,kM,hsz⟩:=mod_ahead w (modC gen bound A n c);have hlen:=hM.reads.insts_len;have hnb:=hM.len;have hMW:=hM.step hb;have hka:=fun (ty:Int) (j:Nat) w' (hb:Below w.heap.size w w') (hj:j≤n)=>rkindA_any p T ord hout gen bound ls A n c j ty w' (h.step hb) (hM.step hb) hj
 obtain ⟨v,hv⟩:∃ v,v=lenD T (ls.map (·.1)) id k:=⟨_,rfl⟩;rw [← hv];have HV:=Lib.hid hv;have HM:=Lib.hid hMW;have HKA:=Lib.hid hka;have H43:=Lib.hid h43;have HU:=Lib.hid hu;clear hv hM hMW h hka h43 hu;unfold modC at *;go_enter Tryz.func202,Tryz.ntmps202;go_upto_region 1 with fail
 clear hW;go_wp2_with fail;go_loopg [9,10] k (fun q i u wr=>∃ j:Nat,j+q=k∧i=.int .i64 (j:Nat)∧Below W.heap.size W wr∧Hid (∀ i,i<j→resD (ls.map (·.1)) i≠id))
 case atStart=>exact ⟨0,by omega,rfl,Below.refl _ _,Lib.hid (fun i hi=>absurd hi (Nat.not_lt_zero _))⟩
 case round =>
  obtain ⟨j,hq,rfl,hbr,HK⟩:=hrel;have hbw:=below_cut hb hbr (Nat.le_refl _);have kMr:=kM.step hbr;obtain ⟨z0,z1,z2⟩:=three_ kMr
  by_cases hlt:j<k
  ·have hMr:=HM.out.step hbr;have hmem:=ig_mem (l:=ls) (k:=j) (by omega)
   have hok:=hMr.ok _ hmem;have h43:=H43.out _ hmem;have hu:=HU.out _ hmem;obtain ⟨b,off,rfl,hbb,hcc⟩:=hMr.reads.insts (by omega)
   obtain ⟨c0,c1,c2,c3⟩:=hcc j (by omega)
   have hj2:((j:Nat):Int)<(n:Int):=by omega
   have hres:resD (ls.map (·.1)) j=(ig ls j).1.2.2.1:=resD_ig (by omega)
   have hat:(ls.map (·.1))[j]?=some (ig ls j).1:=ig_map (by omega)
   have hv:resD (ls.map (·.1)) j=id→v=lenI T (ls.map (·.1)) (ig ls j).1 j:=fun he=>by
    rw [HV.out];unfold lenD;rw [frstD_at he HK.out hlt];dsimp only;rw [hat]
   have HK2:=Lib.hid (show resD (ls.map (·.1)) j≠id→∀ i,i<j+1→resD (ls.map (·.1)) i≠id from fun he i hi=>by
     by_cases e:i=j
     ·rw [e];exact he
     ·exact HK.out i (by omega))
   rw [hres] at hv HK2;have HV2:=Lib.hid hv;have hka:=HKA.out (ig ls j).1.2.1 j;clear hcc hat hres HK hmem hv HV hMr;generalize ig ls j=x at *;obtain ⟨⟨op,ty,res,al⟩,A2,n2,c2'⟩:=x;dsimp only at *;have hba:=(Below.refl wr.heap.size wr).alloc (Nat.le_refl _) (.cells #[.int .u16 op,.int .u32 ty,.int .u32 res,.slice A2 n2 c2'] 51);have kI:=Blk.new wr 51 #[.int .u16 op,.int .u32 ty,.int .u32 res,.slice A2 n2 c2'];have kM2:=kMr.step hba;have hba2:=below_cut hbr hba (by have:=hbr.size;omega)
   have hbw2:=below_cut hbw hba (by have:=hbw.size;omega)
   have hrd:=(hok.reads.below hba).more hba.size;have hal:al.length=n2:=hok.reads.args_len;clear hok
   by_cases he:res=id
   ·subst he;have hv:=HV2.out rfl;unfold lenI firstN at hv;dsimp only at hv;have e1:(res != res)=false:=by simp
    go_upto_region 5 with fail
    generalize (wr.alloc (.cells #[.int .u16 op,.int .u32 ty,.int .u32 res,.slice A2 n2 c2'] 51))=W5 at *;obtain ⟨y0,y1,y2,y3⟩:=four_ kI;clear z0 z1 z2 c0 c1 c2 c3
    by_cases h4:op=43
    ·subst h4;have h0:=h43 rfl;have hn2:0<n2:=by omega
     have hk5:=hka W5 hbw2 (by omega)
     obtain ⟨b2,off2,rfl,hbb2,hcc2⟩:=hrd.args hn2;obtain ⟨-,d1,-⟩:=hcc2 0 hn2;unfold firstN at hu;dsimp only at hu;generalize (ag al 0).2.1=N at *;generalize kindA T (ls.map (·.1)) ty j=ka at *;have hlt0:(0:Int)<(n2:Int):=by omega
     simp only [Nat.zero_mul,Nat.add_zero] at d1;have HD:=Lib.hid (fun (w':World) (hb:Below W5.heap.size W5 w')=>cell_on d1 hb)
     obtain ⟨x0,x1,x2⟩:=three_ kM2;have HV3:=Lib.hid hv;clear hcc2 hv HV2 h43 h0 hka d1;go_wp2_with fail;refine hk5.mono ?_;rintro e w6 ⟨rfl,hb6⟩;obtain ⟨y0,y1,y2,y3⟩:=four_ (kI.step hb6);have d1:=HD.out w6 hb6;have hb7:=below_cut hbw2 hb6 (Nat.le_refl _)
     by_cases h3:ka=3
     ·have e3:(ka != 3)=false:=by rw [h3];rfl
      by_cases h9:4096<N
      ·have e9:decide (N>4096)=true:=decide_eq_true h9;obtain rfl:=HV3.out.trans (if_pos (.inr (.inr h9)));clear HV3 h9 h3;go_wp2_with fail;go_ret
       exact ⟨rfl,hb7⟩
      ·have e9:decide (N>4096)=false:=decide_eq_false h9;obtain rfl:=HV3.out.trans (if_neg (by rintro (h | h | h);exact h rfl;exact h h3;exact h9 h))
       have wN:IntKind.i64.wrap v=v:=IntWalk.i64_in _ (by omega)
       clear HV3 h9 h3;go_wp2_with fail;go_ret
       exact ⟨rfl,hb7⟩
     ·have e3:(ka != 3)=true:=by simpa using h3
      obtain rfl:=HV3.out.trans (if_pos (.inr (.inl h3)));clear HV3 h3;go_wp2_with fail;go_ret
      exact ⟨rfl,hb7⟩
    ·have e4:(op != 43)=true:=by simpa using h4
     obtain rfl:=hv.trans (if_pos (.inl h4));clear hv HV2 h43 hu hka h4;go_wp2_with fail;go_ret
     exact ⟨rfl,hbw2⟩
   ·have e1:(res != id)=true:=by simpa using he
    have HK3:=Lib.hid (HK2.out he);obtain ⟨y0,y1,y2,y3⟩:=four_ kI;clear HV2 HK2 h43 hu hka he hrd;go_wp2_with fail;go_roundg (k-(j+1))
    case measure=>omega
    case rel=>exact ⟨j+1,by omega,by go_num,hba2,HK3⟩
  ·obtain rfl:j=k:=by omega
   obtain rfl:v=0:=by
    rw [HV.out];unfold lenD;rw [frstD_none HK.out]
   clear HV HK;go_wp2_with fail;go_ret
   exact ⟨rfl,hbw⟩
end
section
open Go.RowKit
theorem TyG.last {wx w' w0:World} {kd cl:Int} {sg:Bool} {A:Option Addr} {m c g:Nat} {l:List Int} {cs:Array Value} (h:TyG wx w' kd cl sg A m c l) (kR:Blk w' g 188 #[cs[0]!,cs[1]!,cs[2]!,cs[3]!,cs[4]!]) (hg:g<wx.heap.size) (hb:Below w0.heap.size w0 w') (h0:w0.heap.size≤g) :
  Blk (put5 w' g (.int .u32 0) (.int .u8 kd) (.bool sg) (.int .u32 cl) (.slice A m c)) g 188 #[.int .u32 0,.int .u8 kd,.bool sg,.int .u32 cl,.slice A m c] ∧
   (put5 w' g (.int .u32 0) (.int .u8 kd) (.bool sg) (.int .u32 cl) (.slice A m c)).ownsRow w0.heap.size 22 1 (.slice A m c) m (Ints .u32 l)∧Below w0.heap.size w0 (put5 w' g (.int .u32 0) (.int .u8 kd) (.bool sg) (.int .u32 cl) (.slice A m c)) :=
 ⟨blk_put5 kR _ _ _ _ _,own_base (own_put5 h.own (own_ne_low h.own (by omega)) _ _ _ _ _) (by omega),below_put5 hb h0 _ _ _ _ _⟩
theorem rmembers_any (p:Option Addr) (T:Int→TyI) (ord:List Int) (hY:Typed T) (h00:T 0=ty0) (hout:∀ id,id ∉ ord→T id=ty0) (op ty res:Int) (al:List ArgI) (A:Option Addr) (n c:Nat) (w:World) (h:RTab w p T ord) (hr:Reads w w.heap.size 3 A n (Acells al)) :
  Calls Tryz.prog 161 #[.pointer p,.agg #[.int .u16 op,.int .u32 ty,.int .u32 res,.slice A n c]] w (RoneIs (membersT T (nums al)).1 (membersT T (nums al)).2 w):=by
 have hl:=hr.args_len;obtain ⟨W,hW,hb,kI,kR,hsz⟩:=two_ahead w #[.int .u16 op,.int .u32 ty,.int .u32 res,.slice A n c];have hra:=(hr.below hb).more hb.size;have hnl:(nums al).length=n:=by rw [nums_len];exact hl
 obtain ⟨r,hrr⟩:∃ r,r=membersT T (nums al):=⟨_,rfl⟩;rw [← hrr];have HR:=Lib.hid hrr;have HRA:=Lib.hid hra;have hpl:=fun id w' (hb:Below w.heap.size w w')=>rplain_any p T ord hY id w' (h.step hb) hout
 have HPL:=Lib.hid hpl;have hft:=fun kd cl sg A' m c' l' w' (hb:Below w.heap.size w w') hr' hp' hm'=>rfits_any p T ord hY h00 hout 0 kd cl sg A' m c' l' w' (h.step hb) hr' hp' hm'
 have HFT:=Lib.hid hft;clear hrr hra hr h hpl hft;obtain ⟨z0,z1,z2,z3⟩:=four_ kI;obtain ⟨q0,q1,q2,q3,q4⟩:=five_ kR;have fz:=kR.frozen
 by_cases hn0:n=0
 ·have e0:(((n:Nat):Int)==0)=true:=by rw [hn0];rfl
  obtain rfl:=HR.out.trans (by unfold membersT;exact if_pos (.inl (by omega)))
  clear HR hn0;go_enter Tryz.func161,Tryz.ntmps161;go_upto_region 1 with fail
  go_wp2_with fail;exact bodyPost_ret (rt_end (i:=0) (y:=ty0) (s:=sl0) rfl _ rfl rfl (blk_put5 kR _ _ _ _ _)) rfl ⟨ty0,sl0,rfl,fun h=>(by cases h),below_put5 hb (by omega) _ _ _ _ _⟩
 have e0:(((n:Nat):Int)==0)=false:=by rw [beq_eq_false_iff_ne];omega
 by_cases hn1:256<n
 ·have e1:decide (((n:Nat):Int)>256)=true:=by rw [decide_eq_true_eq];omega
  obtain rfl:=HR.out.trans (by unfold membersT;exact if_pos (.inr (by omega)))
  clear HR hn0 hn1;go_enter Tryz.func161,Tryz.ntmps161;go_upto_region 1 with fail
  go_wp2_with fail;exact bodyPost_ret (rt_end (i:=0) (y:=ty0) (s:=sl0) rfl _ rfl rfl (blk_put5 kR _ _ _ _ _)) rfl ⟨ty0,sl0,rfl,fun h=>(by cases h),below_put5 hb (by omega) _ _ _ _ _⟩
 have e1:decide (((n:Nat):Int)>256)=false:=by rw [decide_eq_false_iff_not];omega
 have hG:=TyG.new W 6 0 false;have hsz2:w.heap.size+1+1≤W.heap.size:=by omega
 clear hsz;go_enter Tryz.func161,Tryz.ntmps161;go_upto_region 1 with fail
 clear hW;go_wp2_with fail;clear z0 z1 z2 z3 q0 q1 q2 q3 q4 fz e0 e1;go_loopg [7] n (fun q i wr=>∃ (k:Nat) (A':Option Addr) (c':Nat),k+q=n∧i=.int .i64 (k:Nat)∧Hid (∀ j,j<k→0<(T (ix (nums al) j)).size)∧TyG W wr 6 0 false A' k c' ((nums al).take k))
 case atStart=>exact ⟨0,none,0,by omega,rfl,Lib.hid (fun j hj=>absurd hj (Nat.not_lt_zero _)),hG⟩
 case round =>
  obtain ⟨k,A',c',hkq,rfl,HK,hg⟩:=hrel;have hbg:=hg.below;have hbw:=below_cut hb hbg (Nat.le_refl _);have kIr:=kI.step hbg;have kRr:=kR.step hbg
  by_cases hlt:k<n
  ·obtain ⟨z0,z1,z2,z3⟩:=four_ kIr;obtain ⟨b,off,rfl,hbb,hcc⟩:=(HRA.out.below hbg).args (by omega)
   obtain ⟨-,c1,-⟩:=hcc k hlt;have hlt2:((k:Nat):Int)<(n:Int):=by omega
   have htk:(nums al).take (k+1)=(nums al).take k++[ix (nums al) k]:=take_snoc_ix (by omega)
   have hpl:=HPL.out (ix (nums al) k) wr hbw;have hbad:=fun hb=>HR.out.trans (membersT_bad (T:=T) (l:=nums al) (by omega) (by omega) (k:=k) (by omega) HK.out hb)
   have HK2:=Lib.hid (show 0<(T (ix (nums al) k)).size→∀ j,j<k+1→0<(T (ix (nums al) j)).size from fun hp j hj=>by
    by_cases e:j=k
    ·rw [e];exact hp
    ·exact HK.out j (by omega))
   rw [← nums_ix (show k<al.length by omega)] at c1
   generalize ix (nums al) k=x at *;have HT:=Lib.hid htk;have HB:=Lib.hid hbad;clear hcc htk HK hbad
   by_cases hp:0<(T x).size
   ·have dp:decide (0<(T x).size)=true:=decide_eq_true hp;rw [dp] at hpl;have HK3:=Lib.hid (HK2.out hp);have hc1:=fun (w':World) (hb:Below wr.heap.size wr w')=>cell_on c1 hb
    clear HK2 HB hp dp;go_wp2_with fail;refine hpl.mono ?_;rintro e w1 ⟨rfl,hb1⟩;replace hg:=hg.step hb1
    replace hbw:=below_cut hbw hb1 (Nat.le_refl _)
    replace kIr:=kIr.step hb1
    replace c1:=hc1 w1 hb1
    have hbL:=(Below.refl w1.heap.size w1);clear z0 z1 z2 z3 hc1 hpl hb1 kRr hbg;go_upto_region 9 with fail
    obtain ⟨y0,y1,y2,y3,y4⟩:=five_ hg.blk;obtain ⟨z0,z1,z2,z3⟩:=four_ kIr;have a4:=fun o=>(hg.blk.alloc o).cell 4
    have a3:=fun o=>(kIr.alloc o).cell 3
    have a1:=fun o=>cell_alloc_t o c1
    have hs1:=hg.size;have ho:=hg.own;have hgd:=hg.step hbL.drew;have hlit:=Reads.litN w1.drew #[.int .u32 x] 22 1 1 1 rfl rfl (by omega)
    simp at a4 a3;go_region_law (first
     | (refine step_ap_any sl32 (w1.drew.alloc (.cells #[.int .u32 x] 22)) rfl _ _ rfl (W.heap.size+1) _ _ _ rfl (ho.drew.alloc _) _ _ 1 1 [.int .u32 x] rfl hlit (by simp [Value.oneCell']) (by omega) (by omega) (by rw [World.size_alloc];exact Nat.le_succ_of_le hs1) ?_;intro A8 c8 w8 ho8 hg8;obtain ⟨p4,f4⟩:=hgd.mid hg8))
    all_goals
     have hg9:=hgd.put hg8 ho8;rw [← HT.out] at hg9;go_wp2_with fail;go_roundg (n-(k+1))
     case measure=>omega
     case rel=>exact ⟨k+1,A8,c8,by omega,by go_num,HK3,hg9⟩
   ·have dp:decide (0<(T x).size)=false:=decide_eq_false hp;rw [dp] at hpl;obtain rfl:=HB.out hp;clear HK2 HB hp dp HT HR;go_wp2_with fail;refine hpl.mono ?_;rintro e w1 ⟨rfl,hb1⟩;have kR1:=kRr.step hb1;have hbw1:=below_cut hbw hb1 (Nat.le_refl _);obtain ⟨q0,q1,q2,q3,q4⟩:=five_ kR1;have fz:=kR1.frozen;go_wp2_with fail;exact bodyPost_ret (rt_end (i:=0) (y:=ty0) (s:=sl0) rfl _ rfl rfl (blk_put5 kR1 _ _ _ _ _)) rfl ⟨ty0,sl0,rfl,fun h=>(by cases h),below_put5 hbw1 (by omega) _ _ _ _ _⟩
  ·obtain rfl:k=n:=by omega
   obtain ⟨z0,z1,z2,z3⟩:=four_ kIr;have hta:(nums al).take k=nums al:=by rw [← hnl];exact List.take_length
   rw [hta] at hg;have hof:=membersT_of (T:=T) (l:=nums al) (by omega) (by omega) (fun p hp=>by
    obtain ⟨j,hj,rfl⟩:=List.getElem_of_mem hp;rw [← ix_of hj];exact HK.out j (by omega))
   rw [← HR.out] at hof;obtain ⟨er,her⟩:∃ er,er=fitE T (nums al):=⟨_,rfl⟩;rw [← her] at hof;obtain ⟨r1,r2⟩:=r;dsimp only at hof ⊢;obtain ⟨rfl,hr1⟩:=hof;have HR1:=Lib.hid hr1;have hpa:∀ j,j<k→0<(T (ix (nums al) j)).size:=HK.out;have hrg:=Reads.of_own hg.own;have hf1:=HFT.out 6 0 false A' k c' (nums al) wr.drew hbw.drew (hrg.keep (fun _ _=>rfl)) hpa (by omega)
   have hbp:=below_put5 hbw.drew (show w.heap.size≤w.heap.size+1 by omega) (.int .u32 0) (.int .u8 6) (.bool false) (.int .u32 0) (.slice A' k c')
   have hop:=own_put5 (hg.own.drew) (g:=w.heap.size+1) (own_ne_low hg.own (by omega)) (.int .u32 0) (.int .u8 6) (.bool false) (.int .u32 0) (.slice A' k c')
   have hf2:=HFT.out 6 0 false A' k c' (nums al) _ hbp (Reads.of_own hop) hpa (by omega)
   have kRd:=kRr.drew;have hgd:=hg.step (Below.refl wr.heap.size wr).drew;rw [← her] at hf1 hf2;have HER:=Lib.hid her;have hsz1:w.heap.size+1<W.heap.size:=by omega
   clear her hr1 HR hpa HK;go_upto_region 10 with fail
   obtain ⟨y0,y1,y2,y3,y4⟩:=five_ hg.blk;obtain ⟨q0,q1,q2,q3,q4⟩:=five_ kRr;have fz:=kRr.frozen;clear z0 z1 z2 z3;go_region_law (first
    | (go_simp;go_at_call 203;(with_reducible refine hf1.mono ?_);rintro e w8 ⟨rfl,hb8⟩;have k8:=kRd.step hb8;have g8:=hgd.step hb8;obtain ⟨v0,v1,v2,v3,v4⟩:=five_ g8.blk;obtain ⟨u0,u1,u2,u3,u4⟩:=five_ k8;have f8:=k8.frozen;have HE:=TyG.last (cs:=#[.int .u32 0,.int .u8 0,.bool false,.int .u32 0,.slice none 0 0]) g8 k8 hsz1 (below_cut hbw.drew hb8 (Nat.le_refl _)) (Nat.le_succ _))
    | (go_simp;go_at_call 203;(with_reducible refine hf2.mono ?_);rintro e w8 ⟨rfl,hb8⟩;have HE:Blk w8 (w.heap.size+1) 188 #[.int .u32 0,.int .u8 6,.bool false,.int .u32 0,.slice A' k c']∧w8.ownsRow w.heap.size 22 1 (.slice A' k c') k (Ints .u32 (nums al))∧Below w.heap.size w w8:=⟨(blk_put5 kRd _ _ _ _ _).step hb8,own_below (own_base hop (by omega)) hb8,below_cut hbp hb8 (Nat.le_refl _)⟩))
   all_goals
    go_wp2_with fail;refine bodyPost_ret (rt_end (i:=0) (y:={ ty0 with kind:=6 }) (s:=(A',k,c')) rfl _ rfl rfl HE.1) rfl ⟨_,(A',k,c'),rfl,fun h0=>?_,HE.2.2⟩
    rw [HR1.out h0];refine ⟨rfl,rfl,rfl,?_⟩;have hp:rparts { ty0 with kind:=6,parts:=nums al,size:=sumN T (nums al) (nums al).length,depth:=maxN T (nums al) (nums al).length+1 }=nums al:=if_neg (by show ¬ (0:Int)<0;decide)
    rw [hp];exact HE.2.1
theorem rep_fit {T:Int→TyI} (hT:∀ id,0≤(T id).depth) {p:Int} {m:Nat} (hm:1≤m):fitE T (List.replicate m p)=(wholeT { ty0 with kind:=5,part:=p,times:=(m:Int) } ((m:Int)*(T p).size) (T p).depth).2:=by
 unfold fitE wholeT;rw [List.length_replicate,sumN_rep T p m m (Nat.le_refl _),maxN_rep T p m (hT p) m (Nat.le_refl _),if_neg (show ¬ m=0 by omega)]
 split
 ·rfl
 ·split <;> rfl
theorem rarray_any (p:Option Addr) (T:Int→TyI) (ord:List Int) (hY:Typed T) (h00:T 0=ty0) (hout:∀ id,id ∉ ord→T id=ty0) (gen bound:Int) (ls:List InstA) (MA:Option Addr) (Mn Mc at_:Nat) (op ty res:Int) (al:List ArgI) (A:Option Addr) (n c:Nat) (w:World) (h:RTab w p T ord) (hr:Reads w w.heap.size 3 A n (Acells al)) (hn:2≤n)
  (hM:ModS w w.heap.size MA Mn ls) (hk:at_≤Mn) (h43:∀ x∈ls,x.1.1=43→0<x.1.2.2.2.length) (hu:∀ x∈ls,0≤firstN x.1∧firstN x.1<4294967296) (c0:InstI)
  (hc0:lenD T (ls.map (·.1)) (ixn (nums al) 1) at_=if c0.1≠43∨(T c0.2.1).kind≠3∨firstN c0<1∨4096<firstN c0 then 0 else firstN c0) :
  Calls Tryz.prog 160 #[.pointer p,.agg (modC gen bound MA Mn Mc),.agg #[.int .u16 op,.int .u32 ty,.int .u32 res,.slice A n c],.int .i64 (at_:Nat)] w (RoneIs (arrayC (T (ixn (nums al) 0)) T c0 (ixn (nums al) 0)).1 (arrayC (T (ixn (nums al) 0)) T c0 (ixn (nums al) 0)).2 w):=by
 have hl:=hr.args_len;obtain ⟨W0,hW0,hb0,kM0,hsz0⟩:=mod_ahead w (modC gen bound MA Mn Mc);obtain ⟨W,hW,hb1,kI,kR,hsz⟩:=two_ahead W0 #[.int .u16 op,.int .u32 ty,.int .u32 res,.slice A n c];have hb:=below_cut hb0 hb1 (by omega)
 have kM:=kM0.step hb1;rw [hsz0] at kI kR hsz;have hra:=(hr.below hb).more hb.size;have hx0:=nums_getD (l:=al) (show 0<al.length by omega)
 have hx1:=nums_getD (l:=al) (show 1<al.length by omega)
 obtain ⟨b,off,rfl,hbb,hcc⟩:=hra.args (by omega)
 obtain ⟨-,c0',-⟩:=hcc 0 (by omega)
 obtain ⟨-,c1,-⟩:=hcc 1 (by omega)
 rw [← hx0] at c0';rw [← hx1] at c1;clear hx0 hx1;have hlen:=fun w' (hb:Below w.heap.size w w')=>rlength_any p T ord hout gen bound ls MA Mn Mc at_ (ixn (nums al) 1) w' (h.step hb) (hM.step hb) hk h43 hu
 rw [hc0] at hlen;generalize ixn (nums al) 0=x at *;generalize ixn (nums al) 1=y at *;have hpl:=rplain_any p T ord hY x W (h.step hb) hout;have HLEN:=Lib.hid hlen;obtain ⟨r,hrr⟩:∃ r,r=arrayC (T x) T c0 x:=⟨_,rfl⟩;rw [← hrr];unfold arrayC at hrr;have HR:=Lib.hid hrr;have hft:=fun kd cl sg A' m c' l' w' (hb:Below w.heap.size w w') hr' hp' hm'=>rfits_any p T ord hY h00 hout 0 kd cl sg A' m c' l' w' (h.step hb) hr' hp' hm'
 have HFT:=Lib.hid hft;have hd0:=fun id=>(hY.deep id).1
 have hxs:=hY.sz0 x;have hlt0:(0:Int)<(n:Int):=by omega
 have hlt1:(1:Int)<(n:Int):=by omega
 have hn0:0<n:=by omega
 have hn1:1<n:=by omega
 simp only [Nat.zero_mul,Nat.add_zero] at c0';have HC1:=Lib.hid (fun (w':World) (hb:Below W.heap.size W w')=>cell_on c1 hb)
 clear hrr hra hr h hft hlen hM hc0 h43 hu hcc c1;unfold modC at *;obtain ⟨z0,z1,z2,z3⟩:=four_ kI;obtain ⟨q0,q1,q2,q3,q4⟩:=five_ kR;have fz:=kR.frozen
 by_cases hp:0<(T x).size
 case neg =>
  have dp:decide (0<(T x).size)=false:=decide_eq_false hp;rw [dp] at hpl;obtain rfl:=HR.out.trans (if_pos (by omega))
  clear HR hp dp hd0 hxs;go_enter Tryz.func160,Tryz.ntmps160;go_upto_region 1 with fail
  clear q0 q1 q2 q3 q4 fz;go_wp2_with fail;refine hpl.mono ?_;rintro e w1 ⟨rfl,hb1⟩;have kR1:=kR.step hb1;have hbw1:=below_cut hb hb1 (Nat.le_refl _);obtain ⟨q0,q1,q2,q3,q4⟩:=five_ kR1;have fz:=kR1.frozen;go_wp2_with fail;exact bodyPost_ret (rt_end (i:=0) (y:=ty0) (s:=sl0) rfl _ rfl rfl (blk_put5 kR1 _ _ _ _ _)) rfl ⟨ty0,sl0,rfl,fun h=>(by cases h),below_put5 hbw1 (by omega) _ _ _ _ _⟩
 have dp:decide (0<(T x).size)=true:=decide_eq_true hp;rw [dp] at hpl;have HR2:=Lib.hid (HR.out.trans (if_neg (by omega)))
 clear HR dp;go_enter Tryz.func160,Tryz.ntmps160;go_upto_region 1 with fail
 clear q0 q1 q2 q3 q4 fz hW hW0;go_upto_region 4 with (refine hpl.mono ?_;rintro e w1 ⟨rfl,hb1⟩)
 have hbw1:=below_cut hb hb1 (Nat.le_refl _);replace kI:=kI.step hb1
 replace kR:=kR.step hb1
 replace kM:=kM.step hb1
 have c1:=HC1.out w1 hb1;have hs1:=hb1.size;clear z0 z1 z2 z3 c0' hpl hb1;obtain ⟨z0,z1,z2,z3⟩:=four_ kI;obtain ⟨m0,m1,m2⟩:=three_ kM;have hl1:=HLEN.out w1.drew hbw1.drew;obtain ⟨N,hN⟩:∃ N,N=if c0.1≠43∨(T c0.2.1).kind≠3∨firstN c0<1∨4096<firstN c0 then (0:Int) else firstN c0:=⟨_,rfl⟩
 rw [← hN] at hl1;have HN:=Lib.hid hN;clear hN;go_cut [11] (fun u wx=>u=.int .i64 N∧Below w1.heap.size w1 wx)
 case first =>
  go_region_law (first
   | (go_simp;go_at_call 202;(with_reducible refine hl1.mono ?_);rintro e w8 ⟨rfl,hb8⟩))
  all_goals
   go_wp2_with fail;go_meet
   exact ⟨rfl,below_cut (Below.refl w1.heap.size w1).drew hb8 (Nat.le_refl _)⟩
 obtain ⟨rfl,hb2⟩:=hcut;have hbw2:=below_cut hbw1 hb2 (Nat.le_refl _);replace kR:=kR.step hb2
 have hs2:=hb2.size;clear z0 z1 z2 z3 m0 m1 m2 kI kM hl1 HC1 c1 hbw1
 by_cases hc:c0.1≠43∨(T c0.2.1).kind≠3∨firstN c0<1∨4096<firstN c0
 ·obtain rfl:=HN.out.trans (if_pos hc);obtain rfl:=HR2.out.trans (if_pos hc);obtain ⟨q0,q1,q2,q3,q4⟩:=five_ kR;have fz:=kR.frozen;clear HR2 HN hc;go_wp2_with fail;exact bodyPost_ret (rt_end (i:=0) (y:=ty0) (s:=sl0) rfl _ rfl rfl (blk_put5 kR _ _ _ _ _)) rfl ⟨ty0,sl0,rfl,fun h=>(by cases h),below_put5 hbw2 (by omega) _ _ _ _ _⟩
 have hNf:=HN.out.trans (if_neg hc);have hrf:=HR2.out.trans (if_neg hc);have hN1:1≤N∧N≤4096:=by omega
 rw [← hNf] at hrf;obtain ⟨m,rfl⟩:∃ m:Nat,N=m:=⟨N.toNat,by omega⟩
 have e0:(((m:Nat):Int)==0)=false:=by rw [beq_eq_false_iff_ne];omega
 have HRF:=Lib.hid hrf;have hG:=TyG.new wc 5 0 false;clear HR2 HN hc hNf hrf;go_wp2_with fail;clear e0;generalize wc=W2 at *;have hs3:w.heap.size+1+1<W2.heap.size:=by omega
 go_loopg [13] m (fun q i wr=>∃ (k:Nat) (A':Option Addr) (c':Nat),k+q=m∧i=.int .i64 (k:Nat)∧TyG W2 wr 5 0 false A' k c' (List.replicate k x))
 case atStart=>exact ⟨0,none,0,by omega,rfl,hG⟩
 case round =>
  obtain ⟨k,A',c',hkq,rfl,hg⟩:=hrel;have hsz3:=hg.size
  by_cases hlt:k<m
  ·obtain ⟨y0,y1,y2,y3,y4⟩:=five_ hg.blk;have ho:=hg.own;go_wp2_with (at_builtin;refine ap_one sl32 _ rfl _ _ rfl (W2.heap.size+1) _ _ _ rfl ho _ _ rfl rfl (by omega) (by omega) hsz3 ?_;intro v' w3 ho3 hgr3 _;obtain ⟨A3,c3,rfl⟩:=own_shape ho3;obtain ⟨p4,f4⟩:=hg.mid hgr3)
   have hg2:=hg.put hgr3 ho3;rw [rep_step] at hg2;go_roundg (m-(k+1))
   case measure=>omega
   case rel=>exact ⟨k+1,A3,c3,by omega,by go_num,hg2⟩
  ·obtain rfl:k=m:=by omega
   have hbw:=below_cut hbw2 hg.below (Nat.le_refl _);have kRr:=kR.step hg.below;obtain ⟨er,her⟩:∃ er,er=fitE T (List.replicate k x):=⟨_,rfl⟩;have hre:=her.trans (rep_fit (T:=T) hd0 (p:=x) (m:=k) (by omega))
   rw [← HRF.out] at hre;obtain ⟨r1,r2⟩:=r;dsimp only at hre ⊢;subst hre;have hr1:er=0→r1={ ty0 with kind:=5,part:=x,times:=(k:Int),size:=(k:Int)*(T x).size,depth:=(T x).depth+1 }:=fun h0=>by
    have h1:=(wholeT_ok (x:={ ty0 with kind:=5,part:=x,times:=(k:Int) }) (size:=(k:Int)*(T x).size) (depth:=(T x).depth) (by rw [← HRF.out];exact h0)).1
    rw [← HRF.out] at h1;exact h1
   have HR1:=Lib.hid hr1;have hpa:∀ j,j<k→0<(T (ix (List.replicate k x) j)).size:=fun j hj=>by rw [ix_replicate hj];exact hp
   have hf1:=HFT.out 5 0 false A' k c' _ wr.drew hbw.drew ((Reads.of_own hg.own).keep (fun _ _=>rfl)) hpa (by omega)
   have hbp:=below_put5 hbw.drew (show w.heap.size≤w.heap.size+1+1 by omega) (.int .u32 0) (.int .u8 5) (.bool false) (.int .u32 0) (.slice A' k c')
   have hop:=own_put5 (hg.own.drew) (g:=w.heap.size+1+1) (own_ne_low hg.own (by omega)) (.int .u32 0) (.int .u8 5) (.bool false) (.int .u32 0) (.slice A' k c')
   have hf2:=HFT.out 5 0 false A' k c' _ _ hbp (Reads.of_own hop) hpa (by omega)
   have kRd:=kRr.drew;have hgd:=hg.step (Below.refl wr.heap.size wr).drew;rw [← her] at hf1 hf2;have HER:=Lib.hid her;clear her hr1 HRF hpa;go_upto_region 12 with fail
   obtain ⟨y0,y1,y2,y3,y4⟩:=five_ hg.blk;obtain ⟨q0,q1,q2,q3,q4⟩:=five_ kRr;have fz:=kRr.frozen;go_region_law (first
    | (go_simp;go_at_call 203;(with_reducible refine hf1.mono ?_);rintro e w8 ⟨rfl,hb8⟩;have k8:=kRd.step hb8;have g8:=hgd.step hb8;obtain ⟨v0,v1,v2,v3,v4⟩:=five_ g8.blk;obtain ⟨u0,u1,u2,u3,u4⟩:=five_ k8;have f8:=k8.frozen;have HE:=TyG.last (cs:=#[.int .u32 0,.int .u8 0,.bool false,.int .u32 0,.slice none 0 0]) g8 k8 hs3 (below_cut hbw.drew hb8 (Nat.le_refl _)) (by omega))
    | (go_simp;go_at_call 203;(with_reducible refine hf2.mono ?_);rintro e w8 ⟨rfl,hb8⟩;have HE:Blk w8 (w.heap.size+1+1) 188 #[.int .u32 0,.int .u8 5,.bool false,.int .u32 0,.slice A' k c']∧w8.ownsRow w.heap.size 22 1 (.slice A' k c') k (Ints .u32 (List.replicate k x))∧Below w.heap.size w w8:=⟨(blk_put5 kRd _ _ _ _ _).step hb8,own_below (own_base hop (by omega)) hb8,below_cut hbp hb8 (Nat.le_refl _)⟩))
   all_goals
    go_wp2_with fail;refine bodyPost_ret (rt_end (i:=0) (y:={ ty0 with kind:=5 }) (s:=(A',k,c')) rfl _ rfl rfl HE.1) rfl ⟨_,(A',k,c'),rfl,fun h0=>?_,HE.2.2⟩
    rw [HR1.out h0];refine ⟨rfl,rfl,rfl,?_⟩;have hp:rparts { ty0 with kind:=5,part:=x,times:=(k:Int),size:=(k:Int)*(T x).size,depth:=(T x).depth+1 }=List.replicate k x:=by unfold rparts;rw [if_pos (by show (0:Int)<(k:Int);omega)];rfl
    rw [hp];exact HE.2.1
end
section
open Go.RowKit
theorem three_ahead (w:World) (cm ci:Array Value) :
  ∃ W:World,((w.alloc (.cells cm 25)).alloc (.cells #[.int .u32 0,.int .u8 0,.bool false,.int .u32 0,.slice none 0 0] 188)).alloc (.cells ci 51)=W∧Below w.heap.size w W∧Blk W w.heap.size 25 cm ∧
   Blk W (w.heap.size+1) 188 #[.int .u32 0,.int .u8 0,.bool false,.int .u32 0,.slice none 0 0]∧Blk W (w.heap.size+1+1) 51 ci∧W.heap.size=w.heap.size+1+1+1:=by
 refine ⟨_,rfl,(((Below.refl w.heap.size w).alloc (Nat.le_refl _) _).alloc (by simp) _).alloc (by simp;omega) _,((Blk.new w 25 cm).alloc _).alloc _,?_,?_,by simp⟩
 ·have k2:=(Blk.new (w.alloc (.cells cm 25)) 188 #[.int .u32 0,.int .u8 0,.bool false,.int .u32 0,.slice none 0 0]).alloc (.cells ci 51);rw [World.size_alloc] at k2;exact k2
 ·have k2:=Blk.new ((w.alloc (.cells cm 25)).alloc (.cells #[.int .u32 0,.int .u8 0,.bool false,.int .u32 0,.slice none 0 0] 188)) 51 ci;rw [World.size_alloc,World.size_alloc] at k2;exact k2
theorem RoneIs.on {w W w1:World} {x:TyI} {er:Int} {y:TyI} {s:SlI} {g:Nat} (hb:Below w.heap.size w W) (hg1:w.heap.size≤g) (hg2:g<W.heap.size)
  (h:er=0→y.kind=x.kind∧y.signed=x.signed∧y.cls=x.cls∧w1.ownsRow W.heap.size 22 1 (.slice s.1 s.2.1 s.2.2) s.2.1 (Ints .u32 (rparts x))) (hb1:Below W.heap.size W w1) :
  RoneIs x er w (.returned (.tuple #[.agg (rtV 0 y s),.int .i64 er])) (put5 w1 g (.int .u32 0) (.int .u8 y.kind) (.bool y.signed) (.int .u32 y.cls) (.slice s.1 s.2.1 s.2.2)) :=
 ⟨y,s,rfl,fun h0=>by
  obtain ⟨a1,a2,a3,a4⟩:=h h0;exact ⟨a1,a2,a3,own_base (own_put5 a4 (own_ne_low a4 (by omega)) _ _ _ _ _) (by have:=hb.size;omega)⟩,below_put5 (below_cut hb hb1 (Nat.le_refl _)) hg1 _ _ _ _ _⟩
theorem rone_any (p:Option Addr) (T:Int→TyI) (ord:List Int) (hY:Typed T) (h00:T 0=ty0) (hout:∀ id,id ∉ ord→T id=ty0) (gen bound:Int) (ls:List InstA) (MA:Option Addr) (Mn Mc at_:Nat) (M:Int→InstI) (w:World) (h:RTab w p T ord)
  (hM:ModS w w.heap.size MA Mn ls) (hk:at_<Mn) (h43:∀ x∈ls,x.1.1=43→0<x.1.2.2.2.length) (hu:∀ x∈ls,0≤firstN x.1∧firstN x.1<4294967296)
  (hty:(oneT T M (ig ls at_).1).2.1=true) (h2:(ig ls at_).1.1=21∨(ig ls at_).1.1=23∨(ig ls at_).1.1=28∨(ig ls at_).1.1=32→2≤(ig ls at_).1.2.2.2.length) (hla:(ig ls at_).1.2.2.2.length≤65535)
  (hun:∀ k,0≤ixn (nums (ig ls at_).1.2.2.2) k∧ixn (nums (ig ls at_).1.2.2.2) k<4294967296) (h32:(ig ls at_).1.1=32→(ig ls at_).1.2.2.2.length=2)
  (hc0:(ig ls at_).1.1=28→lenD T (ls.map (·.1)) (ixn (nums (ig ls at_).1.2.2.2) 1) at_=if (M (ixn (nums (ig ls at_).1.2.2.2) 1)).1≠43∨(T (M (ixn (nums (ig ls at_).1.2.2.2) 1)).2.1).kind≠3∨firstN (M (ixn (nums (ig ls at_).1.2.2.2) 1))<1∨4096<firstN (M (ixn (nums (ig ls at_).1.2.2.2) 1)) then 0 else firstN (M (ixn (nums (ig ls at_).1.2.2.2) 1))) :
  Calls Tryz.prog 120 #[.pointer p,.agg (modC gen bound MA Mn Mc),.int .i64 (at_:Nat)] w (RoneIs (oneT T M (ig ls at_).1).1 (oneT T M (ig ls at_).1).2.2 w):=by
 have hnb:=hM.len;have hlen:=hM.reads.insts_len;have hmem:=ig_mem (l:=ls) (k:=at_) (by omega)
 have hrd:=(hM.ok _ hmem).reads;obtain ⟨mb,mo,hMA,hmb,hcc⟩:=hM.reads.insts (by omega)
 obtain ⟨m0,m1,m2,m3⟩:=hcc at_ hk;have hop:=oneT_op hty;have hk2:((at_:Nat):Int)<(Mn:Int):=by omega
 have HM:=Lib.hid hM;have HH:=Lib.hid h;have H43:=Lib.hid h43;have HU:=Lib.hid hu;have hal:=hrd.args_len;obtain ⟨r,hr⟩:∃ r,r=oneT T M (ig ls at_).1:=⟨_,rfl⟩;rw [← hr];unfold oneT at hr;dsimp only at hr;clear hcc hmem hM hty h h43 hu;generalize ig ls at_=X at *;obtain ⟨⟨op,ty,res,al⟩,A,n,c⟩:=X;dsimp only at *;have HC0:=Lib.hid hc0;have HUN:=Lib.hid hun;clear hc0 hun;obtain ⟨W,hW,hb,kM,kR,kI,hsz⟩:=three_ahead w (modC gen bound MA Mn Mc) #[.int .u16 op,.int .u32 ty,.int .u32 res,.slice A n c];have hrW:=(hrd.below hb).more hb.size;have hTW:=HH.out.step hb;have hMW:=HM.out.step hb;subst hMA;obtain ⟨z0,z1,z2⟩:=three_ (w:=w.alloc (.cells (modC gen bound (some ⟨mb,mo,none⟩) Mn Mc) 25)) (Blk.new w 25 (modC gen bound (some ⟨mb,mo,none⟩) Mn Mc));unfold modC at *;simp only [List.mem_cons,List.not_mem_nil,or_false] at hop;clear z0 z1 z2
 rcases hop with rfl | rfl | rfl | rfl | rfl | rfl | rfl | rfl
 ·simp only [reduceIte,Int.reduceEq] at hr;obtain rfl:=hr;go_enter Tryz.func120,Tryz.ntmps120;go_upto_region 2 with fail
  obtain ⟨y0,y1,y2,y3⟩:=four_ kI;obtain ⟨q0,q1,q2,q3,q4⟩:=five_ kR;have fz:=kR.frozen;go_wp2_with fail;exact bodyPost_ret (rt_end (i:=0) (y:={ ty0 with kind:=1 }) (s:=sl0) rfl _ rfl rfl (blk_put5 kR _ _ _ _ _)) rfl ⟨_,sl0,rfl,fun _=>⟨rfl,rfl,rfl,World.ownsRow_nil _ _ _ _⟩,below_put5 hb (by omega) _ _ _ _ _⟩
 ·simp only [reduceIte,Int.reduceEq] at hr;obtain rfl:=hr;go_enter Tryz.func120,Tryz.ntmps120;go_upto_region 2 with fail
  obtain ⟨y0,y1,y2,y3⟩:=four_ kI;obtain ⟨q0,q1,q2,q3,q4⟩:=five_ kR;have fz:=kR.frozen;go_wp2_with fail;exact bodyPost_ret (rt_end (i:=0) (y:={ ty0 with kind:=2 }) (s:=sl0) rfl _ rfl rfl (blk_put5 kR _ _ _ _ _)) rfl ⟨_,sl0,rfl,fun _=>⟨rfl,rfl,rfl,World.ownsRow_nil _ _ _ _⟩,below_put5 hb (by omega) _ _ _ _ _⟩
 ·have h2n:=h2 (.inl rfl);simp only [reduceIte,Int.reduceEq] at hr;have hcl:=rbits_any 21 ty res al A n c W hrW (by omega)
  generalize (if ixn (nums al) 0≠32∨1<ixn (nums al) 1 then (102:Int) else 0)=E at hr hcl
  obtain rfl:=hr;unfold RoneIs rtV at hcl;go_enter Tryz.func120,Tryz.ntmps120;go_upto_region 2 with fail
  obtain ⟨y0,y1,y2,y3⟩:=four_ kI;go_wp2_with fail;refine hcl.mono ?_;rintro e w1 ⟨y,s,rfl,ho,hb1⟩;have kR1:=kR.step hb1;obtain ⟨q0,q1,q2,q3,q4⟩:=five_ kR1;have fz:=kR1.frozen;have HO:=Lib.hid ho;clear ho;go_wp2_with fail;exact bodyPost_ret (rt_end (i:=0) (y:=y) (s:=s) rfl _ rfl rfl (blk_put5 kR1 _ _ _ _ _)) rfl (RoneIs.on (g:=w.heap.size+1) hb (by omega) (by omega) HO.out hb1)
 ·have h2n:=h2 (.inr (.inl rfl));simp only [reduceIte,Int.reduceEq] at hr;obtain rfl:=hr;have hcl:=rvector_any p T ord hY hout 23 ty res al A n c W hTW hrW (by omega) (HUN.out 1)
  unfold RoneIs rtV at hcl;go_enter Tryz.func120,Tryz.ntmps120;go_upto_region 2 with fail
  obtain ⟨y0,y1,y2,y3⟩:=four_ kI;go_wp2_with fail;refine hcl.mono ?_;rintro e w1 ⟨y,s,rfl,ho,hb1⟩;have kR1:=kR.step hb1;obtain ⟨q0,q1,q2,q3,q4⟩:=five_ kR1;have fz:=kR1.frozen;have HO:=Lib.hid ho;clear ho;go_wp2_with fail;exact bodyPost_ret (rt_end (i:=0) (y:=y) (s:=s) rfl _ rfl rfl (blk_put5 kR1 _ _ _ _ _)) rfl (RoneIs.on (g:=w.heap.size+1) hb (by omega) (by omega) HO.out hb1)
 ·have h2n:=h2 (.inr (.inr (.inl rfl)));simp only [reduceIte,Int.reduceEq] at hr;obtain rfl:=hr;have hcl:=rarray_any p T ord hY h00 hout gen bound ls (some ⟨mb,mo,none⟩) Mn Mc at_ 28 ty res al A n c W hTW hrW (by omega) hMW (by omega) H43.out HU.out (M (ixn (nums al) 1)) (HC0.out rfl)
  unfold RoneIs rtV modC at hcl;unfold arrayT;go_enter Tryz.func120,Tryz.ntmps120;go_upto_region 2 with fail
  obtain ⟨y0,y1,y2,y3⟩:=four_ kI;obtain ⟨z0,z1,z2⟩:=three_ kM;go_wp2_with fail;refine hcl.mono ?_;rintro e w1 ⟨y,s,rfl,ho,hb1⟩;have kR1:=kR.step hb1;obtain ⟨q0,q1,q2,q3,q4⟩:=five_ kR1;have fz:=kR1.frozen;have HO:=Lib.hid ho;clear ho;go_wp2_with fail;exact bodyPost_ret (rt_end (i:=0) (y:=y) (s:=s) rfl _ rfl rfl (blk_put5 kR1 _ _ _ _ _)) rfl (RoneIs.on (g:=w.heap.size+1) hb (by omega) (by omega) HO.out hb1)
 ·simp only [reduceIte,Int.reduceEq] at hr;obtain rfl:=hr;have hcl:=rmembers_any p T ord hY h00 hout 30 ty res al A n c W hTW hrW;unfold RoneIs rtV at hcl;go_enter Tryz.func120,Tryz.ntmps120;go_upto_region 2 with fail
  obtain ⟨y0,y1,y2,y3⟩:=four_ kI;go_wp2_with fail;refine hcl.mono ?_;rintro e w1 ⟨y,s,rfl,ho,hb1⟩;have kR1:=kR.step hb1;obtain ⟨q0,q1,q2,q3,q4⟩:=five_ kR1;have fz:=kR1.frozen;have HO:=Lib.hid ho;clear ho;go_wp2_with fail;exact bodyPost_ret (rt_end (i:=0) (y:=y) (s:=s) rfl _ rfl rfl (blk_put5 kR1 _ _ _ _ _)) rfl (RoneIs.on (g:=w.heap.size+1) hb (by omega) (by omega) HO.out hb1)
 ·have h2n:=h32 rfl;simp only [reduceIte,Int.reduceEq] at hr;have hx0:=nums_getD (l:=al) (show 0<al.length by omega)
  have hx1:=nums_getD (l:=al) (show 1<al.length by omega)
  have hdr:(nums al).drop 1=[ixn (nums al) 1]:=nums_two (by rw [nums_len];exact h2n)
  rw [hdr,hx0,hx1] at hr;obtain ⟨b,off,rfl,hbb,hcc⟩:=hrW.args (by omega)
  obtain ⟨-,c0,-⟩:=hcc 0 (by omega)
  obtain ⟨-,c1,-⟩:=hcc 1 (by omega)
  have hpl:=rplain_any p T ord hY (ag al 1).2.1 W hTW hout;generalize (ag al 0).2.1=x at *;generalize (ag al 1).2.1=y at *;have hlt0:(0:Int)<(n:Int):=by omega
  have hlt1:(1:Int)<(n:Int):=by omega
  have hn0:0<n:=by omega
  have hn1:1<n:=by omega
  simp only [Nat.zero_mul,Nat.add_zero] at c0;have HC:=Lib.hid (fun (w':World) (hb:Below W.heap.size W w')=>And.intro (cell_on c0 hb) (cell_on c1 hb))
  clear hcc hx0 hx1 hdr h2n;go_enter Tryz.func120,Tryz.ntmps120;go_upto_region 2 with fail
  obtain ⟨y0,y1,y2,y3⟩:=four_ kI
  by_cases hp:0<(T y).size
  ·have dp:decide (0<(T y).size)=true:=decide_eq_true hp;rw [dp] at hpl;rw [if_neg (by omega)] at hr
   obtain rfl:=hr;clear hp dp;go_upto_region 18 with (refine hpl.mono ?_;rintro e w1 ⟨rfl,hb1⟩)
   obtain ⟨c0,c1⟩:=HC.out w1 hb1;have kI1:=kI.step hb1;have kR1:=kR.step hb1;have hb2:=below_cut hb hb1 (Nat.le_refl _);have hs1:=hb1.size;have hg:=TyG.new w1 7 x false;clear y0 y1 y2 y3 hpl hb1;obtain ⟨y0,y1,y2,y3⟩:=four_ kI1;have hbx:=hg.below;have kI2:=kI1.step hbx;have kR2:=kR1.step hbx;have c1':=cell_on c1 hbx;go_upto_region 19 with fail
   clear y0 y1 y2 y3 c0 c1;generalize (w1.alloc (.cells #[.int .u32 0,.int .u8 7,.bool false,.int .u32 x,.slice none 0 0] 188))=W9 at *;obtain ⟨y0,y1,y2,y3⟩:=four_ kI2;obtain ⟨x0,x1,x2,x3,x4⟩:=five_ hg.blk;have a4:=fun o=>(hg.blk.alloc o).cell 4
   have a3:=fun o=>(kI2.alloc o).cell 3
   have a1:=fun o=>cell_alloc_t o c1'
   have hs9:=hg.size;have ho:=hg.own;have hgd:=hg.step (Below.refl W9.heap.size W9).drew;have kRd:=kR2.drew;have hlit:=Reads.litN W9.drew #[.int .u32 y] 22 1 1 1 rfl rfl (by omega)
   simp at a4 a3;go_region_law (first
    | (refine step_ap_any sl32 (W9.drew.alloc (.cells #[.int .u32 y] 22)) rfl _ _ rfl (w1.heap.size+1) _ _ _ rfl (ho.drew.alloc _) _ _ 1 1 [.int .u32 y] rfl hlit (by simp [Value.oneCell']) (by omega) (by omega) (by rw [World.size_alloc];exact Nat.le_succ_of_le hs9) ?_;intro A8 c8 w8 ho8 hg8;obtain ⟨p4,f4⟩:=hgd.mid hg8))
   all_goals
    have hg9:=hgd.put hg8 ho8;have kR9:=kR1.step hg9.below;obtain ⟨v0,v1,v2,v3,v4⟩:=five_ hg9.blk;obtain ⟨u0,u1,u2,u3,u4⟩:=five_ kR9;have f9:=kR9.frozen;have HE:=TyG.last (w0:=w) (cs:=#[.int .u32 0,.int .u8 0,.bool false,.int .u32 0,.slice none 0 0]) (g:=w.heap.size+1) hg9 kR9 (by omega) (below_cut hb2 hg9.below (Nat.le_refl _)) (Nat.le_succ _)
    go_wp2_with fail;exact bodyPost_ret (rt_end (i:=0) (y:={ ty0 with kind:=7,cls:=x }) (s:=(A8,0+1,c8)) rfl _ rfl rfl HE.1) rfl ⟨_,(A8,0+1,c8),rfl,fun _=>⟨rfl,rfl,rfl,HE.2.1⟩,HE.2.2⟩
  ·have dp:decide (0<(T y).size)=false:=decide_eq_false hp;rw [dp] at hpl;rw [if_pos (by omega)] at hr
   obtain rfl:=hr;clear hp dp;go_wp2_with fail;refine hpl.mono ?_;rintro e w1 ⟨rfl,hb1⟩;have kR1:=kR.step hb1;obtain ⟨q0,q1,q2,q3,q4⟩:=five_ kR1;have fz:=kR1.frozen;go_wp2_with fail;exact bodyPost_ret (rt_end (i:=0) (y:=ty0) (s:=sl0) rfl _ rfl rfl (blk_put5 kR1 _ _ _ _ _)) rfl ⟨ty0,sl0,rfl,fun h=>(by cases h),below_put5 (below_cut hb hb1 (Nat.le_refl _)) (by omega) _ _ _ _ _⟩
 ·simp only [reduceIte,Int.reduceEq] at hr;obtain rfl:=hr;have hcl:=rfunction_any p T ord hY hout 33 ty res al A n c W hTW hrW (by omega)
  unfold RoneIs rtV at hcl;go_enter Tryz.func120,Tryz.ntmps120;go_upto_region 2 with fail
  obtain ⟨y0,y1,y2,y3⟩:=four_ kI;go_wp2_with fail;refine hcl.mono ?_;rintro e w1 ⟨y,s,rfl,ho,hb1⟩;have kR1:=kR.step hb1;obtain ⟨q0,q1,q2,q3,q4⟩:=five_ kR1;have fz:=kR1.frozen;have HO:=Lib.hid ho;clear ho;go_wp2_with fail;exact bodyPost_ret (rt_end (i:=0) (y:=y) (s:=s) rfl _ rfl rfl (blk_put5 kR1 _ _ _ _ _)) rfl (RoneIs.on (g:=w.heap.size+1) hb (by omega) (by omega) HO.out hb1)
end
end Go.Proofs.YteelmakkogdieaaGreatDoor
