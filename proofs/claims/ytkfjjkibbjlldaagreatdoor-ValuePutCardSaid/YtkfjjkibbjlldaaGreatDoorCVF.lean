/- Walks: Fits, given, Zero, Get, Put, Text, Parse where there is no value: no table, a type that has none, words that are none. -/
import Derived.Test.YtkfjjkibbjlldaaGreatDoorCVD
import Derived.Test.YtkfjjkibbjlldaaGreatDoorCUE
import Derived.Laws.CopyOwn
import Derived.Test.YtkfjjkibbjlldaaGreatDoorCVA
set_option maxRecDepth 100000
set_option maxHeartbeats 2000000
namespace Go.Proofs.YtkfjjkibbjlldaaGreatDoor
section
open Go.RowKit
def AskC (p:Option Addr) (ty E:Int) (w:World):Prop:=∀ w',Below w.heap.size w w'→Calls Tryz.prog 28 #[.pointer p,.int .u32 ty] w' fun e w''=>e=.returned (.int .i64 E)∧Below w'.heap.size w' w''
theorem AskC.on {p:Option Addr} {ty E:Int} {w w':World} (h:AskC p ty E w) (hb:Below w.heap.size w w'):AskC p ty E w':=fun w'' hb'=>h w'' (below_cut hb hb' (Nat.le_refl _))
theorem ask_tab (gt:Nat) (T:Int→TyI) (S:Int→SlI) (ty:Int) (w:World) (h:TabW w (some ⟨gt,0,none⟩) T S):AskC (some ⟨gt,0,none⟩) ty (askE T ty) w:=fun w' hb=>asked_any gt T S ty w' (h.step hb)
theorem ask_nil (ty:Int) (w:World):AskC none ty 1 w:=by
 intro w' _;go_enter Tryz.func28,Tryz.ntmps28;go_wp2_with fail;go_ret
 exact ⟨rfl,Below.refl _ _⟩
def GivC (p:Option Addr) (ty:Int) (A:Option Addr) (n c:Nat) (E:Int) (w:World):Prop:=∀ w',Below w.heap.size w w'→Calls Tryz.prog 38 #[.pointer p,.int .u32 ty,.slice A n c] w' fun e w''=>e=.returned (.int .i64 E)∧Below w'.heap.size w' w''
theorem GivC.on {p:Option Addr} {ty E:Int} {A:Option Addr} {n c:Nat} {w w':World} (h:GivC p ty A n c E w) (hb:Below w.heap.size w w'):GivC p ty A n c E w':=fun w'' hb'=>h w'' (below_cut hb hb' (Nat.le_refl _))
theorem given_out (p:Option Addr) (ty E:Int) (A:Option Addr) (n c:Nat) (w:World) (h:AskC p ty E w) (hE:E≠0):GivC p ty A n c E w:=by
 intro w' hb;have ha:=h w' hb;have d0:(E==0)=false:=by simpa using hE
 clear h hE;go_enter Tryz.func38,Tryz.ntmps38;go_wp2_with fail;refine ha.mono ?_;rintro e w1 ⟨rfl,hb1⟩;clear ha;go_wp2_with fail;go_ret
 exact ⟨rfl,hb1⟩
theorem given_not (p:Option Addr) (ty:Int) (A:Option Addr) (n c:Nat) (w:World) (h:AskC p ty 0 w) (hf:∀ w',Below w.heap.size w w'→Calls Tryz.prog 10 #[.pointer p,.int .u32 ty,.slice A n c] w' (BoolIs false w')):GivC p ty A n c 2 w:=by
 intro w' hb;have ha:=h w' hb;clear h;go_enter Tryz.func38,Tryz.ntmps38;go_wp2_with fail;refine ha.mono ?_;rintro e w1 ⟨rfl,hb1⟩;have hf1:=hf w1 (below_cut hb hb1 (Nat.le_refl _));unfold BoolIs at hf1;clear ha hf;go_wp2_with fail;refine hf1.mono ?_;rintro e w2 ⟨rfl,hb2⟩;go_wp2_with fail;go_ret
 exact ⟨rfl,below_cut hb1 hb2 (Nat.le_refl _)⟩
theorem get_out (p:Option Addr) (ty E:Int) (A:Option Addr) (n c:Nat) (v:Value) (w:World) (h:GivC p ty A n c E w) (hE:E≠0) :
  Calls Tryz.prog 21 #[.pointer p,.int .u32 ty,.slice A n c,v] w fun e w'=>e=.returned (.tuple #[.int .u32 0,.slice none 0 0,.int .i64 E])∧Below w.heap.size w w':=by
 have ha:=h w (Below.refl _ _);have d0:(E != 0)=true:=by simpa using hE
 clear h hE;go_enter Tryz.func21,Tryz.ntmps21;go_wp2_with fail;refine ha.mono ?_;rintro e w1 ⟨rfl,hb1⟩;clear ha;go_wp2_with fail;go_ret3
 exact ⟨rfl,hb1⟩
theorem put_out (p:Option Addr) (ty E:Int) (A:Option Addr) (n c:Nat) (v v':Value) (w:World) (h:GivC p ty A n c E w) (hE:E≠0) :
  Calls Tryz.prog 24 #[.pointer p,.int .u32 ty,.slice A n c,v,v'] w fun e w'=>e=.returned (.tuple #[.slice none 0 0,.int .i64 E])∧Below w.heap.size w w':=by
 have ha:=h w (Below.refl _ _);have d0:(E != 0)=true:=by simpa using hE
 clear h hE;go_enter Tryz.func24,Tryz.ntmps24;go_wp2_with fail;refine ha.mono ?_;rintro e w1 ⟨rfl,hb1⟩;clear ha;go_wp2_with fail;go_ret2
 exact ⟨rfl,hb1⟩
theorem text_out (p:Option Addr) (ty E:Int) (A:Option Addr) (n c:Nat) (w:World) (h:GivC p ty A n c E w) (hE:E≠0) :
  Calls Tryz.prog 15 #[.pointer p,.int .u32 ty,.slice A n c] w fun e w'=>e=.returned (.tuple #[.string ⟨#[]⟩,.int .i64 E])∧Below w.heap.size w w':=by
 have ha:=h w (Below.refl _ _);have d0:(E != 0)=true:=by simpa using hE
 clear h hE;go_enter Tryz.func15,Tryz.ntmps15;go_wp2_with fail;refine ha.mono ?_;rintro e w1 ⟨rfl,hb1⟩;clear ha;go_wp2_with fail;go_ret2
 exact ⟨rfl,hb1⟩
end
section
open Go.RowKit Go.Shelf
attribute [local go_sem] Oper.semAt_some
theorem flag_end {fn:Func} {p:Tmp} (h:fn.results=#[.cell p 4]) (tmps:Array Value) {W:World} {g:Nat} {b:Bool} (hp:tmps.getD p undef=.pointer (some ⟨g,0,none⟩)) (k:Blk W g 4 #[.bool b]) :
  (results fn tmps).run Tryz.prog W=.ok (.bool b) W:=by
 have ha:(asAddr (.pointer (some ⟨g,0,none⟩))).run Tryz.prog W=.ok ⟨g,0,none⟩ W:=rfl;have z0:=k.cell 0;simp at z0;have hl:(loadVar 4 ⟨g,0,none⟩).run Tryz.prog W=.ok (.bool b) W:=by go_simp
 rw [results_c1 h,hp,ha];simp only [Result.andThen_ok];exact hl
theorem fits_out (p:Option Addr) (ty E:Int) (A:Option Addr) (n c:Nat) (w:World) (h:AskC p ty E w) (hE:E≠0) :
  Calls Tryz.prog 10 #[.pointer p,.int .u32 ty,.slice A n c] w (BoolIs false w):=by
 have d0:(E != 0)=true:=by simpa using hE
 have k0:=((Blk.new w 27 #[.pointer p]).alloc (.cells #[.slice A n c] 26)).alloc (.cells #[.bool false] 4);have k1:=(Blk.new (w.alloc (.cells #[.pointer p] 27)) 26 #[.slice A n c]).alloc (.cells #[.bool false] 4);have k2:=Blk.new ((w.alloc (.cells #[.pointer p] 27)).alloc (.cells #[.slice A n c] 26)) 4 #[.bool false];have hb:=(((Below.refl w.heap.size w).alloc (Nat.le_refl _) (.cells #[.pointer p] 27)).alloc (by simp) (.cells #[.slice A n c] 26)).alloc (by simp;omega) (.cells #[.bool false] 4)
 simp only [World.size_alloc] at k1 k2;have hs3:(((w.alloc (.cells #[.pointer p] 27)).alloc (.cells #[.slice A n c] 26)).alloc (.cells #[.bool false] 4)).heap.size=w.heap.size+3:=by simp
 clear hE;go_enter Tryz.func10,Tryz.ntmps10;go_upto_region 1 with fail
 generalize (((w.alloc (.cells #[.pointer p] 27)).alloc (.cells #[.slice A n c] 26)).alloc (.cells #[.bool false] 4))=W at *;have c0:=k0.cell 0;have c1:=k1.cell 0;simp at c0 c1;have hbl:w.heap.size+1<W.heap.size:=by omega
 have hS0:F2 W w.heap.size (.pointer p) (.slice A n c) W:=⟨c0,c1,Below.refl _ _⟩;have hA:=fun (w':World) (hb':Below W.heap.size W w')=>(h.on hb) w' hb'
 first | go_region_law (first | (go_simp;go_at_call 28;(with_reducible refine (hA _ hS0.drew_.2.2).mono ?_);rintro e w' ⟨rfl,hbq⟩;have hH:=F2.call hbl hS0.drew_ hbq)) | fail
 all_goals
  have k22:=k2.step hH.2.2;have hbW:=below_cut hb hH.2.2 (by omega)
  have cb:=k22.cell 0;have fb:=k22.frozen 0;simp at cb;have kb2:Blk (w'.setCell ⟨w.heap.size+1+1,0,none⟩ (.bool false)) (w.heap.size+1+1) 4 #[.bool false]:=by simpa using k22.set_ 0 (.bool false)
  have hbE:=hbW.setCell (p:=⟨w.heap.size+1+1,0,none⟩) (by show w.heap.size≤w.heap.size+1+1;omega) (.bool false)
  clear hS0 k0 k1 k2;go_wp2_with fail;exact bodyPost_ret (flag_end rfl _ rfl kb2) rfl ⟨rfl,hbE⟩
theorem fits_len (gt:Nat) (T:Int→TyI) (S:Int→SlI) (ty:Int) (A:Option Addr) (n c:Nat) (w:World) (hT:TabW w (some ⟨gt,0,none⟩) T S) (hp:0<(T ty).size) (hn:(n:Int)≠(T ty).size) :
  Calls Tryz.prog 10 #[.pointer (some ⟨gt,0,none⟩),.int .u32 ty,.slice A n c] w (BoolIs false w):=by
 have hask:=fun (w':World) (h:TabW w' (some ⟨gt,0,none⟩) T S)=>asked_any gt T S ty w' h
 have ea:askE T ty=0:=if_pos hp;rw [ea] at hask;have hsz:=fun (w':World) (h:TabW w' (some ⟨gt,0,none⟩) T S)=>sizeM_any _ _ _ ty w' h.tab
 generalize (T ty).size=z at *;have en:(((n:Nat):Int) != z)=true:=by simpa using hn
 have k0:=((Blk.new w 27 #[.pointer (some ⟨gt,0,none⟩)]).alloc (.cells #[.slice A n c] 26)).alloc (.cells #[.bool false] 4);have k1:=(Blk.new (w.alloc (.cells #[.pointer (some ⟨gt,0,none⟩)] 27)) 26 #[.slice A n c]).alloc (.cells #[.bool false] 4);have k2:=Blk.new ((w.alloc (.cells #[.pointer (some ⟨gt,0,none⟩)] 27)).alloc (.cells #[.slice A n c] 26)) 4 #[.bool false];have hb:=(((Below.refl w.heap.size w).alloc (Nat.le_refl _) (.cells #[.pointer (some ⟨gt,0,none⟩)] 27)).alloc (by simp) (.cells #[.slice A n c] 26)).alloc (by simp;omega) (.cells #[.bool false] 4)
 simp only [World.size_alloc] at k1 k2;have hs3:(((w.alloc (.cells #[.pointer (some ⟨gt,0,none⟩)] 27)).alloc (.cells #[.slice A n c] 26)).alloc (.cells #[.bool false] 4)).heap.size=w.heap.size+3:=by simp
 clear hp hn ea;go_enter Tryz.func10,Tryz.ntmps10;go_upto_region 1 with fail
 generalize (((w.alloc (.cells #[.pointer (some ⟨gt,0,none⟩)] 27)).alloc (.cells #[.slice A n c] 26)).alloc (.cells #[.bool false] 4))=W at *;have c0:=k0.cell 0;have c1:=k1.cell 0;simp at c0 c1;have hbl:w.heap.size+1<W.heap.size:=by omega
 have hS0:F2 W w.heap.size (.pointer (some ⟨gt,0,none⟩)) (.slice A n c) W:=⟨c0,c1,Below.refl _ _⟩;have hTW:=hT.step hb;go_region_held3 (F2 W w.heap.size (.pointer (some ⟨gt,0,none⟩)) (.slice A n c)) (first | with_reducible exact hS0.drew_ | with_reducible assumption | with_reducible exact F2.call hbl (by assumption) hbq | fail) ((first | (go_at_call 28;(with_reducible refine (hask _ (hTW.step (F2.is (by assumption)))).mono ?_);rintro e w' ⟨rfl,hbq⟩) | (go_at_call 29;(with_reducible refine (hsz _ (hTW.step (F2.is (by assumption)))).mono ?_);rintro e w' ⟨rfl,hbq⟩)))
 all_goals
  have hH:F2 W w.heap.size (.pointer (some ⟨gt,0,none⟩)) (.slice A n c) w':=by assumption
  have k22:=k2.step hH.2.2;have hbW:=below_cut hb hH.2.2 (by omega)
  have cb:=k22.cell 0;have fb:=k22.frozen 0;simp at cb;have kb2:Blk (w'.setCell ⟨w.heap.size+1+1,0,none⟩ (.bool false)) (w.heap.size+1+1) 4 #[.bool false]:=by simpa using k22.set_ 0 (.bool false)
  have hbE:=hbW.setCell (p:=⟨w.heap.size+1+1,0,none⟩) (by show w.heap.size≤w.heap.size+1+1;omega) (.bool false)
  clear hS0 k0 k1 k2;go_wp2_with fail;exact bodyPost_ret (flag_end rfl _ rfl kb2) rfl ⟨rfl,hbE⟩
end
section
open Go.RowKit
def gvE (T:Int→TyI) (ty:Int) (ws:List Int):Int:=if 0<(T ty).size then (if fitsV T ty ws=true then 0 else 2) else 100
theorem gvE_zero {T:Int→TyI} {ty:Int} {ws:List Int} (h:gvE T ty ws=0):0<(T ty).size∧fitsV T ty ws=true∧(ws.length:Int)=(T ty).size:=by
 unfold gvE at h
 split at h
 ·rename_i h1
  split at h
  ·rename_i h2
   refine ⟨h1,h2,?_⟩;unfold fitsV at h2;simp only [Bool.and_eq_true,decide_eq_true_eq] at h2;exact h2.2.1
  ·cases h
 ·cases h
theorem fits_all (gt:Nat) (T:Int→TyI) (S:Int→SlI) (hY:Typed T) (ty:Int) (A:Option Addr) (n c:Nat) (ws:List Int) (w:World) (hT:TabW w (some ⟨gt,0,none⟩) T S) (hr:Reads w w.heap.size 1 A n (Ints .u32 ws)) :
  Calls Tryz.prog 10 #[.pointer (some ⟨gt,0,none⟩),.int .u32 ty,.slice A n c] w (BoolIs (fitsV T ty ws) w):=by
 have hlen:=hr.len
 by_cases hp:0<(T ty).size
 ·by_cases hn:(n:Int)=(T ty).size
  ·exact fits_well gt T S hY ty A n c ws w hT hr hp hn
  ·have hf:fitsV T ty ws=false:=by
    unfold fitsV;rw [show decide ((ws.length:Int)=(T ty).size)=false by rw [decide_eq_false_iff_not];omega,Bool.false_and,Bool.and_false]
   rw [hf];exact fits_len gt T S ty A n c w hT hp hn
 ·have hf:fitsV T ty ws=false:=by
   unfold fitsV;rw [show decide (0<(T ty).size)=false by rw [decide_eq_false_iff_not];exact hp,Bool.false_and]
  have ha:=ask_tab gt T S ty w hT;rw [show askE T ty=100 from if_neg hp] at ha
  rw [hf];exact fits_out _ ty 100 A n c w ha (by decide)
theorem given_any (gt:Nat) (T:Int→TyI) (S:Int→SlI) (hY:Typed T) (ty:Int) (A:Option Addr) (n c:Nat) (ws:List Int) (w:World) (hT:TabW w (some ⟨gt,0,none⟩) T S) (hr:Reads w w.heap.size 1 A n (Ints .u32 ws)):GivC (some ⟨gt,0,none⟩) ty A n c (gvE T ty ws) w:=by
 have hlen:=hr.len
 by_cases hp:0<(T ty).size
 ·have ha:=ask_tab gt T S ty w hT;rw [show askE T ty=0 from if_pos hp] at ha
  by_cases hn:(n:Int)=(T ty).size
  ·rw [show gvE T ty ws=(if fitsV T ty ws=true then 0 else 2) from if_pos hp]
   exact fun w' hb=>given_well gt T S hY ty A n c ws w' (hT.step hb) ((hr.below hb).more hb.size) hp hn
  ·have hf:fitsV T ty ws=false:=by
    unfold fitsV;rw [show decide ((ws.length:Int)=(T ty).size)=false by rw [decide_eq_false_iff_not];omega,Bool.false_and,Bool.and_false]
   rw [show gvE T ty ws=2 by unfold gvE;rw [if_pos hp,hf];rfl]
   exact given_not _ ty A n c w ha (fun w' hb=>fits_len gt T S ty A n c w' (hT.step hb) hp hn)
 ·have ha:=ask_tab gt T S ty w hT;rw [show askE T ty=100 from if_neg hp] at ha
  rw [show gvE T ty ws=100 from if_neg hp]
  exact given_out _ ty 100 A n c w ha (by decide)
def GotIs (T:Int→TyI) (ty:Int) (ws l:List Int) (w:World) (e:Ending) (w':World):Prop :=
 (gvE T ty ws≠0∧e=.returned (.tuple #[.int .u32 0,.slice none 0 0,.int .i64 (gvE T ty ws)])∧Below w.heap.size w w')∨(gvE T ty ws=0∧GetIs T (wkW T 0 ty l) ws w e w')
theorem get_any (gt:Nat) (T:Int→TyI) (S:Int→SlI) (hY:Typed T) (ty:Int) (A:Option Addr) (n c:Nat) (ws:List Int) (A2:Option Addr) (n2 c2:Nat) (l:List Int) (w:World) (hT:TabW w (some ⟨gt,0,none⟩) T S)
  (hr:Reads w w.heap.size 1 A n (Ints .u32 ws)) (hr2:Reads w w.heap.size 1 A2 n2 (Ints .u32 l)) (hnc:n≤c) (hn2:n2≤4611686018427387904) (hl:∀ x∈l,0≤x∧x<4294967296) :
  Calls Tryz.prog 21 #[.pointer (some ⟨gt,0,none⟩),.int .u32 ty,.slice A n c,.slice A2 n2 c2] w (GotIs T ty ws l w):=by
 have hlen:=hr.len
 by_cases h0:gvE T ty ws=0
 ·obtain ⟨h1,h2,h3⟩:=gvE_zero h0;exact (get_well gt T S hY ty A n c ws A2 n2 c2 l w hT hr hr2 h1 (by omega) hnc h2 hn2 hl).mono fun e w' h=>.inr ⟨h0,h⟩
 ·exact (get_out _ ty _ A n c _ w (given_any gt T S hY ty A n c ws w hT hr) h0).mono fun e w' h=>.inl ⟨h0,h⟩
def TextA (T:Int→TyI) (ty:Int) (ws:List Int) (w:World) (e:Ending) (w':World):Prop :=
 Below w.heap.size w w'∧((gvE T ty ws=0∧e=.returned (.tuple #[.string (bs (textV T 19 ty ws)),.int .i64 0]))∨(gvE T ty ws≠0∧e=.returned (.tuple #[.string ⟨#[]⟩,.int .i64 (gvE T ty ws)])))
theorem text_all (gt:Nat) (T:Int→TyI) (S:Int→SlI) (ty:Int) (A:Option Addr) (n c:Nat) (ws:List Int) (w:World) (hO:RdOk w gt T S) (hr:Reads w w.heap.size 1 A n (Ints .u32 ws)) (hnc:n≤c) (hu:∀ k,k<ws.length→0≤ix ws k∧ix ws k<4294967296) :
  Calls Tryz.prog 15 #[.pointer (some ⟨gt,0,none⟩),.int .u32 ty,.slice A n c] w (TextA T ty ws w):=by
 have hlen:=hr.len
 by_cases h0:gvE T ty ws=0
 ·obtain ⟨h1,h2,h3⟩:=gvE_zero h0;refine (txt_any gt T S ty A n c ws w hO hr hnc h1 (by omega) hu).mono ?_
  rintro e w' ⟨hb,⟨-,h⟩ | ⟨h,-⟩⟩
  ·exact ⟨hb,.inl ⟨h0,h⟩⟩
  ·rw [h2] at h;cases h
 ·exact (text_out _ ty _ A n c w (given_any gt T S hO.ty ty A n c ws w hO.tab hr) h0).mono fun e w' h=>⟨h.2,.inr ⟨h0,h.1⟩⟩
theorem int_take (kd:IntKind) (l:List Int) (k:Nat):Ints kd (l.take k)=(Ints kd l).take k:=by simp [Ints]
theorem int_drop (kd:IntKind) (l:List Int) (k:Nat):Ints kd (l.drop k)=(Ints kd l).drop k:=by simp [Ints]
theorem three_take {α:Type} {n:Nat} (P X D:List α) (h:P.length+X.length≤n):(P++(X++D)).take n=P++(X++D.take (n-(P.length+X.length))):=by
 rw [List.take_append,List.take_append,List.take_of_length_le (by omega:P.length≤n),List.take_of_length_le (by omega:X.length≤n-P.length),Nat.sub_sub]
theorem own_put {w:World} {base g n c:Nat} {e:TypeId} {l x:List Int} {p:Nat} (h:w.ownsRow base e 1 (.slice (some ⟨g,0,none⟩) n c) n (Ints .u32 l)) (hp:p+x.length≤n) :
  ∃ cur,w.heap[g]?=some (.cells cur e)∧p+x.length≤cur.size∧base≤g∧n≤c ∧
   (w.setRow g (cur.toList.take p++(Ints .u32 x++cur.toList.drop (p+x.length))).toArray).ownsRow base e 1 (.slice (some ⟨g,0,none⟩) n c) n (Ints .u32 (putV l (p:Nat) x)):=by
 have hl:l.length=n:=by
  exact own_len h
 rcases h.2 with ⟨hv,_⟩ | ⟨g',cap,cur,hv,hbg,hg,hnc,hcm,hcs,htake⟩
 ·cases hv
 ·cases hv
  have hsz:cur.toList.length=c:=by rw [Array.length_toList];omega
  have hpl:(putV l (p:Nat) x).length=l.length:=put_len (by omega) (by omega)
  refine ⟨cur,hg,by omega,hbg,hnc,?_,.inr ⟨g,c,_,rfl,hbg,setRow_heap w g cur _ e _ hg,hnc,hcm,?_,?_⟩⟩
  ·rw [Ints_length,hpl,hl,Nat.mul_one]
  ·simp only [List.size_toArray,List.length_append,List.length_take,List.length_drop,hsz,Ints_length];omega
  ·have ht:cur.toList.take n=Ints .u32 l:=by rw [← htake,Nat.mul_one]
   have e1:cur.toList.take p=Ints .u32 (l.take p):=by
    rw [int_take,← ht,List.take_take,Nat.min_eq_left (by omega)]
   have e2:(cur.toList.drop (p+x.length)).take (n-(p+x.length))=Ints .u32 (l.drop (p+x.length)):=by
    rw [int_drop,← ht,List.drop_take]
   have l1:(cur.toList.take p).length=p:=by rw [List.length_take];omega
   simp only [Nat.mul_one];rw [three_take _ _ _ (by rw [l1,Ints_length];exact hp),l1,Ints_length,e2,e1]
   unfold putV;rw [Ints_append,Ints_append];rfl
end
section
open Go.RowKit
def putE (T:Int→TyI) (ty:Int) (ws l part:List Int):Int:=if gvE T ty ws≠0 then gvE T ty ws else if (wkW T 0 ty l).2=0 then 121 else if fitsV T (wkW T 0 ty l).2 part=true then 0 else 2
def PutA (T:Int→TyI) (ty:Int) (ws l part:List Int) (w:World) (e:Ending) (w':World):Prop :=
 Below w.heap.size w w'∧((putE T ty ws l part≠0∧e=.returned (.tuple #[.slice none 0 0,.int .i64 (putE T ty ws l part)])) ∨
  (putE T ty ws l part=0∧∃ A' c',ws.length≤c'∧e=.returned (.tuple #[.slice A' ws.length c',.int .i64 0])∧w'.ownsRow w.heap.size 22 1 (.slice A' ws.length c') ws.length (Ints .u32 (putV ws (wkW T 0 ty l).1 part))))
theorem put_all (gt:Nat) (T:Int→TyI) (S:Int→SlI) (hY:Typed T) (ty:Int) (A:Option Addr) (n c:Nat) (ws:List Int) (A2:Option Addr) (n2 c2:Nat) (l:List Int) (A3:Option Addr) (n3 c3:Nat) (part:List Int) (w:World) (hT:TabW w (some ⟨gt,0,none⟩) T S)
  (hr:Reads w w.heap.size 1 A n (Ints .u32 ws)) (hr2:Reads w w.heap.size 1 A2 n2 (Ints .u32 l)) (hr3:Reads w w.heap.size 1 A3 n3 (Ints .u32 part)) (hn2:n2≤4611686018427387904) (hl:∀ x∈l,0≤x∧x<4294967296) :
  Calls Tryz.prog 24 #[.pointer (some ⟨gt,0,none⟩),.int .u32 ty,.slice A n c,.slice A2 n2 c2,.slice A3 n3 c3] w (PutA T ty ws l part w):=by
 have hlen:=hr.len;have hlen3:=hr3.len
 by_cases h0:gvE T ty ws=0
 ·obtain ⟨hp,hf,hn⟩:=gvE_zero h0;have hgv:=given_any gt T S hY ty A n c ws w hT hr w (Below.refl _ _);rw [h0] at hgv;have hwk:=fun (w':World) (h:Below w.heap.size w w')=>walk_well gt T S hY ty A2 n2 c2 l w' (hT.step h) hn2 ((hr2.below h).more h.size) hl hp
  have hin:=wkW_in hY (l:=l) (a:=0) (ty:=ty) (fun k hk=>(hl k hk).1) hp
  have hn4:=(hY.size ty).2.2;have hE:putE T ty ws l part=if (wkW T 0 ty l).2=0 then 121 else if fitsV T (wkW T 0 ty l).2 part=true then 0 else 2:=by unfold putE;rw [h0,if_neg (by decide)]
  unfold PutA;generalize putE T ty ws l part=E at *;generalize wkW T 0 ty l=r at *;obtain ⟨r1,r2⟩:=r;dsimp only at hwk hin hE ⊢;have HE:=Lib.hid hE;have hft:=fun (w':World) (h:Below w.heap.size w w')=>fits_all gt T S hY r2 A3 n3 c3 part w' (hT.step h) ((hr3.below h).more h.size)
  have hcl:=fun (w':World) (h:Below w.heap.size w w')=>clone_any A n c ws w' (by omega) ((hr.below h).more h.size)
  have HR3:=Lib.hid hr3;have HI:=Lib.hid hin;have HF:=Lib.hid hf;have HLN:=Lib.hid (And.intro hlen hlen3);have HS:=Lib.hid (show fitsV T r2 part=true→(part.length:Int)=(T r2).size∧0<(T r2).size from fun h=>by
   unfold fitsV at h;simp only [Bool.and_eq_true,decide_eq_true_eq] at h;exact ⟨h.2.1,h.1⟩)
  unfold BoolIs at hft;clear hT hr hr2 hr3 hf hY hl hE h0 hlen3 hin;go_enter Tryz.func24,Tryz.ntmps24;go_wp2_with fail;refine hgv.mono ?_;rintro e w1 ⟨rfl,hb1⟩;have hw1:=hwk w1 hb1;clear hgv hwk
  by_cases h0:r2=0
  ·have d0:(r2 != 0)=false:=by rw [h0];rfl
   rw [d0] at hw1;have HE1:Hid (E=121):=Lib.hid (by rw [HE.out,if_pos h0])
   clear hft hcl;go_wp2_with fail;refine hw1.mono ?_;rintro e w2 ⟨rfl,hb2⟩;have hb3:=below_cut hb1 hb2 (Nat.le_refl _);go_wp2_with fail;go_ret2
   exact ⟨hb3,.inl (by rw [HE1.out];exact ⟨by decide,rfl⟩)⟩
  ·have d0:(r2 != 0)=true:=by simpa using h0
   rw [d0] at hw1;have HE1:Hid (E=if fitsV T r2 part=true then 0 else 2):=Lib.hid (by rw [HE.out,if_neg h0])
   obtain ⟨q1,q2,q3⟩:0<(T r2).size∧0≤r1∧r1+(T r2).size≤0+(T ty).size:=by
    rcases HI.out with e | e
    ·injection e with _ e;exact absurd e h0
    ·exact e
   obtain ⟨p,rfl⟩:∃ p:Nat,r1=p:=⟨r1.toNat,by omega⟩
   have H0:=Lib.hid h0;clear h0 HI;go_wp2_with fail;refine hw1.mono ?_;rintro e w2 ⟨rfl,hb2⟩;have hb3:=below_cut hb1 hb2 (Nat.le_refl _);have hf2:=hft w2 hb3;clear hw1 hft;cases hfp:fitsV T r2 part with
   | false =>
    rw [hfp] at hf2;have HE2:Hid (E=2):=Lib.hid (by rw [HE1.out,hfp];rfl)
    clear hfp hcl;go_wp2_with fail;refine hf2.mono ?_;rintro e w3 ⟨rfl,hb4⟩;have hb5:=below_cut hb3 hb4 (Nat.le_refl _);go_wp2_with fail;go_ret2
    exact ⟨hb5,.inl (by rw [HE2.out];exact ⟨by decide,rfl⟩)⟩
   | true =>
    rw [hfp] at hf2;obtain ⟨s1,s2⟩:=HS.out hfp;have HE2:Hid (E=0):=Lib.hid (by rw [HE1.out,hfp];rfl)
    clear hfp HS;go_wp2_with fail;refine hf2.mono ?_;rintro e w3 ⟨rfl,hb4⟩;have hb5:=below_cut hb3 hb4 (Nat.le_refl _);have hc3:=hcl w3 hb5;clear hf2 hcl;go_wp2_with fail;refine hc3.mono ?_;rintro e w4 ⟨A4,c4,rfl,ho,hb6⟩;have hb7:=below_cut hb5 hb6 (Nat.le_refl _);have hs7:=hb5.size;have hr4:=(HR3.out.below hb7).more hb7.size;obtain ⟨ad,rfl,-,hc4⟩:=hr4.2 (by have:=HLN.out;omega)
    have hg4:∃ g,A4=some ⟨g,0,none⟩:=by
     rcases ho.2 with ⟨hv,hz⟩ | ⟨g,cap,cur,hv,-⟩
     ·exfalso;have:=HLN.out.1;cases hv;omega
     ·cases hv;exact ⟨g,rfl⟩
    obtain ⟨g,rfl⟩:=hg4;obtain ⟨cur,hg,hfit,hbg,hnc,hown⟩:=own_put (x:=part) (p:=p) ho (by have:=HLN.out;omega)
    have hsz:Option.map (fun x=>x.size) (Tryz.prog.info? 22)=some 1:=by kernel_rfl
    have hpn:p<n:=by have:=HLN.out;omega
    have hcp:¬ c4=p:=by omega
    have hpc:p≤c4:=by omega
    have hpn2:p≤n:=by omega
    have hml:n3≤n-p:=by have:=HLN.out;omega
    have hbE:=below_setRow (g:=g) hb7 (by omega) (cur.toList.take p++(Ints .u32 part++cur.toList.drop (p+part.length))).toArray
    have HO:=Lib.hid (own_base hown hs7);have HLE:=Lib.hid hnc;clear hc3 hr4 ho hown hs7;go_wp2_with (with_reducible refine wpList_copy_own rfl _ _ 26 26 rfl 22 Tryz.underlying26 hsz g p (n-p) (c4-p) ad n3 c3 rfl rfl cur _ hg (Ints .u32 part) ?_ hc4 ?_ Ints_oneCell ?_)
    ·rw [Ints_length,HLN.out.2];exact (Nat.min_eq_left hml).symm
    ·rw [Ints_length];exact hfit
    rw [Ints_length];generalize w4.setRow g (cur.toList.take p++(Ints .u32 part++cur.toList.drop (p+part.length))).toArray=w5 at *;go_wp2_with fail;go_ret2
    have e1:=HLN.out.1;exact ⟨hbE,.inr ⟨HE2.out,some ⟨g,0,none⟩,c4,by rw [e1];exact HLE.out,by rw [e1];rfl,by rw [e1];exact HO.out⟩⟩
 ·have hE:putE T ty ws l part=gvE T ty ws:=by unfold putE;rw [if_pos h0]
  refine (put_out _ ty _ A n c _ _ w (given_any gt T S hY ty A n c ws w hT hr) h0).mono ?_;rintro e w' ⟨h1,h2⟩;exact ⟨h2,.inl (by rw [hE];exact ⟨h0,h1⟩)⟩
end
end Go.Proofs.YtkfjjkibbjlldaaGreatDoor
