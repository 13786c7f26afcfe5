/- Walks: a value's text is read: Atoi, blanks, sign. -/
import Derived.BigQuiet
import Derived.Lib.Bytes2
import Derived.Deep.DeepCutAuto
import Derived.Deep.RegionLaw
import Derived.Test.YteelmakkogdieaaGreatDoorCTB
import Derived.Test.YteelmakkogdieaaGreatDoorCTF
import Derived.Test.YteelmakkogdieaaGreatDoorCTG
import Derived.Test.YteelmakkogdieaaGreatDoorCUL
import Derived.Test.YteelmakkogdieaaGreatDoorCVA
import Derived.Test.YteelmakkogdieaaGreatDoorCUC
import Derived.Test.YteelmakkogdieaaGreatDoorCTQ
set_option maxRecDepth 100000
set_option maxHeartbeats 8000000
namespace Go.Proofs.YteelmakkogdieaaGreatDoor
section
open Go.RowKit
def Errs (w : World) : Prop := (∃ tp p, w.var? Tryz.prog "strconv.ErrSyntax" = some #[.iface tp p]) ∧ (∃ tp p, w.var? Tryz.prog "strconv.ErrRange" = some #[.iface tp p])
theorem var_lt {w:World} {n:String} {g:Nat} {cs:Array Value} (hg:Tryz.prog.globalNamed n=some g) (h:w.var? Tryz.prog n=some cs):g<w.heap.size:=by
 rcases Nat.lt_or_ge g w.heap.size with hl | hl
 ·exact hl
 ·exfalso
  have e:w.heap[g]?=none:=by simp [hl]
  simp [World.var?,hg,e] at h
theorem Errs.step {w w':World} (h:Errs w) (hb:Below w.heap.size w w'):Errs w':=by
 obtain ⟨⟨tp,p,h1⟩,⟨tp',p',h2⟩⟩:=h;have g1 : ∃ g, Tryz.prog.globalNamed "strconv.ErrSyntax" = some g := Option.isSome_iff_exists.1 (by kernel_rfl)
 have g2 : ∃ g, Tryz.prog.globalNamed "strconv.ErrRange" = some g := Option.isSome_iff_exists.1 (by kernel_rfl)
 obtain ⟨g,hg⟩:=g1;obtain ⟨g',hg'⟩:=g2;exact ⟨⟨tp,p,var?_below hb hg (var_lt hg h1) h1⟩,⟨tp',p',var?_below hb hg' (var_lt hg' h2) h2⟩⟩
theorem atoi_ok (s:ByteArray) (hs:s.size≤140737488351232) (v:Int) (h:Lib.atoiAll s.data.toList=.ok v) (w:World) :
  Calls Tryz.prog 212 #[.string s] w fun e w'=>e=.returned (.tuple #[.int .i64 v,.nilIface])∧Below w.heap.size w w':=by
 refine (Tryz.strconv_Atoi_ok s (by omega) v h w).mono ?_
 rintro e w' ⟨rfl,rfl | ⟨t,rfl⟩⟩
 ·exact ⟨rfl,Below.refl _ _⟩
 ·exact ⟨rfl,Lib.bytesWorld_below _ _ _⟩
theorem atoi_bad (s:ByteArray) (hs:s.size≤140737488351232) (h:∀ v,Lib.atoiAll s.data.toList≠.ok v) (w:World) (hE:Errs w) :
  Calls Tryz.prog 212 #[.string s] w fun e w'=>∃ x tp N,e=.returned (.tuple #[.int .i64 x,.iface tp (.pointer (some ⟨N,0,none⟩))])∧Below w.heap.size w w':=by
 obtain ⟨⟨tp,p,h1⟩,⟨tp',p',h2⟩⟩:=hE;cases he:Lib.atoiAll s.data.toList with
 | ok v=>exact absurd he (h v)
 | range =>
  refine (Tryz.strconv_Atoi_range_var s (by omega) he tp' p' w h2).mono ?_
  rintro e w' ⟨N,rfl,-,-,hb⟩;exact ⟨_,_,N,rfl,hb⟩
 | _ =>
  refine (Tryz.strconv_Atoi_syntax_var s (by omega) he tp p w h1).mono ?_
  rintro e w' ⟨N,rfl,-,-,hb⟩;exact ⟨_,_,N,rfl,hb⟩
structure RdS (w0 w:World) (g:Nat) (p:Option Addr) (s:ByteArray) (a:Nat) (ws:List Int):Prop where
 blk:∃ A c,Blk w g 197 #[.pointer p,.string s,.int .i64 (a:Nat),.slice A ws.length c]∧w.ownsRow w0.heap.size 22 1 (.slice A ws.length c) ws.length (Ints .u32 ws)
 low:w0.heap.size≤g
 at_:a≤s.size
 few:s.size≤140737488351232
 below:Below w0.heap.size w0 w
section
variable {w0 w w':World} {g:Nat} {p:Option Addr} {s:ByteArray} {a:Nat} {ws:List Int}
theorem RdS.step (h:RdS w0 w g p s a ws) (hb:Below w.heap.size w w'):RdS w0 w' g p s a ws:=by
 obtain ⟨A,c,h1,h2⟩:=h.blk;exact ⟨⟨A,c,h1.step hb,own_below h2 hb⟩,h.low,h.at_,h.few,below_cut h.below hb (Nat.le_refl _)⟩
theorem RdS.move (h:RdS w0 w g p s a ws) {a':Nat} (ha:a'≤s.size):RdS w0 (w.setCell ⟨g,2,none⟩ (.int .i64 (a':Nat))) g p s a' ws:=by
 obtain ⟨A,c,h1,h2⟩:=h.blk;exact ⟨⟨A,c,by simpa using h1.set_ 2 (.int .i64 (a':Nat)),own_set_other h2 (p:=⟨g,2,none⟩) (own_blk_ne h2 h1 (by decide)) _⟩,h.low,ha,h.few,h.below.setCell (p:=⟨g,2,none⟩) h.low _⟩
theorem RdS.moveI (h:RdS w0 w g p s a ws) {a':Nat} {v:Int} (hv:v=(a':Nat)) (ha:a'≤s.size):RdS w0 (w.setCell ⟨g,2,none⟩ (.int .i64 v)) g p s a' ws:=by
 subst hv;exact h.move ha
end
theorem ba_drop (s:ByteArray) (k:Nat) (h:k<s.size):s.data.toList.drop k=s[k] :: s.data.toList.drop (k+1):=by
 have hl:k<s.data.toList.length:=by simpa using h
 rw [List.drop_eq_getElem_cons hl];rfl
theorem blanks_any (w0 w:World) (g:Nat) (p:Option Addr) (s:ByteArray) (a:Nat) (ws:List Int) (h:RdS w0 w g p s a ws) :
  Calls Tryz.prog 128 #[.pointer (some ⟨g,0,none⟩)] w fun e w'=>e=.returned (.tuple #[])∧∃ a',RdS w0 w' g p s a' ws∧s.data.toList.drop a'=blanksL (s.data.toList.drop a):=by
 have hfew:=h.few;go_enter Tryz.func128,Tryz.ntmps128;go_wp2_with fail;go_loopg [] (s.size-a) (fun q wr=>∃ k:Nat,k+q=s.size∧RdS w0 wr g p s k ws∧Hid (blanksL (s.data.toList.drop k)=blanksL (s.data.toList.drop a)))
 case atStart=>exact ⟨a,by have:=h.at_;omega,h,Lib.hid rfl⟩
 case round =>
  obtain ⟨k,hq,hr,HB⟩:=hrel;obtain ⟨A,c,hk,-⟩:=hr.blk;obtain ⟨z0,z1,z2,z3⟩:=four_ hk
  by_cases hlt:k<s.size
  ·have hd:=ba_drop s k hlt;have hi1:((k:Nat):Int)<(s.size:Nat):=by omega
   have d1:decide (((k:Nat):Int)<(s.size:Nat))=true:=by rw [decide_eq_true_eq];omega
   obtain ⟨x,hx⟩:∃ x,x=s[k]:=⟨_,rfl⟩
   by_cases h32:x=32
   ·have e32:((s[k].toNat:Int)==32)=true:=by rw [← hx,h32];rfl
    have HB2:Hid (blanksL (s.data.toList.drop (k+1))=blanksL (s.data.toList.drop a)):=Lib.hid (by
     rw [← HB.out,hd,← hx,h32];unfold blanksL;rw [List.dropWhile_cons];rfl)
    have hr2:=fun nq=>(hr.step (below_drewN (Below.refl wr.heap.size wr) nq)).moveI (a':=k+1) (v:=((k:Nat):Int)+1) (by omega) (by omega)
    have fz:=hk.frozen 2;clear hx hd;go_upto_region 0 with fail
    go_quiet (fail)
    go_wp2_with fail;go_roundg (s.size-(k+1))
    case measure=>omega
    case rel=>exact ⟨k+1,by omega,hr2 _,HB2⟩
   ·have e32:((s[k].toNat:Int)==32)=false:=by
     rw [← hx];simp only [beq_eq_false_iff_ne,ne_eq];intro e;exact h32 (UInt8.toNat_inj.1 (by have h9:(UInt8.toNat 32)=32:=rfl;omega))
    have HB2:Hid (s.data.toList.drop k=blanksL (s.data.toList.drop a)):=Lib.hid (by
     rw [← HB.out,hd,← hx];unfold blanksL;rw [List.dropWhile_cons];simp [h32])
    clear hx hd;go_upto_region 0 with fail
    go_quiet (fail)
    go_wp2_with fail;go_end0
    exact ⟨rfl,k,hr.step (below_drewN (Below.refl wr.heap.size wr) _),HB2.out⟩
  ·have d1:decide (((k:Nat):Int)<(s.size:Nat))=false:=by rw [decide_eq_false_iff_not];omega
   have HB2:Hid (s.data.toList.drop k=blanksL (s.data.toList.drop a)):=Lib.hid (by
    rw [← HB.out,List.drop_of_length_le (by simp;omega)]
    rfl)
   go_upto_region 0 with fail
   go_quiet (fail)
   go_wp2_with fail;go_end0
   exact ⟨rfl,k,hr.step (below_drewN (Below.refl wr.heap.size wr) _),HB2.out⟩
theorem ext_drop (s:ByteArray) (k:Nat):(s.extract k s.size).data.toList=s.data.toList.drop k:=by
 rw [Lib.extract_data];rw [List.take_of_length_le (by simp)]
def SignIs (w0:World) (g:Nat) (p:Option Addr) (s:ByteArray) (a:Nat) (ws:List Int) (sg:List UInt8) (e:Ending) (w':World):Prop :=
 ∃ a',RdS w0 w' g p s a' ws∧((e=.returned (.bool true)∧signR sg (s.data.toList.drop a)=some (s.data.toList.drop a'))∨(e=.returned (.bool false)∧signR sg (s.data.toList.drop a)=none∧s.data.toList.drop a'=blanksL (s.data.toList.drop a)))
theorem sign_any (w0 w:World) (g:Nat) (p:Option Addr) (s:ByteArray) (a:Nat) (ws:List Int) (sg:ByteArray) (h:RdS w0 w g p s a ws) (hsg:sg.size≤100) :
  Calls Tryz.prog 210 #[.pointer (some ⟨g,0,none⟩),.string sg] w (SignIs w0 g p s a ws sg.data.toList):=by
 have hfew:=h.few;have hbk:=blanks_any w0 w g p s a ws h;clear h;go_enter Tryz.func210,Tryz.ntmps210;go_wp2_with fail;refine hbk.mono ?_;rintro e w1 ⟨rfl,a1,hr,hda⟩;have HD:=Lib.hid hda;clear hbk hda;have ha1:=hr.at_;obtain ⟨A,c,hk,-⟩:=hr.blk;obtain ⟨z0,z1,z2,z3⟩:=four_ hk;have hi0:((a1:Nat):Int)≤(s.size:Nat):=by omega
 go_upto_region 2 with fail
 refine wp_region_tail 10 (by kernel_rfl) (by kernel_rfl) ?_
 simp only [List.take_succ_cons,List.take_zero,List.drop_succ_cons,List.drop_zero]
 repeat (go_big_quiet_step (fail))
 refine wpQuiet_nil ?_;have hrd:=hr.step (Below.refl w1.heap.size w1).drew;obtain ⟨x,hx⟩:∃ x,x=s.extract a1 s.size:=⟨_,rfl⟩;have hxl:x.data.toList=s.data.toList.drop a1:=by rw [hx,ext_drop]
 rw [← hx];have hpf:=Tryz.strings_HasPrefix x sg w1.drew;rw [hxl] at hpf;have HX:=Lib.hid hxl;clear hx hxl z0 z1 z2 z3 hk hr;generalize w1.drew=W at *
 by_cases hp:Lib.hasPrefix (s.data.toList.drop a1) sg.data.toList=true
 ·rw [hp] at hpf;have hle:=Lib.hasPrefix_le hp;have hsz:sg.data.toList.length=sg.size:=by simp
  have hsz2:s.data.toList.length=s.size:=by simp
  rw [List.length_drop] at hle;have hs:Hid (signR sg.data.toList (s.data.toList.drop a)=some (s.data.toList.drop (a1+sg.size))):=Lib.hid (by
   unfold signR;rw [← HD.out];unfold Lib.hasPrefix at hp;rw [if_pos hp,List.drop_drop,hsz])
  have hr2:=hrd.move (a':=a1+sg.size) (by omega)
  obtain ⟨A2,c2,hk2,-⟩:=hrd.blk;obtain ⟨y0,y1,y2,y3⟩:=four_ hk2;have fz:=hk2.frozen 2;have hw:IntKind.i64.wrap (((a1:Nat):Int)+(sg.size:Nat))=((a1+sg.size:Nat):Int):=by
   rw [IntWalk.i64_in _ (by omega)]
   omega
  have HR2:=Lib.hid hr2;clear hp hle hr2 hrd hk2;go_wp2_with fail;refine hpf.mono ?_;rintro e w2 ⟨rfl,rfl⟩;clear hpf;go_wp2_with fail;go_ret
  exact ⟨a1+sg.size,HR2.out,.inl ⟨rfl,hs.out⟩⟩
 ·have hp2:Lib.hasPrefix (s.data.toList.drop a1) sg.data.toList=false:=by simpa using hp
  rw [hp2] at hpf;have hs:Hid (signR sg.data.toList (s.data.toList.drop a)=none):=Lib.hid (by
   unfold signR;rw [← HD.out];unfold Lib.hasPrefix at hp;rw [if_neg hp])
  clear hp hp2;go_wp2_with fail;refine hpf.mono ?_;rintro e w2 ⟨rfl,rfl⟩;clear hpf;go_wp2_with fail;go_ret
  exact ⟨a1,hrd,.inr ⟨rfl,hs.out,HD.out⟩⟩
end
section
open Go.RowKit
theorem RdS.push {w0 w1 w2:World} {g:Nat} {p:Option Addr} {s:ByteArray} {a:Nat} {ws:List Int} {v:Int} {A':Option Addr} {c c':Nat} {A:Option Addr} (h:RdS w0 w1 g p s a ws) (k2:Blk w2 g 197 #[.pointer p,.string s,.int .i64 (a:Nat),.slice A ws.length c])
  (ho:w2.ownsRow w0.heap.size 22 1 (.slice A' (ws.length+1) c') (ws.length+1) (Ints .u32 ws++[.int .u32 v])) (hb:Below w0.heap.size w0 w2):RdS w0 (w2.setCell ⟨g,3,none⟩ (.slice A' (ws.length+1) c')) g p s a (ws++[v]):=by
 refine ⟨⟨A',c',?_,?_⟩,h.low,h.at_,h.few,hb.setCell (p:=⟨g,3,none⟩) h.low _⟩
 ·rw [List.length_append];simpa using k2.set_ 3 (.slice A' (ws.length+1) c')
 ·rw [List.length_append,Ints_append];exact own_set_other ho (p:=⟨g,3,none⟩) (own_blk_ne ho k2 (by decide)) _
def RdIs (w0:World) (g:Nat) (p:Option Addr) (s:ByteArray) (ws:List Int) (R:List UInt8 × Option (List Int)) (e:Ending) (w':World):Prop :=
 ∃ a' ws' ok,e=.returned (.bool ok)∧RdS w0 w' g p s a' ws'∧s.data.toList.drop a'=R.1∧((ok=true∧∃ vs,R.2=some vs∧ws'=ws++vs)∨(ok=false∧R.2=none))
def truthR (l:List UInt8):List UInt8 × Option (List Int) :=
 match signR trueB l with
 | some r=>(r,some [1])
 | none=>match signR falseB l with
  | some r=>(r,some [0])
  | none=>(blanksL l,none)
theorem truth_any (w0 w:World) (g:Nat) (p:Option Addr) (s:ByteArray) (a:Nat) (ws:List Int) (ty:Int) (h:RdS w0 w g p s a ws) (hl:ws.length≤8796093022208) :
  Calls Tryz.prog 167 #[.pointer (some ⟨g,0,none⟩),.int .u32 ty] w (RdIs w0 g p s ws (truthR (s.data.toList.drop a))):=by
 have h1:=sign_any w0 w g p s a ws ⟨#[116,114,117,101]⟩ h (by decide)
 obtain ⟨R,hR⟩:∃ R,R=truthR (s.data.toList.drop a):=⟨_,rfl⟩;rw [← hR];have HR:=Lib.hid hR;clear hR h;go_enter Tryz.func167,Tryz.ntmps167;go_wp2_with fail;refine h1.mono ?_;rintro e w1 ⟨a1,hr,⟨rfl,hs⟩ | ⟨rfl,hs,hd⟩⟩
 ·have HS:=Lib.hid (show R=(s.data.toList.drop a1,some [1]) by rw [HR.out];unfold truthR;rw [show signR trueB _=some _ from hs])
  clear hs h1;obtain ⟨A,c,hk,ho⟩:=hr.blk;obtain ⟨z0,z1,z2,z3⟩:=four_ hk;have fz:=hk.frozen;have hB:=hr.below.size;have hne:=Ne.symm (own_blk_ne ho hk (by decide))
  go_wp2_with (at_builtin;refine ap_one sl32 _ rfl _ _ rfl w0.heap.size _ _ _ rfl ho _ _ rfl rfl (by omega) (by omega) hB ?_;intro v' w2 ho2 hgr2 _;obtain ⟨A',c',rfl⟩:=own_shape ho2;have k2:=(hk.alloc (.cells #[.int .u32 1] 22)).grown hgr2 hne;have hb2:=(hr.below.alloc hB (.cells #[.int .u32 1] 22)).grown hgr2 (by simp;omega) (fun j hj=>(ho.lt j hj).1);obtain ⟨y0,y1,y2,y3⟩:=four_ k2;have fz2:=k2.frozen;have HP:=Lib.hid (RdS.push (v:=1) hr k2 ho2 hb2);clear hgr2 hne)
  go_ret
  exact ⟨_,_,true,rfl,HP.out,by rw [HS.out],.inl ⟨rfl,_,by rw [HS.out],rfl⟩⟩
 ·have h2:=sign_any w0 w1 g p s a1 ws ⟨#[102,97,108,115,101]⟩ hr (by decide)
  have HS0:=Lib.hid (show signR trueB (s.data.toList.drop a)=none from hs)
  have HD:=Lib.hid hd;clear hs hd h1 hr;go_wp2_with fail;refine h2.mono ?_;rintro e w2 ⟨a2,hr,⟨rfl,hs⟩ | ⟨rfl,hs,hd⟩⟩
  ·have HS:=Lib.hid (show R=(s.data.toList.drop a2,some [0]) by
    have e2:signR falseB (s.data.toList.drop a)=some (s.data.toList.drop a2):=by
     rw [HD.out] at hs;rw [← signR_blanks];exact hs
    rw [HR.out];unfold truthR;rw [HS0.out];simp only;rw [e2])
   clear hs h2;obtain ⟨A,c,hk,ho⟩:=hr.blk;obtain ⟨z0,z1,z2,z3⟩:=four_ hk;have fz:=hk.frozen;have hB:=hr.below.size;have hne:=Ne.symm (own_blk_ne ho hk (by decide))
   go_wp2_with (at_builtin;refine ap_one sl32 _ rfl _ _ rfl w0.heap.size _ _ _ rfl ho _ _ rfl rfl (by omega) (by omega) hB ?_;intro v' w3 ho2 hgr2 _;obtain ⟨A',c',rfl⟩:=own_shape ho2;have k2:=(hk.alloc (.cells #[.int .u32 0] 22)).grown hgr2 hne;have hb2:=(hr.below.alloc hB (.cells #[.int .u32 0] 22)).grown hgr2 (by simp;omega) (fun j hj=>(ho.lt j hj).1);obtain ⟨y0,y1,y2,y3⟩:=four_ k2;have fz2:=k2.frozen;have HP:=Lib.hid (RdS.push (v:=0) hr k2 ho2 hb2);clear hgr2 hne)
   go_ret
   exact ⟨_,_,true,rfl,HP.out,by rw [HS.out],.inl ⟨rfl,_,by rw [HS.out],rfl⟩⟩
  ·have HS:=Lib.hid (show R=(s.data.toList.drop a2,none) by
    have e2:signR falseB (s.data.toList.drop a)=none:=by
     rw [HD.out] at hs;rw [← signR_blanks];exact hs
    rw [HR.out];unfold truthR;rw [HS0.out];simp only;rw [e2,hd,HD.out,blanks_idem])
   clear hs hd h2;go_wp2_with fail;go_ret
   exact ⟨a2,ws,false,rfl,hr,by rw [HS.out],.inr ⟨rfl,by rw [HS.out]⟩⟩
end
section
open Go.RowKit
def numR (g:Bool) (l:List UInt8):List UInt8 × Option (List Int) :=
 match numAt g (blanksL l) with
 | some v=>((blanksL l).drop (tokL (blanksL l)).length,some [v])
 | none=>(blanksL l,none)
theorem ba_ext {x y:ByteArray} (h:x.data.toList=y.data.toList):x=y:=by
 obtain ⟨a⟩:=x;obtain ⟨b⟩:=y;congr 1
 exact Array.toList_inj.1 h
theorem ba_ne {x y:ByteArray} (h:x.data.toList≠y.data.toList):(x.toList==y.toList)=false∧(x.toList != y.toList)=true:=by
 have:x.toList≠y.toList:=by
  rw [ByteArray.toList_eq,ByteArray.toList_eq];exact h
 exact ⟨by simpa using this,by simpa using this⟩
theorem minus_head (l:List UInt8):(Lib.hasPrefix l [45]=true∧sgnL l=1∧1≤l.length)∨(Lib.hasPrefix l [45]=false∧sgnL l=0):=by
 unfold Lib.hasPrefix sgnL;cases l with
 | nil=>exact .inr ⟨rfl,rfl⟩
 | cons c r =>
  by_cases h:c=45
  ·subst h;exact .inl ⟨by simp [List.isPrefixOf],by simp,by simp⟩
  ·refine .inr ⟨?_,by simp [h]⟩
   simp [List.isPrefixOf]
   exact fun e=>h e.symm
theorem tok_start (l:List UInt8):tokL l=l.take (sgnL l)++(l.drop (sgnL l)).takeWhile isDg:=rfl
theorem numberV_any (w0 w:World) (g:Nat) (p:Option Addr) (s:ByteArray) (a:Nat) (ws:List Int) (ty:Int) (sg:Bool) (h:RdS w0 w g p s a ws) (hl:ws.length≤8796093022208) (hE:Errs w0)
  (hsig:∀ w',Below w0.heap.size w0 w'→Calls Tryz.prog 205 #[.pointer p,.int .u32 ty] w' fun e w''=>e=.returned (.bool sg)∧Below w'.heap.size w' w'')
  (hito:∀ n,-9223372036854775808≤n∧n≤9223372036854775807→∀ w',Below w0.heap.size w0 w'→Calls Tryz.prog 117 #[.int .i64 n] w' fun e w''=>e=.returned (.string ⟨(Lib.itoa n).toArray⟩)∧Below w'.heap.size w' w'') :
  Calls Tryz.prog 168 #[.pointer (some ⟨g,0,none⟩),.int .u32 ty] w (RdIs w0 g p s ws (numR sg (s.data.toList.drop a))):=by
 have h1:=blanks_any w0 w g p s a ws h;obtain ⟨R,hR⟩:∃ R,R=numR sg (s.data.toList.drop a):=⟨_,rfl⟩;rw [← hR];have HR:=Lib.hid hR;have HSIG:=Lib.hid hsig;have HITO:=Lib.hid hito;have hfew:=h.few;clear hR h hsig hito;go_enter Tryz.func168,Tryz.ntmps168;go_wp2_with fail;refine h1.mono ?_;rintro e w1 ⟨rfl,a1,hr,hd⟩;have ha1:=hr.at_;obtain ⟨A,c,hk,ho⟩:=hr.blk;obtain ⟨z0,z1,z2,z3⟩:=four_ hk;have hi0:((a1:Nat):Int)≤(s.size:Nat):=by omega
 have hpf:=fun W=>Tryz.strings_HasPrefix (s.extract a1 s.size) ⟨#[45]⟩ W
 have hmh:=minus_head (s.data.toList.drop a1);rw [ext_drop] at hpf;have hts:=tok_start (s.data.toList.drop a1);have HD:=Lib.hid hd;have HTS:=Lib.hid hts;clear hd h1 hts;go_wp2_with fail;refine (hpf _).mono ?_;rintro e w2 ⟨rfl,rfl⟩;clear hpf;have hlen:s.data.toList.length=s.size:=by simp
 obtain ⟨sn,hsn,hsn2,hB⟩:∃ sn:Nat,sgnL (s.data.toList.drop a1)=sn∧a1+sn≤s.size∧(Lib.hasPrefix (s.data.toList.drop a1) [45]=true∧sn=1∨Lib.hasPrefix (s.data.toList.drop a1) [45]=false∧sn=0):=by
  rcases hmh with ⟨h2,h3,h4⟩ | ⟨h2,h3⟩
  ·rw [List.length_drop] at h4;exact ⟨1,h3,by omega,.inl ⟨h2,rfl⟩⟩
  ·exact ⟨0,h3,by omega,.inr ⟨h2,rfl⟩⟩
 have HJ0:Hid (tokL (s.data.toList.drop a1)=(s.data.toList.drop a1).take (a1+sn-a1)++(s.data.toList.drop (a1+sn)).takeWhile isDg):=Lib.hid (by
  rw [HTS.out,hsn,List.drop_drop,show a1+sn-a1=sn by omega])
 have hpx:Lib.hasPrefix (s.data.toList.drop a1) ({ data:=#[45] }:ByteArray).data.toList=Lib.hasPrefix (s.data.toList.drop a1) [45]:=rfl;rw [hpx];clear hmh HTS hpx hsn
 rcases hB with ⟨h2,h3⟩ | ⟨h2,h3⟩
 all_goals
  rw [h2];subst h3;clear h2;go_wp2_with fail;go_loopg [5] (s.size-a1) (fun q t wr=>∃ k:Nat,s.size-k≤q∧k≤s.size∧a1≤k∧t=.int .i64 (k:Nat)∧RdS w0 wr g p s a1 ws∧Hid (tokL (s.data.toList.drop a1)=(s.data.toList.drop a1).take (k-a1)++(s.data.toList.drop k).takeWhile isDg))
  case atStart=>first | exact ⟨a1+1,by omega,by omega,by omega,by go_num,hr,HJ0⟩ | exact ⟨a1,by omega,by omega,by omega,rfl,hr,HJ0⟩
  case round =>
   obtain ⟨k,hq,hks,hak,rfl,hr2,HJ⟩:=hrel;clear hk ho z0 z1 z2 z3 HJ0;obtain ⟨A2,c2,hk,ho⟩:=hr2.blk;obtain ⟨z0,z1,z2,z3⟩:=four_ hk
   by_cases hlt:k<s.size
   ·have hd:=ba_drop s k hlt;have hi1:((k:Nat):Int)<(s.size:Nat):=by omega
    have d1:decide (((k:Nat):Int)<(s.size:Nat))=true:=by rw [decide_eq_true_eq];omega
    obtain ⟨x,hx⟩:∃ x,x=s[k]:=⟨_,rfl⟩
    by_cases h48:48≤x.toNat
    ·have e1:decide ((s[k].toNat:Int)≥48)=true:=by rw [← hx,decide_eq_true_eq];omega
     have e1b:decide ((48:Int)≤(s[k].toNat:Int))=true:=by rw [← hx,decide_eq_true_eq];omega
     have e1c:decide (48≤s[k].toNat)=true:=by rw [← hx,decide_eq_true_eq];omega
     by_cases h57:x.toNat≤57
     ·have e2:decide ((s[k].toNat:Int)≤57)=true:=by rw [← hx,decide_eq_true_eq];omega
      have e2c:decide (s[k].toNat≤57)=true:=by rw [← hx,decide_eq_true_eq];omega
      have HJ2:Hid (tokL (s.data.toList.drop a1)=(s.data.toList.drop a1).take (k+1-a1)++(s.data.toList.drop (k+1)).takeWhile isDg):=Lib.hid (by
       rw [HJ.out,hd,List.takeWhile_cons,← hx,if_pos (isDg_iff.2 ⟨h48,h57⟩)];have e3:(s.data.toList.drop a1).take (k+1-a1)=(s.data.toList.drop a1).take (k-a1)++[x]:=by
        rw [show k+1-a1=(k-a1)+1 by omega,List.take_add_one,List.getElem?_drop,show a1+(k-a1)=k by omega]
        have h9:s.data.toList[k]?=some x:=by
         have:=congrArg List.head? hd;rw [List.head?_cons,List.head?_drop] at this;rw [this,hx]
        rw [h9];rfl
       rw [e3,List.append_assoc];rfl)
      clear hx hd;go_wp2_with fail;go_roundg (s.size-(k+1))
      case measure=>omega
      case rel=>exact ⟨k+1,by omega,by omega,by omega,by go_num,hr2,HJ2⟩
     ·have e2:decide ((s[k].toNat:Int)≤57)=false:=by rw [← hx,decide_eq_false_iff_not];omega
      have e2c:decide (s[k].toNat≤57)=false:=by rw [← hx,decide_eq_false_iff_not];omega
      have HT:Hid (tokL (s.data.toList.drop a1)=(s.data.toList.drop a1).take (k-a1)):=Lib.hid (by
       rw [HJ.out,hd,List.takeWhile_cons,← hx,if_neg (fun h=>h57 (isDg_iff.1 h).2),List.append_nil])
      clear hx hd;have hi2:((a1:Nat):Int)≤(k:Nat):=by omega
      have hi3:((k:Nat):Int)≤(s.size:Nat):=by omega
      go_wp2_with fail;go_upto_region 7 with fail
      go_quiet (fail)
      have hr4:=hr2.step (below_drewN (Below.refl wr.heap.size wr) nq);obtain ⟨dg,hdg⟩:∃ dg,dg=s.extract a1 k:=⟨_,rfl⟩;have hdl:dg.data.toList=tokL (s.data.toList.drop a1):=by rw [hdg,Lib.extract_data,HT.out]
      have hsz:s.data.toList.length=s.size:=by simp
      have htl:(tokL (s.data.toList.drop a1)).length=k-a1:=by rw [HT.out,List.length_take,List.length_drop];omega
      have hds:dg.size=k-a1:=by rw [← htl,← hdl];simp
      rw [← hdg];have HDL:=Lib.hid hdl;have HTL:=Lib.hid (show (tokL (s.data.toList.drop a1)).length=k-a1∧a1≤k from ⟨htl,hak⟩)
      clear hdg hdl htl z0 z1 z2 z3 hk ho;generalize wr.drewN nq=W4 at *;have hb4:=hr4.below
      by_cases hat:∃ n,Lib.atoiAll (tokL (s.data.toList.drop a1))=.ok n
      ·obtain ⟨n,hn⟩:=hat;have hnb:=Lib.atoiAll_bounds hn;have hao:=atoi_ok dg (by omega) n (by rw [HDL.out];exact hn) W4
       have HA:=Lib.hid hn;clear hn;go_wp2_with fail;refine hao.mono ?_;rintro e W5 ⟨rfl,hb5⟩;have hr5:=hr4.step hb5;obtain ⟨A5,c5,hk5,-⟩:=hr5.blk;obtain ⟨v0,v1,v2,v3⟩:=four_ hk5;have hsg5:=HSIG.out W5 hr5.below;clear hao hr4;cases sg with
       | true =>
        go_wp2_with fail;refine hsg5.mono ?_;rintro e W6 ⟨rfl,hb6'⟩;have hr6:=hr5.step hb6';have hb6:=hr6.below;clear hsg5 hr5 hb6' hb5 hb4;have hxn:({ data:=(Lib.itoa n).toArray }:ByteArray).data.toList=Lib.itoa n:=by simp
        obtain ⟨y,hy⟩:∃ y:ByteArray,y={ data:=(Lib.itoa n).toArray }:=⟨_,rfl⟩;rw [← hy] at hxn;have hi6:=HITO.out n hnb W6 hb6;rw [← hy] at hi6;have HY:=Lib.hid hxn;clear hy hxn
        by_cases heq:Lib.itoa n=tokL (s.data.toList.drop a1)
        ·obtain rfl:y=dg:=ba_ext (by rw [HY.out,HDL.out,heq])
         by_cases hlo:(-2147483648:Int)≤n
         ·have d5:decide (n<(-2147483648:Int))=false:=by rw [decide_eq_false_iff_not];omega
          by_cases hhi:n≤(2147483647:Int)
          ·have d6:decide (n>(2147483647:Int))=false:=by rw [decide_eq_false_iff_not];omega
           have d6b:decide ((2147483647:Int)<n)=false:=by rw [decide_eq_false_iff_not];omega
           have HRS:=Lib.hid (show R=(s.data.toList.drop k,some [n % 4294967296]) by
            rw [HR.out];unfold numR numAt;rw [← HD.out,HA.out];simp only;rw [if_pos ⟨heq,by unfold leastV;simp;omega,by unfold mostV;simp;omega⟩]
            simp only;rw [List.drop_drop,show a1+(tokL (s.data.toList.drop a1)).length=k by have:=HTL.out;omega])
           have hw32:IntKind.u32.wrap n=n % 4294967296:=IntKind.wrap_u32 n;go_wp2_with fail;refine hi6.mono ?_;rintro e W7 ⟨rfl,hb7⟩;have hr7:=(hr6.step hb7).move (a':=k) hks;have hr7f:=(hr6.step hb7);obtain ⟨A,c,hk,ho⟩:=hr7.blk;obtain ⟨z0,z1,z2,z3⟩:=four_ hk;obtain ⟨A9,c9,hk9,ho9⟩:=hr7f.blk;obtain ⟨x0,x1,x2,x3⟩:=four_ hk9;have fz:=hk.frozen;have fz9:=hk9.frozen;have hB:=hr7.below.size;have hne:=Ne.symm (own_blk_ne ho hk (by decide))
           have hl2:=hl;clear hi6 d1 hr7f ho9 hk9;go_upto_region 15 with fail
           generalize W7.setCell ⟨g,2,none⟩ (.int .i64 (k:Nat))=W8 at *;go_wp2_with (at_builtin;refine ap_one sl32 _ rfl _ _ rfl w0.heap.size _ _ _ rfl ho _ _ rfl rfl (by omega) (by omega) hB ?_;intro v' w9 ho2 hgr2 _;obtain ⟨A',c',rfl⟩:=own_shape ho2;have k2:=(hk.alloc (.cells #[.int .u32 (n % 4294967296)] 22)).grown hgr2 hne;have hb2:=(hr7.below.alloc hB (.cells #[.int .u32 (n % 4294967296)] 22)).grown hgr2 (by simp;omega) (fun j hj=>(ho.lt j hj).1);obtain ⟨y0,y1,y2,y3⟩:=four_ k2;have fz2:=k2.frozen;have HP:=Lib.hid (RdS.push (v:=n % 4294967296) hr7 k2 ho2 hb2);clear hgr2 hne)
           go_ret
           exact ⟨_,_,true,rfl,HP.out,by rw [HRS.out],.inl ⟨rfl,_,by rw [HRS.out],rfl⟩⟩
          ·have d6:decide (n>(2147483647:Int))=true:=by rw [decide_eq_true_eq];omega
           have d6b:decide ((2147483647:Int)<n)=true:=by rw [decide_eq_true_eq];omega
           have HRS:=Lib.hid (show R=(s.data.toList.drop a1,none) by
            rw [HR.out];unfold numR numAt;rw [← HD.out,HA.out];simp only;rw [if_neg (fun hc=>hhi (by have:=hc.2.2;unfold mostV at this;simp at this;omega))])
           go_wp2_with fail;refine hi6.mono ?_;rintro e W7 ⟨rfl,hb7⟩;go_wp2_with fail;go_ret
           exact ⟨a1,ws,false,rfl,hr6.step hb7,by rw [HRS.out],.inr ⟨rfl,by rw [HRS.out]⟩⟩
         ·have d5:decide (n<(-2147483648:Int))=true:=by rw [decide_eq_true_eq];omega
          have HRS:=Lib.hid (show R=(s.data.toList.drop a1,none) by
           rw [HR.out];unfold numR numAt;rw [← HD.out,HA.out];simp only;rw [if_neg (fun hc=>hlo (by have:=hc.2.1;unfold leastV at this;simp at this;omega))])
          go_wp2_with fail;refine hi6.mono ?_;rintro e W7 ⟨rfl,hb7⟩;go_wp2_with fail;go_ret
          exact ⟨a1,ws,false,rfl,hr6.step hb7,by rw [HRS.out],.inr ⟨rfl,by rw [HRS.out]⟩⟩
        ·obtain ⟨n1,n2⟩:=ba_ne (x:=y) (y:=dg) (by rw [HY.out,HDL.out];exact heq)
         have n3:¬ y=dg:=fun e=>heq (by rw [← HY.out,e,HDL.out])
         have HRS:=Lib.hid (show R=(s.data.toList.drop a1,none) by
          rw [HR.out];unfold numR numAt;rw [← HD.out,HA.out];simp only;rw [if_neg (fun hc=>heq hc.1)])
         go_wp2_with fail;refine hi6.mono ?_;rintro e W7 ⟨rfl,hb7⟩;go_wp2_with fail;go_ret
         exact ⟨a1,ws,false,rfl,hr6.step hb7,by rw [HRS.out],.inr ⟨rfl,by rw [HRS.out]⟩⟩
       | false =>
        go_wp2_with fail;refine hsg5.mono ?_;rintro e W6 ⟨rfl,hb6'⟩;have hr6:=hr5.step hb6';have hb6:=hr6.below;clear hsg5 hr5 hb6' hb5 hb4;have hxn:({ data:=(Lib.itoa n).toArray }:ByteArray).data.toList=Lib.itoa n:=by simp
        obtain ⟨y,hy⟩:∃ y:ByteArray,y={ data:=(Lib.itoa n).toArray }:=⟨_,rfl⟩;rw [← hy] at hxn;have hi6:=HITO.out n hnb W6 hb6;rw [← hy] at hi6;have HY:=Lib.hid hxn;clear hy hxn
        by_cases heq:Lib.itoa n=tokL (s.data.toList.drop a1)
        ·obtain rfl:y=dg:=ba_ext (by rw [HY.out,HDL.out,heq])
         by_cases hlo:(0:Int)≤n
         ·have d5:decide (n<(0:Int))=false:=by rw [decide_eq_false_iff_not];omega
          by_cases hhi:n≤(4294967295:Int)
          ·have d6:decide (n>(4294967295:Int))=false:=by rw [decide_eq_false_iff_not];omega
           have d6b:decide ((4294967295:Int)<n)=false:=by rw [decide_eq_false_iff_not];omega
           have HRS:=Lib.hid (show R=(s.data.toList.drop k,some [n % 4294967296]) by
            rw [HR.out];unfold numR numAt;rw [← HD.out,HA.out];simp only;rw [if_pos ⟨heq,by unfold leastV;simp;omega,by unfold mostV;simp;omega⟩]
            simp only;rw [List.drop_drop,show a1+(tokL (s.data.toList.drop a1)).length=k by have:=HTL.out;omega])
           have hw32:IntKind.u32.wrap n=n % 4294967296:=IntKind.wrap_u32 n;go_wp2_with fail;refine hi6.mono ?_;rintro e W7 ⟨rfl,hb7⟩;have hr7:=(hr6.step hb7).move (a':=k) hks;have hr7f:=(hr6.step hb7);obtain ⟨A,c,hk,ho⟩:=hr7.blk;obtain ⟨z0,z1,z2,z3⟩:=four_ hk;obtain ⟨A9,c9,hk9,ho9⟩:=hr7f.blk;obtain ⟨x0,x1,x2,x3⟩:=four_ hk9;have fz:=hk.frozen;have fz9:=hk9.frozen;have hB:=hr7.below.size;have hne:=Ne.symm (own_blk_ne ho hk (by decide))
           have hl2:=hl;clear hi6 d1 hr7f ho9 hk9;go_upto_region 15 with fail
           generalize W7.setCell ⟨g,2,none⟩ (.int .i64 (k:Nat))=W8 at *;go_wp2_with (at_builtin;refine ap_one sl32 _ rfl _ _ rfl w0.heap.size _ _ _ rfl ho _ _ rfl rfl (by omega) (by omega) hB ?_;intro v' w9 ho2 hgr2 _;obtain ⟨A',c',rfl⟩:=own_shape ho2;have k2:=(hk.alloc (.cells #[.int .u32 (n % 4294967296)] 22)).grown hgr2 hne;have hb2:=(hr7.below.alloc hB (.cells #[.int .u32 (n % 4294967296)] 22)).grown hgr2 (by simp;omega) (fun j hj=>(ho.lt j hj).1);obtain ⟨y0,y1,y2,y3⟩:=four_ k2;have fz2:=k2.frozen;have HP:=Lib.hid (RdS.push (v:=n % 4294967296) hr7 k2 ho2 hb2);clear hgr2 hne)
           go_ret
           exact ⟨_,_,true,rfl,HP.out,by rw [HRS.out],.inl ⟨rfl,_,by rw [HRS.out],rfl⟩⟩
          ·have d6:decide (n>(4294967295:Int))=true:=by rw [decide_eq_true_eq];omega
           have d6b:decide ((4294967295:Int)<n)=true:=by rw [decide_eq_true_eq];omega
           have HRS:=Lib.hid (show R=(s.data.toList.drop a1,none) by
            rw [HR.out];unfold numR numAt;rw [← HD.out,HA.out];simp only;rw [if_neg (fun hc=>hhi (by have:=hc.2.2;unfold mostV at this;simp at this;omega))])
           go_wp2_with fail;refine hi6.mono ?_;rintro e W7 ⟨rfl,hb7⟩;go_wp2_with fail;go_ret
           exact ⟨a1,ws,false,rfl,hr6.step hb7,by rw [HRS.out],.inr ⟨rfl,by rw [HRS.out]⟩⟩
         ·have d5:decide (n<(0:Int))=true:=by rw [decide_eq_true_eq];omega
          have HRS:=Lib.hid (show R=(s.data.toList.drop a1,none) by
           rw [HR.out];unfold numR numAt;rw [← HD.out,HA.out];simp only;rw [if_neg (fun hc=>hlo (by have:=hc.2.1;unfold leastV at this;simp at this;omega))])
          go_wp2_with fail;refine hi6.mono ?_;rintro e W7 ⟨rfl,hb7⟩;go_wp2_with fail;go_ret
          exact ⟨a1,ws,false,rfl,hr6.step hb7,by rw [HRS.out],.inr ⟨rfl,by rw [HRS.out]⟩⟩
        ·obtain ⟨n1,n2⟩:=ba_ne (x:=y) (y:=dg) (by rw [HY.out,HDL.out];exact heq)
         have n3:¬ y=dg:=fun e=>heq (by rw [← HY.out,e,HDL.out])
         have HRS:=Lib.hid (show R=(s.data.toList.drop a1,none) by
          rw [HR.out];unfold numR numAt;rw [← HD.out,HA.out];simp only;rw [if_neg (fun hc=>heq hc.1)])
         go_wp2_with fail;refine hi6.mono ?_;rintro e W7 ⟨rfl,hb7⟩;go_wp2_with fail;go_ret
         exact ⟨a1,ws,false,rfl,hr6.step hb7,by rw [HRS.out],.inr ⟨rfl,by rw [HRS.out]⟩⟩
      ·have hab:=atoi_bad dg (by omega) (fun v hv=>hat ⟨v,by rw [← HDL.out];exact hv⟩) W4 (hE.step hb4)
       have HRS:=Lib.hid (show R=(s.data.toList.drop a1,none) by
        have e9:numAt sg (s.data.toList.drop a1)=none:=by
         unfold numAt
         split
         ·rename_i v hv
          exact absurd ⟨v,hv⟩ hat
         ·rfl
        rw [HR.out];unfold numR;rw [← HD.out,e9])
       go_wp2_with fail;refine hab.mono ?_;rintro e W5 ⟨x,tp,N,rfl,hb5⟩;have hr5:=hr4.step hb5;obtain ⟨A5,c5,hk5,-⟩:=hr5.blk;obtain ⟨v0,v1,v2,v3⟩:=four_ hk5;have hsg5:=HSIG.out W5 hr5.below;clear hab hr4;cases sg with
       | true =>
        go_wp2_with fail;refine hsg5.mono ?_;rintro e W6 ⟨rfl,hb6'⟩;go_wp2_with fail;go_ret
        exact ⟨a1,ws,false,rfl,hr5.step hb6',by rw [HRS.out],.inr ⟨rfl,by rw [HRS.out]⟩⟩
       | false =>
        go_wp2_with fail;refine hsg5.mono ?_;rintro e W6 ⟨rfl,hb6'⟩;go_wp2_with fail;go_ret
        exact ⟨a1,ws,false,rfl,hr5.step hb6',by rw [HRS.out],.inr ⟨rfl,by rw [HRS.out]⟩⟩
    ·have e1:decide ((s[k].toNat:Int)≥48)=false:=by rw [← hx,decide_eq_false_iff_not];omega
     have e1b:decide ((48:Int)≤(s[k].toNat:Int))=false:=by rw [← hx,decide_eq_false_iff_not];omega
     have e1c:decide (48≤s[k].toNat)=false:=by rw [← hx,decide_eq_false_iff_not];omega
     have HT:Hid (tokL (s.data.toList.drop a1)=(s.data.toList.drop a1).take (k-a1)):=Lib.hid (by
      rw [HJ.out,hd,List.takeWhile_cons,← hx,if_neg (fun h=>h48 (isDg_iff.1 h).1),List.append_nil])
     clear hx hd;have hi2:((a1:Nat):Int)≤(k:Nat):=by omega
     have hi3:((k:Nat):Int)≤(s.size:Nat):=by omega
     go_wp2_with fail;go_upto_region 7 with fail
     go_quiet (fail)
     have hr4:=hr2.step (below_drewN (Below.refl wr.heap.size wr) nq);obtain ⟨dg,hdg⟩:∃ dg,dg=s.extract a1 k:=⟨_,rfl⟩;have hdl:dg.data.toList=tokL (s.data.toList.drop a1):=by rw [hdg,Lib.extract_data,HT.out]
     have hsz:s.data.toList.length=s.size:=by simp
     have htl:(tokL (s.data.toList.drop a1)).length=k-a1:=by rw [HT.out,List.length_take,List.length_drop];omega
     have hds:dg.size=k-a1:=by rw [← htl,← hdl];simp
     rw [← hdg];have HDL:=Lib.hid hdl;have HTL:=Lib.hid (show (tokL (s.data.toList.drop a1)).length=k-a1∧a1≤k from ⟨htl,hak⟩)
     clear hdg hdl htl z0 z1 z2 z3 hk ho;generalize wr.drewN nq=W4 at *;have hb4:=hr4.below
     by_cases hat:∃ n,Lib.atoiAll (tokL (s.data.toList.drop a1))=.ok n
     ·obtain ⟨n,hn⟩:=hat;have hnb:=Lib.atoiAll_bounds hn;have hao:=atoi_ok dg (by omega) n (by rw [HDL.out];exact hn) W4
      have HA:=Lib.hid hn;clear hn;go_wp2_with fail;refine hao.mono ?_;rintro e W5 ⟨rfl,hb5⟩;have hr5:=hr4.step hb5;obtain ⟨A5,c5,hk5,-⟩:=hr5.blk;obtain ⟨v0,v1,v2,v3⟩:=four_ hk5;have hsg5:=HSIG.out W5 hr5.below;clear hao hr4;cases sg with
      | true =>
       go_wp2_with fail;refine hsg5.mono ?_;rintro e W6 ⟨rfl,hb6'⟩;have hr6:=hr5.step hb6';have hb6:=hr6.below;clear hsg5 hr5 hb6' hb5 hb4;have hxn:({ data:=(Lib.itoa n).toArray }:ByteArray).data.toList=Lib.itoa n:=by simp
       obtain ⟨y,hy⟩:∃ y:ByteArray,y={ data:=(Lib.itoa n).toArray }:=⟨_,rfl⟩;rw [← hy] at hxn;have hi6:=HITO.out n hnb W6 hb6;rw [← hy] at hi6;have HY:=Lib.hid hxn;clear hy hxn
       by_cases heq:Lib.itoa n=tokL (s.data.toList.drop a1)
       ·obtain rfl:y=dg:=ba_ext (by rw [HY.out,HDL.out,heq])
        by_cases hlo:(-2147483648:Int)≤n
        ·have d5:decide (n<(-2147483648:Int))=false:=by rw [decide_eq_false_iff_not];omega
         by_cases hhi:n≤(2147483647:Int)
         ·have d6:decide (n>(2147483647:Int))=false:=by rw [decide_eq_false_iff_not];omega
          have d6b:decide ((2147483647:Int)<n)=false:=by rw [decide_eq_false_iff_not];omega
          have HRS:=Lib.hid (show R=(s.data.toList.drop k,some [n % 4294967296]) by
           rw [HR.out];unfold numR numAt;rw [← HD.out,HA.out];simp only;rw [if_pos ⟨heq,by unfold leastV;simp;omega,by unfold mostV;simp;omega⟩]
           simp only;rw [List.drop_drop,show a1+(tokL (s.data.toList.drop a1)).length=k by have:=HTL.out;omega])
          have hw32:IntKind.u32.wrap n=n % 4294967296:=IntKind.wrap_u32 n;go_wp2_with fail;refine hi6.mono ?_;rintro e W7 ⟨rfl,hb7⟩;have hr7:=(hr6.step hb7).move (a':=k) hks;have hr7f:=(hr6.step hb7);obtain ⟨A,c,hk,ho⟩:=hr7.blk;obtain ⟨z0,z1,z2,z3⟩:=four_ hk;obtain ⟨A9,c9,hk9,ho9⟩:=hr7f.blk;obtain ⟨x0,x1,x2,x3⟩:=four_ hk9;have fz:=hk.frozen;have fz9:=hk9.frozen;have hB:=hr7.below.size;have hne:=Ne.symm (own_blk_ne ho hk (by decide))
          have hl2:=hl;clear hi6 d1 hr7f ho9 hk9;go_upto_region 15 with fail
          generalize W7.setCell ⟨g,2,none⟩ (.int .i64 (k:Nat))=W8 at *;go_wp2_with (at_builtin;refine ap_one sl32 _ rfl _ _ rfl w0.heap.size _ _ _ rfl ho _ _ rfl rfl (by omega) (by omega) hB ?_;intro v' w9 ho2 hgr2 _;obtain ⟨A',c',rfl⟩:=own_shape ho2;have k2:=(hk.alloc (.cells #[.int .u32 (n % 4294967296)] 22)).grown hgr2 hne;have hb2:=(hr7.below.alloc hB (.cells #[.int .u32 (n % 4294967296)] 22)).grown hgr2 (by simp;omega) (fun j hj=>(ho.lt j hj).1);obtain ⟨y0,y1,y2,y3⟩:=four_ k2;have fz2:=k2.frozen;have HP:=Lib.hid (RdS.push (v:=n % 4294967296) hr7 k2 ho2 hb2);clear hgr2 hne)
          go_ret
          exact ⟨_,_,true,rfl,HP.out,by rw [HRS.out],.inl ⟨rfl,_,by rw [HRS.out],rfl⟩⟩
         ·have d6:decide (n>(2147483647:Int))=true:=by rw [decide_eq_true_eq];omega
          have d6b:decide ((2147483647:Int)<n)=true:=by rw [decide_eq_true_eq];omega
          have HRS:=Lib.hid (show R=(s.data.toList.drop a1,none) by
           rw [HR.out];unfold numR numAt;rw [← HD.out,HA.out];simp only;rw [if_neg (fun hc=>hhi (by have:=hc.2.2;unfold mostV at this;simp at this;omega))])
          go_wp2_with fail;refine hi6.mono ?_;rintro e W7 ⟨rfl,hb7⟩;go_wp2_with fail;go_ret
          exact ⟨a1,ws,false,rfl,hr6.step hb7,by rw [HRS.out],.inr ⟨rfl,by rw [HRS.out]⟩⟩
        ·have d5:decide (n<(-2147483648:Int))=true:=by rw [decide_eq_true_eq];omega
         have HRS:=Lib.hid (show R=(s.data.toList.drop a1,none) by
          rw [HR.out];unfold numR numAt;rw [← HD.out,HA.out];simp only;rw [if_neg (fun hc=>hlo (by have:=hc.2.1;unfold leastV at this;simp at this;omega))])
         go_wp2_with fail;refine hi6.mono ?_;rintro e W7 ⟨rfl,hb7⟩;go_wp2_with fail;go_ret
         exact ⟨a1,ws,false,rfl,hr6.step hb7,by rw [HRS.out],.inr ⟨rfl,by rw [HRS.out]⟩⟩
       ·obtain ⟨n1,n2⟩:=ba_ne (x:=y) (y:=dg) (by rw [HY.out,HDL.out];exact heq)
        have n3:¬ y=dg:=fun e=>heq (by rw [← HY.out,e,HDL.out])
        have HRS:=Lib.hid (show R=(s.data.toList.drop a1,none) by
         rw [HR.out];unfold numR numAt;rw [← HD.out,HA.out];simp only;rw [if_neg (fun hc=>heq hc.1)])
        go_wp2_with fail;refine hi6.mono ?_;rintro e W7 ⟨rfl,hb7⟩;go_wp2_with fail;go_ret
        exact ⟨a1,ws,false,rfl,hr6.step hb7,by rw [HRS.out],.inr ⟨rfl,by rw [HRS.out]⟩⟩
      | false =>
       go_wp2_with fail;refine hsg5.mono ?_;rintro e W6 ⟨rfl,hb6'⟩;have hr6:=hr5.step hb6';have hb6:=hr6.below;clear hsg5 hr5 hb6' hb5 hb4;have hxn:({ data:=(Lib.itoa n).toArray }:ByteArray).data.toList=Lib.itoa n:=by simp
       obtain ⟨y,hy⟩:∃ y:ByteArray,y={ data:=(Lib.itoa n).toArray }:=⟨_,rfl⟩;rw [← hy] at hxn;have hi6:=HITO.out n hnb W6 hb6;rw [← hy] at hi6;have HY:=Lib.hid hxn;clear hy hxn
       by_cases heq:Lib.itoa n=tokL (s.data.toList.drop a1)
       ·obtain rfl:y=dg:=ba_ext (by rw [HY.out,HDL.out,heq])
        by_cases hlo:(0:Int)≤n
        ·have d5:decide (n<(0:Int))=false:=by rw [decide_eq_false_iff_not];omega
         by_cases hhi:n≤(4294967295:Int)
         ·have d6:decide (n>(4294967295:Int))=false:=by rw [decide_eq_false_iff_not];omega
          have d6b:decide ((4294967295:Int)<n)=false:=by rw [decide_eq_false_iff_not];omega
          have HRS:=Lib.hid (show R=(s.data.toList.drop k,some [n % 4294967296]) by
           rw [HR.out];unfold numR numAt;rw [← HD.out,HA.out];simp only;rw [if_pos ⟨heq,by unfold leastV;simp;omega,by unfold mostV;simp;omega⟩]
           simp only;rw [List.drop_drop,show a1+(tokL (s.data.toList.drop a1)).length=k by have:=HTL.out;omega])
          have hw32:IntKind.u32.wrap n=n % 4294967296:=IntKind.wrap_u32 n;go_wp2_with fail;refine hi6.mono ?_;rintro e W7 ⟨rfl,hb7⟩;have hr7:=(hr6.step hb7).move (a':=k) hks;have hr7f:=(hr6.step hb7);obtain ⟨A,c,hk,ho⟩:=hr7.blk;obtain ⟨z0,z1,z2,z3⟩:=four_ hk;obtain ⟨A9,c9,hk9,ho9⟩:=hr7f.blk;obtain ⟨x0,x1,x2,x3⟩:=four_ hk9;have fz:=hk.frozen;have fz9:=hk9.frozen;have hB:=hr7.below.size;have hne:=Ne.symm (own_blk_ne ho hk (by decide))
          have hl2:=hl;clear hi6 d1 hr7f ho9 hk9;go_upto_region 15 with fail
          generalize W7.setCell ⟨g,2,none⟩ (.int .i64 (k:Nat))=W8 at *;go_wp2_with (at_builtin;refine ap_one sl32 _ rfl _ _ rfl w0.heap.size _ _ _ rfl ho _ _ rfl rfl (by omega) (by omega) hB ?_;intro v' w9 ho2 hgr2 _;obtain ⟨A',c',rfl⟩:=own_shape ho2;have k2:=(hk.alloc (.cells #[.int .u32 (n % 4294967296)] 22)).grown hgr2 hne;have hb2:=(hr7.below.alloc hB (.cells #[.int .u32 (n % 4294967296)] 22)).grown hgr2 (by simp;omega) (fun j hj=>(ho.lt j hj).1);obtain ⟨y0,y1,y2,y3⟩:=four_ k2;have fz2:=k2.frozen;have HP:=Lib.hid (RdS.push (v:=n % 4294967296) hr7 k2 ho2 hb2);clear hgr2 hne)
          go_ret
          exact ⟨_,_,true,rfl,HP.out,by rw [HRS.out],.inl ⟨rfl,_,by rw [HRS.out],rfl⟩⟩
         ·have d6:decide (n>(4294967295:Int))=true:=by rw [decide_eq_true_eq];omega
          have d6b:decide ((4294967295:Int)<n)=true:=by rw [decide_eq_true_eq];omega
          have HRS:=Lib.hid (show R=(s.data.toList.drop a1,none) by
           rw [HR.out];unfold numR numAt;rw [← HD.out,HA.out];simp only;rw [if_neg (fun hc=>hhi (by have:=hc.2.2;unfold mostV at this;simp at this;omega))])
          go_wp2_with fail;refine hi6.mono ?_;rintro e W7 ⟨rfl,hb7⟩;go_wp2_with fail;go_ret
          exact ⟨a1,ws,false,rfl,hr6.step hb7,by rw [HRS.out],.inr ⟨rfl,by rw [HRS.out]⟩⟩
        ·have d5:decide (n<(0:Int))=true:=by rw [decide_eq_true_eq];omega
         have HRS:=Lib.hid (show R=(s.data.toList.drop a1,none) by
          rw [HR.out];unfold numR numAt;rw [← HD.out,HA.out];simp only;rw [if_neg (fun hc=>hlo (by have:=hc.2.1;unfold leastV at this;simp at this;omega))])
         go_wp2_with fail;refine hi6.mono ?_;rintro e W7 ⟨rfl,hb7⟩;go_wp2_with fail;go_ret
         exact ⟨a1,ws,false,rfl,hr6.step hb7,by rw [HRS.out],.inr ⟨rfl,by rw [HRS.out]⟩⟩
       ·obtain ⟨n1,n2⟩:=ba_ne (x:=y) (y:=dg) (by rw [HY.out,HDL.out];exact heq)
        have n3:¬ y=dg:=fun e=>heq (by rw [← HY.out,e,HDL.out])
        have HRS:=Lib.hid (show R=(s.data.toList.drop a1,none) by
         rw [HR.out];unfold numR numAt;rw [← HD.out,HA.out];simp only;rw [if_neg (fun hc=>heq hc.1)])
        go_wp2_with fail;refine hi6.mono ?_;rintro e W7 ⟨rfl,hb7⟩;go_wp2_with fail;go_ret
        exact ⟨a1,ws,false,rfl,hr6.step hb7,by rw [HRS.out],.inr ⟨rfl,by rw [HRS.out]⟩⟩
     ·have hab:=atoi_bad dg (by omega) (fun v hv=>hat ⟨v,by rw [← HDL.out];exact hv⟩) W4 (hE.step hb4)
      have HRS:=Lib.hid (show R=(s.data.toList.drop a1,none) by
       have e9:numAt sg (s.data.toList.drop a1)=none:=by
        unfold numAt
        split
        ·rename_i v hv
         exact absurd ⟨v,hv⟩ hat
        ·rfl
       rw [HR.out];unfold numR;rw [← HD.out,e9])
      go_wp2_with fail;refine hab.mono ?_;rintro e W5 ⟨x,tp,N,rfl,hb5⟩;have hr5:=hr4.step hb5;obtain ⟨A5,c5,hk5,-⟩:=hr5.blk;obtain ⟨v0,v1,v2,v3⟩:=four_ hk5;have hsg5:=HSIG.out W5 hr5.below;clear hab hr4;cases sg with
      | true =>
       go_wp2_with fail;refine hsg5.mono ?_;rintro e W6 ⟨rfl,hb6'⟩;go_wp2_with fail;go_ret
       exact ⟨a1,ws,false,rfl,hr5.step hb6',by rw [HRS.out],.inr ⟨rfl,by rw [HRS.out]⟩⟩
      | false =>
       go_wp2_with fail;refine hsg5.mono ?_;rintro e W6 ⟨rfl,hb6'⟩;go_wp2_with fail;go_ret
       exact ⟨a1,ws,false,rfl,hr5.step hb6',by rw [HRS.out],.inr ⟨rfl,by rw [HRS.out]⟩⟩
   ·have d1:decide (((k:Nat):Int)<(s.size:Nat))=false:=by rw [decide_eq_false_iff_not];omega
    have HT:Hid (tokL (s.data.toList.drop a1)=(s.data.toList.drop a1).take (k-a1)):=Lib.hid (by
     rw [HJ.out,List.drop_of_length_le (i:=k) (by simp;omega)]
     simp)
    have hi2:((a1:Nat):Int)≤(k:Nat):=by omega
    have hi3:((k:Nat):Int)≤(s.size:Nat):=by omega
    go_wp2_with fail;go_upto_region 7 with fail
    go_quiet (fail)
    have hr4:=hr2.step (below_drewN (Below.refl wr.heap.size wr) nq);obtain ⟨dg,hdg⟩:∃ dg,dg=s.extract a1 k:=⟨_,rfl⟩;have hdl:dg.data.toList=tokL (s.data.toList.drop a1):=by rw [hdg,Lib.extract_data,HT.out]
    have hsz:s.data.toList.length=s.size:=by simp
    have htl:(tokL (s.data.toList.drop a1)).length=k-a1:=by rw [HT.out,List.length_take,List.length_drop];omega
    have hds:dg.size=k-a1:=by rw [← htl,← hdl];simp
    rw [← hdg];have HDL:=Lib.hid hdl;have HTL:=Lib.hid (show (tokL (s.data.toList.drop a1)).length=k-a1∧a1≤k from ⟨htl,hak⟩)
    clear hdg hdl htl z0 z1 z2 z3 hk ho;generalize wr.drewN nq=W4 at *;have hb4:=hr4.below
    by_cases hat:∃ n,Lib.atoiAll (tokL (s.data.toList.drop a1))=.ok n
    ·obtain ⟨n,hn⟩:=hat;have hnb:=Lib.atoiAll_bounds hn;have hao:=atoi_ok dg (by omega) n (by rw [HDL.out];exact hn) W4
     have HA:=Lib.hid hn;clear hn;go_wp2_with fail;refine hao.mono ?_;rintro e W5 ⟨rfl,hb5⟩;have hr5:=hr4.step hb5;obtain ⟨A5,c5,hk5,-⟩:=hr5.blk;obtain ⟨v0,v1,v2,v3⟩:=four_ hk5;have hsg5:=HSIG.out W5 hr5.below;clear hao hr4;cases sg with
     | true =>
      go_wp2_with fail;refine hsg5.mono ?_;rintro e W6 ⟨rfl,hb6'⟩;have hr6:=hr5.step hb6';have hb6:=hr6.below;clear hsg5 hr5 hb6' hb5 hb4;have hxn:({ data:=(Lib.itoa n).toArray }:ByteArray).data.toList=Lib.itoa n:=by simp
      obtain ⟨y,hy⟩:∃ y:ByteArray,y={ data:=(Lib.itoa n).toArray }:=⟨_,rfl⟩;rw [← hy] at hxn;have hi6:=HITO.out n hnb W6 hb6;rw [← hy] at hi6;have HY:=Lib.hid hxn;clear hy hxn
      by_cases heq:Lib.itoa n=tokL (s.data.toList.drop a1)
      ·obtain rfl:y=dg:=ba_ext (by rw [HY.out,HDL.out,heq])
       by_cases hlo:(-2147483648:Int)≤n
       ·have d5:decide (n<(-2147483648:Int))=false:=by rw [decide_eq_false_iff_not];omega
        by_cases hhi:n≤(2147483647:Int)
        ·have d6:decide (n>(2147483647:Int))=false:=by rw [decide_eq_false_iff_not];omega
         have d6b:decide ((2147483647:Int)<n)=false:=by rw [decide_eq_false_iff_not];omega
         have HRS:=Lib.hid (show R=(s.data.toList.drop k,some [n % 4294967296]) by
          rw [HR.out];unfold numR numAt;rw [← HD.out,HA.out];simp only;rw [if_pos ⟨heq,by unfold leastV;simp;omega,by unfold mostV;simp;omega⟩]
          simp only;rw [List.drop_drop,show a1+(tokL (s.data.toList.drop a1)).length=k by have:=HTL.out;omega])
         have hw32:IntKind.u32.wrap n=n % 4294967296:=IntKind.wrap_u32 n;go_wp2_with fail;refine hi6.mono ?_;rintro e W7 ⟨rfl,hb7⟩;have hr7:=(hr6.step hb7).move (a':=k) hks;have hr7f:=(hr6.step hb7);obtain ⟨A,c,hk,ho⟩:=hr7.blk;obtain ⟨z0,z1,z2,z3⟩:=four_ hk;obtain ⟨A9,c9,hk9,ho9⟩:=hr7f.blk;obtain ⟨x0,x1,x2,x3⟩:=four_ hk9;have fz:=hk.frozen;have fz9:=hk9.frozen;have hB:=hr7.below.size;have hne:=Ne.symm (own_blk_ne ho hk (by decide))
         have hl2:=hl;clear hi6 d1 hr7f ho9 hk9;go_upto_region 15 with fail
         generalize W7.setCell ⟨g,2,none⟩ (.int .i64 (k:Nat))=W8 at *;go_wp2_with (at_builtin;refine ap_one sl32 _ rfl _ _ rfl w0.heap.size _ _ _ rfl ho _ _ rfl rfl (by omega) (by omega) hB ?_;intro v' w9 ho2 hgr2 _;obtain ⟨A',c',rfl⟩:=own_shape ho2;have k2:=(hk.alloc (.cells #[.int .u32 (n % 4294967296)] 22)).grown hgr2 hne;have hb2:=(hr7.below.alloc hB (.cells #[.int .u32 (n % 4294967296)] 22)).grown hgr2 (by simp;omega) (fun j hj=>(ho.lt j hj).1);obtain ⟨y0,y1,y2,y3⟩:=four_ k2;have fz2:=k2.frozen;have HP:=Lib.hid (RdS.push (v:=n % 4294967296) hr7 k2 ho2 hb2);clear hgr2 hne)
         go_ret
         exact ⟨_,_,true,rfl,HP.out,by rw [HRS.out],.inl ⟨rfl,_,by rw [HRS.out],rfl⟩⟩
        ·have d6:decide (n>(2147483647:Int))=true:=by rw [decide_eq_true_eq];omega
         have d6b:decide ((2147483647:Int)<n)=true:=by rw [decide_eq_true_eq];omega
         have HRS:=Lib.hid (show R=(s.data.toList.drop a1,none) by
          rw [HR.out];unfold numR numAt;rw [← HD.out,HA.out];simp only;rw [if_neg (fun hc=>hhi (by have:=hc.2.2;unfold mostV at this;simp at this;omega))])
         go_wp2_with fail;refine hi6.mono ?_;rintro e W7 ⟨rfl,hb7⟩;go_wp2_with fail;go_ret
         exact ⟨a1,ws,false,rfl,hr6.step hb7,by rw [HRS.out],.inr ⟨rfl,by rw [HRS.out]⟩⟩
       ·have d5:decide (n<(-2147483648:Int))=true:=by rw [decide_eq_true_eq];omega
        have HRS:=Lib.hid (show R=(s.data.toList.drop a1,none) by
         rw [HR.out];unfold numR numAt;rw [← HD.out,HA.out];simp only;rw [if_neg (fun hc=>hlo (by have:=hc.2.1;unfold leastV at this;simp at this;omega))])
        go_wp2_with fail;refine hi6.mono ?_;rintro e W7 ⟨rfl,hb7⟩;go_wp2_with fail;go_ret
        exact ⟨a1,ws,false,rfl,hr6.step hb7,by rw [HRS.out],.inr ⟨rfl,by rw [HRS.out]⟩⟩
      ·obtain ⟨n1,n2⟩:=ba_ne (x:=y) (y:=dg) (by rw [HY.out,HDL.out];exact heq)
       have n3:¬ y=dg:=fun e=>heq (by rw [← HY.out,e,HDL.out])
       have HRS:=Lib.hid (show R=(s.data.toList.drop a1,none) by
        rw [HR.out];unfold numR numAt;rw [← HD.out,HA.out];simp only;rw [if_neg (fun hc=>heq hc.1)])
       go_wp2_with fail;refine hi6.mono ?_;rintro e W7 ⟨rfl,hb7⟩;go_wp2_with fail;go_ret
       exact ⟨a1,ws,false,rfl,hr6.step hb7,by rw [HRS.out],.inr ⟨rfl,by rw [HRS.out]⟩⟩
     | false =>
      go_wp2_with fail;refine hsg5.mono ?_;rintro e W6 ⟨rfl,hb6'⟩;have hr6:=hr5.step hb6';have hb6:=hr6.below;clear hsg5 hr5 hb6' hb5 hb4;have hxn:({ data:=(Lib.itoa n).toArray }:ByteArray).data.toList=Lib.itoa n:=by simp
      obtain ⟨y,hy⟩:∃ y:ByteArray,y={ data:=(Lib.itoa n).toArray }:=⟨_,rfl⟩;rw [← hy] at hxn;have hi6:=HITO.out n hnb W6 hb6;rw [← hy] at hi6;have HY:=Lib.hid hxn;clear hy hxn
      by_cases heq:Lib.itoa n=tokL (s.data.toList.drop a1)
      ·obtain rfl:y=dg:=ba_ext (by rw [HY.out,HDL.out,heq])
       by_cases hlo:(0:Int)≤n
       ·have d5:decide (n<(0:Int))=false:=by rw [decide_eq_false_iff_not];omega
        by_cases hhi:n≤(4294967295:Int)
        ·have d6:decide (n>(4294967295:Int))=false:=by rw [decide_eq_false_iff_not];omega
         have d6b:decide ((4294967295:Int)<n)=false:=by rw [decide_eq_false_iff_not];omega
         have HRS:=Lib.hid (show R=(s.data.toList.drop k,some [n % 4294967296]) by
          rw [HR.out];unfold numR numAt;rw [← HD.out,HA.out];simp only;rw [if_pos ⟨heq,by unfold leastV;simp;omega,by unfold mostV;simp;omega⟩]
          simp only;rw [List.drop_drop,show a1+(tokL (s.data.toList.drop a1)).length=k by have:=HTL.out;omega])
         have hw32:IntKind.u32.wrap n=n % 4294967296:=IntKind.wrap_u32 n;go_wp2_with fail;refine hi6.mono ?_;rintro e W7 ⟨rfl,hb7⟩;have hr7:=(hr6.step hb7).move (a':=k) hks;have hr7f:=(hr6.step hb7);obtain ⟨A,c,hk,ho⟩:=hr7.blk;obtain ⟨z0,z1,z2,z3⟩:=four_ hk;obtain ⟨A9,c9,hk9,ho9⟩:=hr7f.blk;obtain ⟨x0,x1,x2,x3⟩:=four_ hk9;have fz:=hk.frozen;have fz9:=hk9.frozen;have hB:=hr7.below.size;have hne:=Ne.symm (own_blk_ne ho hk (by decide))
         have hl2:=hl;clear hi6 d1 hr7f ho9 hk9;go_upto_region 15 with fail
         generalize W7.setCell ⟨g,2,none⟩ (.int .i64 (k:Nat))=W8 at *;go_wp2_with (at_builtin;refine ap_one sl32 _ rfl _ _ rfl w0.heap.size _ _ _ rfl ho _ _ rfl rfl (by omega) (by omega) hB ?_;intro v' w9 ho2 hgr2 _;obtain ⟨A',c',rfl⟩:=own_shape ho2;have k2:=(hk.alloc (.cells #[.int .u32 (n % 4294967296)] 22)).grown hgr2 hne;have hb2:=(hr7.below.alloc hB (.cells #[.int .u32 (n % 4294967296)] 22)).grown hgr2 (by simp;omega) (fun j hj=>(ho.lt j hj).1);obtain ⟨y0,y1,y2,y3⟩:=four_ k2;have fz2:=k2.frozen;have HP:=Lib.hid (RdS.push (v:=n % 4294967296) hr7 k2 ho2 hb2);clear hgr2 hne)
         go_ret
         exact ⟨_,_,true,rfl,HP.out,by rw [HRS.out],.inl ⟨rfl,_,by rw [HRS.out],rfl⟩⟩
        ·have d6:decide (n>(4294967295:Int))=true:=by rw [decide_eq_true_eq];omega
         have d6b:decide ((4294967295:Int)<n)=true:=by rw [decide_eq_true_eq];omega
         have HRS:=Lib.hid (show R=(s.data.toList.drop a1,none) by
          rw [HR.out];unfold numR numAt;rw [← HD.out,HA.out];simp only;rw [if_neg (fun hc=>hhi (by have:=hc.2.2;unfold mostV at this;simp at this;omega))])
         go_wp2_with fail;refine hi6.mono ?_;rintro e W7 ⟨rfl,hb7⟩;go_wp2_with fail;go_ret
         exact ⟨a1,ws,false,rfl,hr6.step hb7,by rw [HRS.out],.inr ⟨rfl,by rw [HRS.out]⟩⟩
       ·have d5:decide (n<(0:Int))=true:=by rw [decide_eq_true_eq];omega
        have HRS:=Lib.hid (show R=(s.data.toList.drop a1,none) by
         rw [HR.out];unfold numR numAt;rw [← HD.out,HA.out];simp only;rw [if_neg (fun hc=>hlo (by have:=hc.2.1;unfold leastV at this;simp at this;omega))])
        go_wp2_with fail;refine hi6.mono ?_;rintro e W7 ⟨rfl,hb7⟩;go_wp2_with fail;go_ret
        exact ⟨a1,ws,false,rfl,hr6.step hb7,by rw [HRS.out],.inr ⟨rfl,by rw [HRS.out]⟩⟩
      ·obtain ⟨n1,n2⟩:=ba_ne (x:=y) (y:=dg) (by rw [HY.out,HDL.out];exact heq)
       have n3:¬ y=dg:=fun e=>heq (by rw [← HY.out,e,HDL.out])
       have HRS:=Lib.hid (show R=(s.data.toList.drop a1,none) by
        rw [HR.out];unfold numR numAt;rw [← HD.out,HA.out];simp only;rw [if_neg (fun hc=>heq hc.1)])
       go_wp2_with fail;refine hi6.mono ?_;rintro e W7 ⟨rfl,hb7⟩;go_wp2_with fail;go_ret
       exact ⟨a1,ws,false,rfl,hr6.step hb7,by rw [HRS.out],.inr ⟨rfl,by rw [HRS.out]⟩⟩
    ·have hab:=atoi_bad dg (by omega) (fun v hv=>hat ⟨v,by rw [← HDL.out];exact hv⟩) W4 (hE.step hb4)
     have HRS:=Lib.hid (show R=(s.data.toList.drop a1,none) by
      have e9:numAt sg (s.data.toList.drop a1)=none:=by
       unfold numAt
       split
       ·rename_i v hv
        exact absurd ⟨v,hv⟩ hat
       ·rfl
      rw [HR.out];unfold numR;rw [← HD.out,e9])
     go_wp2_with fail;refine hab.mono ?_;rintro e W5 ⟨x,tp,N,rfl,hb5⟩;have hr5:=hr4.step hb5;obtain ⟨A5,c5,hk5,-⟩:=hr5.blk;obtain ⟨v0,v1,v2,v3⟩:=four_ hk5;have hsg5:=HSIG.out W5 hr5.below;clear hab hr4;cases sg with
     | true =>
      go_wp2_with fail;refine hsg5.mono ?_;rintro e W6 ⟨rfl,hb6'⟩;go_wp2_with fail;go_ret
      exact ⟨a1,ws,false,rfl,hr5.step hb6',by rw [HRS.out],.inr ⟨rfl,by rw [HRS.out]⟩⟩
     | false =>
      go_wp2_with fail;refine hsg5.mono ?_;rintro e W6 ⟨rfl,hb6'⟩;go_wp2_with fail;go_ret
      exact ⟨a1,ws,false,rfl,hr5.step hb6',by rw [HRS.out],.inr ⟨rfl,by rw [HRS.out]⟩⟩
end
section
open Go.RowKit
theorem leafR_truth {x:TyI} (h:x.kind=2) (l:List UInt8):leafR x l=truthR l:=by unfold leafR truthR;rw [if_pos h];rfl
theorem leafR_num {x:TyI} (h:x.kind≠2) (l:List UInt8):leafR x l=numR x.signed l:=by unfold leafR numR;rw [if_neg h];rfl
theorem kind_more {T:Int→TyI} (hT:Typed T) {ty:Int} (hc:cntT (T ty)≠0):(T ty).kind≠2∧(T ty).kind≠3:=by
 rcases hT.ok ty with h | ⟨b,h⟩
 ·rw [h];exact ⟨by decide,by decide⟩
 ·generalize T ty=x at *;cases h with
  | void=>exact ⟨by show (1:Int)≠2;decide,by show (1:Int)≠3;decide⟩
  | bool=>exact absurd rfl hc
  | int s=>exact absurd rfl hc
  | vec p n=>exact ⟨by show (4:Int)≠2;decide,by show (4:Int)≠3;decide⟩
  | arr p n=>exact ⟨by show (5:Int)≠2;decide,by show (5:Int)≠3;decide⟩
  | str l s d=>exact ⟨by show (6:Int)≠2;decide,by show (6:Int)≠3;decide⟩
  | ptr c p=>exact ⟨by show (7:Int)≠2;decide,by show (7:Int)≠3;decide⟩
  | fn l=>exact ⟨by show (8:Int)≠2;decide,by show (8:Int)≠3;decide⟩
theorem partsR_fail {f:Int→List UInt8→PrR} {x:TyI} {s r:List UInt8} {k:Nat} (h:partsR f x k s=(r,none)):∀ m:Nat,partsR f x (k+m) s=(r,none)
 | 0=>h
 | m+1=>by
  have ih:=partsR_fail h m
  show partsR f x (k+m+1) s=_
  unfold partsR;rw [ih]
theorem partsR_next {f:Int→List UInt8→PrR} {x:TyI} {s r r2:List UInt8} {k:Nat} {vs:List Int} (h:partsR f x k s=(r,some vs)) (h2:signR (sepB k) r=some r2) :
  partsR f x (k+1) s=match f (partN x k) r2 with
   | (r3,none)=>(r3,none)
   | (r3,some us)=>(r3,some (vs++us)):=by
 unfold partsR;rw [h];simp only;rw [h2];rfl
theorem partsR_none {f:Int→List UInt8→PrR} {x:TyI} {s r:List UInt8} {k:Nat} {vs:List Int} (h:partsR f x k s=(r,some vs)) (h2:signR (sepB k) r=none):partsR f x (k+1) s=(blanksL r,none):=by
 unfold partsR;rw [h];simp only;rw [h2]
structure RdOk (w0:World) (gt:Nat) (T:Int→TyI) (S:Int→SlI):Prop where
 ty:Typed T
 tab:TabW w0 (some ⟨gt,0,none⟩) T S
 pow:Pow w0
 err:Errs w0
def ReadsV (w0:World) (g gt:Nat) (T:Int→TyI) (s:ByteArray) (q:Nat):Prop:=∀ (ty:Int) (a:Nat) (ws:List Int) (w:World),0<(T ty).size→rankT (T ty)<(q:Int)→RdS w0 w g (some ⟨gt,0,none⟩) s a ws→(ws.length:Int)+(T ty).size≤8192 →
 Calls Tryz.prog 127 #[.pointer (some ⟨g,0,none⟩),.int .u32 ty] w (RdIs w0 g (some ⟨gt,0,none⟩) s ws (parseR T q ty (s.data.toList.drop a)))
theorem partsV_any (w0:World) (g gt:Nat) (T:Int→TyI) (S:Int→SlI) (s:ByteArray) (hO:RdOk w0 gt T S) (q:Nat) (ih:ReadsV w0 g gt T s q) (ty:Int) (a:Nat) (ws:List Int) (w:World)
  (hs:0<(T ty).size) (hc:cntT (T ty)≠0) (hq:rankT (T ty)<((q+1:Nat):Int)) (h:RdS w0 w g (some ⟨gt,0,none⟩) s a ws) (hl:(ws.length:Int)+(T ty).size≤8192) :
  Calls Tryz.prog 166 #[.pointer (some ⟨g,0,none⟩),.int .u32 ty] w (RdIs w0 g (some ⟨gt,0,none⟩) s ws (parseR T (q+1) ty (s.data.toList.drop a))):=by
 have hP:=parts_ok hO.ty hs hc;have hcb:=cnt_bd hO.ty ty;obtain ⟨n,hn⟩:∃ n:Nat,n=(cntT (T ty)).toNat:=⟨_,rfl⟩;rw [← hn] at hP;have hcn:cntT (T ty)=(n:Int):=hP.cnt;have hn64:n≤65535:=by omega
 obtain ⟨R,hR⟩:∃ R,R=parseR T (q+1) ty (s.data.toList.drop a):=⟨_,rfl⟩;rw [← hR];unfold parseR at hR;rw [if_neg hc,← hn] at hR;have HR:=Lib.hid hR;have HO:=Lib.hid hO;have HP:=Lib.hid hP;have IH:=Lib.hid ih;have HS:=Lib.hid hs;have HC:=Lib.hid hc;have HQ:=Lib.hid hq;have hcnt:=countM_any _ _ _ ty w (hO.tab.step h.below).tab (hO.tab.mild _);rw [hcn] at hcnt;clear hR hO hP ih hs hc hq hn hcb hcn;obtain ⟨A,c,hk,-⟩:=h.blk;obtain ⟨z0,z1,z2,z3⟩:=four_ hk;go_enter Tryz.func166,Tryz.ntmps166;go_wp2_with fail;refine hcnt.mono ?_;rintro e w1 ⟨rfl,hb1⟩;have h1:=h.step hb1;clear hcnt h hk z0 z1 z2 z3;go_wp2_with fail;go_loopg [5,6,7,8,15] n (fun r u1 u2 u3 u4 i wr=>∃ (k ai:Nat) (vs:List Int),k+r=n∧i=.int .i64 (k:Nat)∧RdS w0 wr g (some ⟨gt,0,none⟩) s ai (ws++vs)∧Hid (partsR (parseR T q) (T ty) k (s.data.toList.drop a)=(s.data.toList.drop ai,some vs))∧Hid ((vs.length:Int)=sumP T (T ty) k))
 case atStart=>exact ⟨0,a,[],by omega,rfl,by rw [List.append_nil];exact h1,Lib.hid rfl,Lib.hid rfl⟩
 case round =>
  obtain ⟨k,ai,vs,hkr,rfl,hr,HJ,HV⟩:=hrel
  by_cases hlt:k<n
  ·have d1:decide (((k:Nat):Int)<(n:Nat))=true:=by rw [decide_eq_true_eq];omega
   obtain ⟨A,c,hk,-⟩:=hr.blk;obtain ⟨z0,z1,z2,z3⟩:=four_ hk;have hpt:=partM_any _ _ _ ty (k:Nat) wr (HO.out.tab.step hr.below).tab (HO.out.tab.mild _);have hpl:=HP.out.plain k hlt;have hlow:=HP.out.low k hlt;have hst:=HP.out.step HO.out.ty hlt;have hpn:(partT (T ty) (k:Nat)).1=partN (T ty) k:=rfl;rw [hpn] at hpt;have HB:=Lib.hid hst;have HPL:=Lib.hid hpl;have HLW:=Lib.hid hlow;clear hk hst hpl hlow hpn;obtain ⟨pn,hpn⟩:∃ pn,pn=partN (T ty) k:=⟨_,rfl⟩;rw [← hpn] at hpt HB HPL HLW;have HPN:=Lib.hid hpn;clear hpn;obtain ⟨sgb,hsb⟩:∃ sgb:ByteArray,sgb=if k=0 then ⟨#[123]⟩ else ⟨#[44]⟩:=⟨_,rfl⟩
   have HSB:=Lib.hid (show sgb.data.toList=sepB k by rw [hsb];unfold sepB;split <;> rfl)
   have hs100:sgb.size≤100:=by rw [hsb];split <;> decide
   by_cases h0:k=0
   all_goals
    first
     |rw [if_pos h0] at hsb
      have e0:(((k:Nat):Int)==0)=true:=by rw [h0];rfl
     |rw [if_neg h0] at hsb
      have e0:(((k:Nat):Int)==0)=false:=by
       simp only [beq_eq_false_iff_ne,ne_eq];omega
    clear h0;go_wp2_with fail;refine hpt.mono ?_;rintro e w2 ⟨rfl,hb2⟩;have hr2:=hr.step hb2;have hsg:=sign_any w0 w2 g _ s ai (ws++vs) sgb hr2 hs100;rw [hsb] at hsg;clear hpt hr hb2 hr2 z0 z1 z2 z3;go_wp2_with fail;refine hsg.mono ?_;rintro e w3 ⟨a3,hr3,⟨rfl,hsn⟩ | ⟨rfl,hsn,hd3⟩⟩
    ·have HN:=Lib.hid (show signR (sepB k) (s.data.toList.drop ai)=some (s.data.toList.drop a3) by rw [← HSB.out,hsb];exact hsn)
     have hval:=IH.out pn a3 (ws++vs) w3 HPL.out (by have:=HLW.out;have:=HQ.out;omega) hr3 (by rw [List.length_append];have:=HV.out;have:=HB.out;omega)
     clear hsg hsn hsb;go_wp2_with fail;refine hval.mono ?_;rintro e w4 ⟨a4,ws4,ok,rfl,hr4,hd4,⟨rfl,us,hus,rfl⟩ | ⟨rfl,hus⟩⟩
     ·have hpe:parseR T q pn (s.data.toList.drop a3)=(s.data.toList.drop a4,some us):=Prod.ext hd4.symm hus;have hok:=parseR_ok HO.out.ty q pn _ _ _ HPL.out (by have:=HLW.out;have:=HQ.out;omega) hpe
      have HJ2:Hid (partsR (parseR T q) (T ty) (k+1) (s.data.toList.drop a)=(s.data.toList.drop a4,some (vs++us))):=Lib.hid (by
       rw [partsR_next HJ.out HN.out,← HPN.out,hpe])
      have HV2:Hid (((vs++us).length:Int)=sumP T (T ty) (k+1)):=Lib.hid (by
       rw [List.length_append];have h7:=HV.out;have h8:=HB.out.2.1;have h9:=hok.1;omega)
      rw [List.append_assoc] at hr4;clear hval hd4 hus hpe hok;go_wp2_with fail;go_roundg (n-(k+1))
      case measure=>omega
      case rel=>exact ⟨k+1,a4,vs++us,by omega,by go_num,hr4,HJ2,HV2⟩
     ·have hpe:parseR T q pn (s.data.toList.drop a3)=(s.data.toList.drop a4,none):=Prod.ext hd4.symm hus;have HRS:=Lib.hid (show R=(s.data.toList.drop a4,none) by
       have e1:partsR (parseR T q) (T ty) (k+1) (s.data.toList.drop a)=(s.data.toList.drop a4,none):=by
        rw [partsR_next HJ.out HN.out,← HPN.out,hpe]
       have e2:=partsR_fail e1 (n-(k+1));rw [show k+1+(n-(k+1))=n by omega] at e2
       rw [HR.out,e2])
      clear hval hd4 hus hpe;go_wp2_with fail;go_ret
      exact ⟨a4,ws4,false,rfl,hr4,by rw [HRS.out],.inr ⟨rfl,by rw [HRS.out]⟩⟩
    ·have HRS:=Lib.hid (show R=(s.data.toList.drop a3,none) by
      have e0:signR (sepB k) (s.data.toList.drop ai)=none:=by rw [← HSB.out,hsb];exact hsn
      have e1:=partsR_none HJ.out e0;have e2:=partsR_fail e1 (n-(k+1));rw [show k+1+(n-(k+1))=n by omega] at e2
      rw [HR.out,e2,hd3])
     clear hsg hsn hsb hd3;go_wp2_with fail;go_ret
     exact ⟨a3,_,false,rfl,hr3,by rw [HRS.out],.inr ⟨rfl,by rw [HRS.out]⟩⟩
  ·obtain rfl:k=n:=by omega
   have d1:decide (((k:Nat):Int)<(k:Nat))=false:=by rw [decide_eq_false_iff_not];omega
   have hsg:=sign_any w0 wr g _ s ai (ws++vs) ⟨#[125]⟩ hr (by decide)
   go_wp2_with fail;refine hsg.mono ?_;rintro e w3 ⟨a3,hr3,⟨rfl,hsn⟩ | ⟨rfl,hsn,hd3⟩⟩
   ·have HRS:=Lib.hid (show R=(s.data.toList.drop a3,some vs) by
     rw [HR.out,HJ.out];simp only;rw [show signR [125] (s.data.toList.drop ai)=some (s.data.toList.drop a3) from hsn])
    clear hsg hsn;go_wp2_with fail;go_ret
    exact ⟨a3,_,true,rfl,hr3,by rw [HRS.out],.inl ⟨rfl,vs,by rw [HRS.out],rfl⟩⟩
   ·have HRS:=Lib.hid (show R=(s.data.toList.drop a3,none) by
     rw [HR.out,HJ.out];simp only;rw [show signR [125] (s.data.toList.drop ai)=none from hsn,hd3])
    clear hsg hsn hd3;go_wp2_with fail;go_ret
    exact ⟨a3,_,false,rfl,hr3,by rw [HRS.out],.inr ⟨rfl,by rw [HRS.out]⟩⟩
theorem itoaV_any (n:Int) (w:World) (h:Pow w) (h0 : -9223372036854775808≤n∧n≤9223372036854775807):Calls Tryz.prog 117 #[.int .i64 n] w fun e w'=>e=.returned (.string ⟨(Lib.itoa n).toArray⟩)∧Below w.heap.size w w':=by
 refine (Tryz.strconv_Itoa n (by omega) (by omega) w h).mono ?_
 rintro e w' ⟨rfl,k,os,rfl⟩;exact ⟨rfl,Lib.below_grow _ _ (Nat.le_refl _) _ _⟩
theorem valueV_any (w0:World) (g gt:Nat) (T:Int→TyI) (S:Int→SlI) (s:ByteArray) (hO:RdOk w0 gt T S):∀ q:Nat,ReadsV w0 g gt T s q
 | 0=>fun ty _ _ _ _ hq _ _=>absurd hq (by have:=(rankT_bd hO.ty ty).1;omega)
 | q+1=>fun ty a ws w hs hq h hl=>by
  have hkd:=kindM_any _ _ _ ty w (hO.tab.step h.below).tab;obtain ⟨A,c,hk,-⟩:=h.blk;obtain ⟨z0,z1,z2,z3⟩:=four_ hk
  by_cases hc:cntT (T ty)=0
  ·have hR:parseR T (q+1) ty (s.data.toList.drop a)=leafR (T ty) (s.data.toList.drop a):=if_pos hc;rw [hR];obtain ⟨-,hk23⟩:=plain_bare hO.ty hs hc
   rcases hk23 with hk2 | hk3
   ·rw [leafR_truth hk2];have htr:=fun w1 (hr:RdS w0 w1 g (some ⟨gt,0,none⟩) s a ws)=>truth_any w0 w1 g _ s a ws ty hr (by omega)
    rw [hk2] at hkd;have HO:=Lib.hid hO;clear hc hR hk2 hs hq hO;go_enter Tryz.func127,Tryz.ntmps127;go_wp2_with fail;refine hkd.mono ?_;rintro e w1 ⟨rfl,hb1⟩;have h1:=htr w1 (h.step hb1);clear hkd htr;go_wp2_with fail;refine h1.mono ?_;rintro e w2 ⟨a2,ws2,ok,rfl,hr2,hd2,hok⟩;clear h1;go_wp2_with fail;go_ret
    exact ⟨a2,ws2,ok,rfl,hr2,hd2,hok⟩
   ·rw [leafR_num (by omega)]
    have hnb:=fun w1 (hr:RdS w0 w1 g (some ⟨gt,0,none⟩) s a ws)=>numberV_any w0 w1 g _ s a ws ty (T ty).signed hr (by omega) hO.err (fun w' hb=>signedM_any _ _ _ ty w' (hO.tab.step hb).tab) (fun n hn w' hb=>itoaV_any n w' (hO.pow.step hb) hn)
    rw [hk3] at hkd;have HO:=Lib.hid hO;clear hc hR hk3 hs hq hO;go_enter Tryz.func127,Tryz.ntmps127;go_wp2_with fail;refine hkd.mono ?_;rintro e w1 ⟨rfl,hb1⟩;have h1:=hnb w1 (h.step hb1);clear hkd hnb;go_wp2_with fail;refine h1.mono ?_;rintro e w2 ⟨a2,ws2,ok,rfl,hr2,hd2,hok⟩;clear h1;go_wp2_with fail;go_ret
    exact ⟨a2,ws2,ok,rfl,hr2,hd2,hok⟩
  ·have hpt:=fun w1 (hr:RdS w0 w1 g (some ⟨gt,0,none⟩) s a ws)=>partsV_any w0 g gt T S s hO q (valueV_any w0 g gt T S s hO q) ty a ws w1 hs hc hq hr hl
   obtain ⟨k2,k3⟩:=kind_more hO.ty hc;generalize parseR T (q+1) ty (s.data.toList.drop a)=R at *;have e2:((T ty).kind==2)=false:=by simpa using k2
   have e3:((T ty).kind==3)=false:=by simpa using k3
   have HO:=Lib.hid hO;clear hc hs hq k2 k3 hO;generalize (T ty).kind=kd at *;go_enter Tryz.func127,Tryz.ntmps127;go_wp2_with fail;refine hkd.mono ?_;rintro e w1 ⟨rfl,hb1⟩;have h1:=hpt w1 (h.step hb1);clear hkd hpt;go_wp2_with fail;refine h1.mono ?_;rintro e w2 ⟨a2,ws2,ok,rfl,hr2,hd2,hok⟩;clear h1;go_wp2_with fail;go_ret
   exact ⟨a2,ws2,ok,rfl,hr2,hd2,hok⟩
end
end Go.Proofs.YteelmakkogdieaaGreatDoor
