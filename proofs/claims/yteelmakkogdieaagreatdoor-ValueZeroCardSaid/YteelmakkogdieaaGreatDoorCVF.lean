/- Walks: Fits, given, Zero, Get, Put, Text, Parse where there is no value: no table, a type that has none, words that are none. -/
import Derived.Test.YteelmakkogdieaaGreatDoorCVD
import Derived.Test.YteelmakkogdieaaGreatDoorCUE
import Derived.Laws.CopyOwn
import Derived.Test.YteelmakkogdieaaGreatDoorCVA
set_option maxRecDepth 100000
namespace Go.Proofs.YteelmakkogdieaaGreatDoor
section
open Go.RowKit
def AskC (p:Option Addr) (ty E:Int) (w:World):Prop:=∀ w',Below w.heap.size w w'→Calls Tryz.prog 63 #[.pointer p,.int .u32 ty] w' fun e w''=>e=.returned (.int .i64 E)∧Below w'.heap.size w' w''
theorem AskC.on {p:Option Addr} {ty E:Int} {w w':World} (h:AskC p ty E w) (hb:Below w.heap.size w w'):AskC p ty E w':=fun w'' hb'=>h w'' (below_cut hb hb' (Nat.le_refl _))
theorem ask_tab (gt:Nat) (T:Int→TyI) (S:Int→SlI) (ty:Int) (w:World) (h:TabW w (some ⟨gt,0,none⟩) T S):AskC (some ⟨gt,0,none⟩) ty (askE T ty) w:=fun w' hb=>asked_any gt T S ty w' (h.step hb)
theorem ask_nil (ty:Int) (w:World):AskC none ty 1 w:=by
 intro w' _;go_enter Tryz.func63,Tryz.ntmps63;go_wp2_with fail;go_ret
 exact ⟨rfl,Below.refl _ _⟩
def GivC (p:Option Addr) (ty:Int) (A:Option Addr) (n c:Nat) (E:Int) (w:World):Prop:=∀ w',Below w.heap.size w w'→Calls Tryz.prog 125 #[.pointer p,.int .u32 ty,.slice A n c] w' fun e w''=>e=.returned (.int .i64 E)∧Below w'.heap.size w' w''
theorem GivC.on {p:Option Addr} {ty E:Int} {A:Option Addr} {n c:Nat} {w w':World} (h:GivC p ty A n c E w) (hb:Below w.heap.size w w'):GivC p ty A n c E w':=fun w'' hb'=>h w'' (below_cut hb hb' (Nat.le_refl _))
theorem zero_out (p:Option Addr) (ty E:Int) (w:World) (h:AskC p ty E w) (hE:E≠0) :
  Calls Tryz.prog 30 #[.pointer p,.int .u32 ty] w fun e w'=>e=.returned (.tuple #[.slice none 0 0,.int .i64 E])∧Below w.heap.size w w':=by
 have ha:=h w (Below.refl _ _);have d0:(E != 0)=true:=by simpa using hE
 clear h hE;go_enter Tryz.func30,Tryz.ntmps30;go_wp2_with fail;refine ha.mono ?_;rintro e w1 ⟨rfl,hb1⟩;clear ha;go_wp2_with fail;go_ret2
 exact ⟨rfl,hb1⟩
end
section
open Go.RowKit Go.Shelf
attribute [local go_sem] Oper.semAt_some
end
section
open Go.RowKit
def gvE (T:Int→TyI) (ty:Int) (ws:List Int):Int:=if 0<(T ty).size then (if fitsV T ty ws=true then 0 else 2) else 100
def ZeroA (T:Int→TyI) (ty:Int) (w:World) (e:Ending) (w':World):Prop :=
 Below w.heap.size w w'∧((¬ 0<(T ty).size∧e=.returned (.tuple #[.slice none 0 0,.int .i64 100]))∨(0<(T ty).size∧∃ (g n:Nat),(n:Int)=(T ty).size∧e=.returned (.tuple #[.slice (some ⟨g,0,none⟩) n n,.int .i64 0])∧w'.ownsRow w.heap.size 22 1 (.slice (some ⟨g,0,none⟩) n n) n (Ints .u32 (List.replicate n 0))))
theorem zero_any (gt:Nat) (T:Int→TyI) (S:Int→SlI) (hY:Typed T) (ty:Int) (w:World) (hT:TabW w (some ⟨gt,0,none⟩) T S) :
  Calls Tryz.prog 30 #[.pointer (some ⟨gt,0,none⟩),.int .u32 ty] w (ZeroA T ty w):=by
 by_cases hp:0<(T ty).size
 ·obtain ⟨n,hn⟩:∃ n:Nat,(n:Int)=(T ty).size:=⟨(T ty).size.toNat,by omega⟩
  refine (zero_well gt T S hY ty w hT hp n hn).mono ?_;rintro e w' ⟨g,h1,h2,h3⟩;exact ⟨h3,.inr ⟨hp,g,n,hn,h1,by rw [Ints_replicate];exact h2⟩⟩
 ·have ha:=ask_tab gt T S ty w hT;rw [show askE T ty=100 from if_neg hp] at ha
  exact (zero_out _ ty 100 w ha (by decide)).mono fun e w' h=>⟨h.2,.inl ⟨hp,h.1⟩⟩
end
section
open Go.RowKit
def putE (T:Int→TyI) (ty:Int) (ws l part:List Int):Int:=if gvE T ty ws≠0 then gvE T ty ws else if (wkW T 0 ty l).2=0 then 121 else if fitsV T (wkW T 0 ty l).2 part=true then 0 else 2
end
end Go.Proofs.YteelmakkogdieaaGreatDoor
