/- Walks: arguments of all sorts. -/
import Derived.Test.YtdebjkiilnhgpaaGreatDoorCTG
import Derived.Test.YtdebjkiilnhgpaaGreatDoorCTH
import Derived.Test.YtdebjkiilnhgpaaGreatDoorCTJ
import Derived.Test.YtdebjkiilnhgpaaGreatDoorCTN
import Derived.Test.YtdebjkiilnhgpaaGreatDoorCTI
import Derived.Deep.DeepCutAuto
import Derived.Deep.RegionLaw
namespace Go.Proofs.YtdebjkiilnhgpaaGreatDoor
section
open Go.RowKit
theorem results_c1k {fn:Func} {p:Tmp} {ty:TypeId} (h:fn.results=#[.cell p ty]) (tmps:Array Value) (P:Program) (w:World) :
  (results fn tmps).run P w=((asAddr (tmps.getD p undef)).run P w).andThen fun ad w₁=>((loadVar ty ad).run P w₁):=by
 simp only [results,h];simp [Sem.run_bind,Result.andThen]
theorem arg_end {fn:Func} {p:Tmp} (h:fn.results=#[.cell p 44]) (tmps:Array Value) {W:World} {g:Nat} {k n:Int} {s:ByteArray} (hp:tmps.getD p undef=.pointer (some ⟨g,0,none⟩)) (kb:Blk W g 44 #[.int .u8 k,.int .u32 n,.string s]) :
  (results fn tmps).run Tryz.prog W=.ok (.agg #[.int .u8 k,.int .u32 n,.string s]) W:=by
 have ha:(asAddr (.pointer (some ⟨g,0,none⟩))).run Tryz.prog W=.ok ⟨g,0,none⟩ W:=rfl;obtain ⟨z0,z1,z2⟩:=three_ kb;have hl:(loadVar 44 ⟨g,0,none⟩).run Tryz.prog W=.ok (.agg #[.int .u8 k,.int .u32 n,.string s]) W:=by go_simp
 rw [results_c1k h,hp,ha];simp only [Result.andThen_ok];exact hl
def ArgIs (k n:Int) (w:World) (e:Ending) (w':World):Prop:=e=.returned (.agg #[.int .u8 k,.int .u32 n,.string ⟨#[]⟩])∧Below w.heap.size w w'
theorem kitId_any (n:Int) (w:World):Calls Tryz.prog 48 #[.int .u32 n] w (ArgIs 1 n w):=by
 have kb:=Blk.new w 44 #[.int .u8 1,.int .u32 n,.string ⟨#[]⟩];go_enter Tryz.func48,Tryz.ntmps48;go_wp2_with fail;exact bodyPost_ret (arg_end rfl _ rfl kb) rfl ⟨rfl,(Below.refl _ _).alloc (Nat.le_refl _) _⟩
theorem kitNumber_any (n:Int) (w:World):Calls Tryz.prog 47 #[.int .u32 n] w (ArgIs 2 n w):=by
 have kb:=Blk.new w 44 #[.int .u8 2,.int .u32 n,.string ⟨#[]⟩];go_enter Tryz.func47,Tryz.ntmps47;go_wp2_with fail;exact bodyPost_ret (arg_end rfl _ rfl kb) rfl ⟨rfl,(Below.refl _ _).alloc (Nat.le_refl _) _⟩
theorem kitEnum_any (n:Int) (w:World):Calls Tryz.prog 46 #[.int .u32 n] w (ArgIs 4 n w):=by
 have kb:=Blk.new w 44 #[.int .u8 4,.int .u32 n,.string ⟨#[]⟩];go_enter Tryz.func46,Tryz.ntmps46;go_wp2_with fail;exact bodyPost_ret (arg_end rfl _ rfl kb) rfl ⟨rfl,(Below.refl _ _).alloc (Nat.le_refl _) _⟩
end
section
open Go.RowKit
theorem slInst:SliceOf Tryz.prog 23 42 (.agg #[.int .u16 0,.int .u32 0,.int .u32 0,.slice none 0 0]) 4 40:=⟨Tryz.underlying23,by kernel_rfl,rfl,by decide⟩
theorem Icells_snoc (x:InstA):∀ ls:List InstA,Icells (ls++[x])=Icells ls++[.int .u16 x.1.1,.int .u32 x.1.2.1,.int .u32 x.1.2.2.1,.slice x.2.1 x.2.2.1 x.2.2.2]
 | []=>rfl
 | y :: r=>by
  show _ :: _ :: _ :: _ :: Icells (r++[x])=_
  rw [Icells_snoc x r];rfl
def ArgB (W:World) (x:InstA):Prop:=(∃ g cs n c,x.2=(some ⟨g,0,none⟩,n,c)∧Blk W g 44 cs∧(∃ rest,cs.toList=Acells x.1.2.2.2++rest)∧x.1.2.2.2.length=n)∨(x.2=(none,0,0)∧x.1.2.2.2=[])
structure SmS (w0 W:World) (gen bound:Int) (r m:Nat) (ls:List InstA) (A:Option Addr) (k c:Nat):Prop where
 blk:Blk W m 25 #[.int .u32 gen,.int .u32 bound,.slice A k c]
 own:W.ownsRow (m+1) 42 4 (.slice A k c) k (Icells ls)
 ok:∀ x∈ls,ArgB W x
 res:Blk W r 25 #[.int .u32 0,.int .u32 0,.slice none 0 0]
 below:Below w0.heap.size w0 W
 low:w0.heap.size≤r
 rm:r+1=m
 top:m+1≤W.heap.size
section
variable {w0 W W2:World} {gen bound:Int} {r m:Nat} {ls:List InstA} {A:Option Addr} {k c:Nat}
theorem SmS.step (h:SmS w0 W gen bound r m ls A k c) (hb:Below W.heap.size W W2):SmS w0 W2 gen bound r m ls A k c :=
 ⟨h.blk.step hb,own_below h.own hb,fun x hx=>by
  rcases h.ok x hx with ⟨g,cs,n,c',h1,h2,h3⟩ | h1
  ·exact .inl ⟨g,cs,n,c',h1,h2.step hb,h3⟩
  ·exact .inr h1,h.res.step hb,below_cut h.below hb (Nat.le_refl _),h.low,h.rm,Nat.le_trans h.top hb.size⟩
theorem SmS.put {A8:Option Addr} {c8:Nat} {W5:World} {x:InstA} (h:SmS w0 W gen bound r m ls A k c) (hx:ArgB W x)
  (ho:W5.ownsRow (m+1) 42 4 (.slice A8 (k+1) c8) (k+1) (Icells ls++[.int .u16 x.1.1,.int .u32 x.1.2.1,.int .u32 x.1.2.2.1,.slice x.2.1 x.2.2.1 x.2.2.2])) (hg:W.grownBy W5 (Value.slice A k c).ownBlock) :
  SmS w0 (W5.setCell ⟨m,2,none⟩ (.slice A8 (k+1) c8)) gen bound r m (ls++[x]) A8 (k+1) c8:=by
 have hm:∀ {g:Nat} {t:TypeId} {cs:Array Value},Blk W g t cs→t≠42→t≠25→Blk (W5.setCell ⟨m,2,none⟩ (.slice A8 (k+1) c8)) g t cs:=fun hk h1 h2=>by
  have h3:=hk.grown hg (Ne.symm (own_blk_ne h.own hk (Ne.symm h1)));have h4:=h.blk.grown hg (Ne.symm (own_blk_ne h.own h.blk (by decide)))
  exact h3.far (p:=⟨m,2,none⟩) (h3.ne_ h4 h2) _
 have hkeep:∀ y,ArgB W y→ArgB (W5.setCell ⟨m,2,none⟩ (.slice A8 (k+1) c8)) y:=fun y hy=>by
  rcases hy with ⟨g,cs,n,c',h1,h2,h3⟩ | h1
  ·exact .inl ⟨g,cs,n,c',h1,hm h2 (by decide) (by decide),h3⟩
  ·exact .inr h1
 have hbm:=h.blk.grown hg (Ne.symm (own_blk_ne h.own h.blk (by decide)))
 have hrm:=h.rm;have hlo:=h.low;refine ⟨by simpa using hbm.set_ 2 (.slice A8 (k+1) c8),?_,fun y hy=>?_,?_,?_,h.low,h.rm,?_⟩
 ·rw [Icells_snoc];exact own_set_other ho (p:=⟨m,2,none⟩) (own_blk_ne ho hbm (by decide)) _
 ·rw [List.mem_append,List.mem_singleton] at hy
  rcases hy with hy | rfl
  ·exact hkeep y (h.ok y hy)
  ·exact hkeep y hx
 ·exact (h.res.grown hg (Ne.symm (own_blk_ne h.own h.res (by decide)))).far (p:=⟨m,2,none⟩) (show r≠m by omega) _
 ·exact (h.below.grown hg (by have:=h.top;omega) (fun g e=>by have:=(h.own.lt g e).1;omega)).setCell (p:=⟨m,2,none⟩) (show w0.heap.size≤m by omega) _
 ·have h1:=h.top;have h2:=hg.size;simp
  omega
theorem ArgB.ok {x:InstA} (h:ArgB W x) (h1:Under 256 (kinds x.1.2.2.2)) (h2:∀ a∈x.1.2.2.2,a.2.2.size≤140737488351232) (hn:x.1.2.2.2.length≤300):InstOk W W.heap.size x:=by
 rcases h with ⟨g,cs,n,c',e,hb,⟨rest,hc⟩,hl⟩ | ⟨e,e2⟩
 ·obtain ⟨i,s⟩:=x;dsimp only at *;subst e;refine ⟨⟨by rw [Acells_length];show i.2.2.2.length*3=n*3;rw [hl],fun hn0=>⟨⟨g,0,none⟩,rfl,hb.lt,fun j u hj=>?_⟩⟩,by show n≤6000000000000;omega,h1,h2⟩
  have hj:cs.toList[j]?=some u:=by rw [hc,List.getElem?_append_left (List.getElem?_eq_some_iff.1 hj).1];exact hj
  have:=hb.cell j;rw [add_plain,Nat.zero_add,this];simpa using hj
 ·obtain ⟨i,s⟩:=x;dsimp only at *;subst e;exact ⟨by show Reads W W.heap.size 3 none 0 (Acells i.2.2.2);rw [e2];exact Reads.none_,by show 0≤6000000000000;decide,h1,h2⟩
end
end
section
open Go.RowKit
def ModIs (gen bound:Int) (l:List InstI) (w:World) (e:Ending) (w':World):Prop:=∃ A c ls,e=.returned (.agg (modC gen bound A l.length c))∧ModS w' w'.heap.size A l.length ls∧ls.map (·.1)=l∧Below w.heap.size w w'
theorem cell_alloc_s {W:World} {a:Addr} {v:Value} (o:Obj) (h:W.cell? a=some v):(W.alloc o).cell? a=some v:=cell_kept h (World.grownBy_alloc W o none) (fun r e=>by cases e)
theorem SmS.cell2 {w0 W:World} {gen bound:Int} {r m:Nat} {ls:List InstA} {A:Option Addr} {k c:Nat} (h:SmS w0 W gen bound r m ls A k c):W.cell? ⟨m,2,none⟩=some (.slice A k c):=h.blk.cell 2
theorem mod_end {fn:Func} {p:Tmp} (h:fn.results=#[.cell p 25]) (tmps:Array Value) {W:World} {g:Nat} {gen bound:Int} {A:Option Addr} {n c:Nat} (hp:tmps.getD p undef=.pointer (some ⟨g,0,none⟩)) (kb:Blk W g 25 #[.int .u32 gen,.int .u32 bound,.slice A n c]) :
  (results fn tmps).run Tryz.prog W=.ok (.agg #[.int .u32 gen,.int .u32 bound,.slice A n c]) W:=by
 have ha:(asAddr (.pointer (some ⟨g,0,none⟩))).run Tryz.prog W=.ok ⟨g,0,none⟩ W:=rfl;obtain ⟨z0,z1,z2⟩:=three_ kb;have hl:(loadVar 25 ⟨g,0,none⟩).run Tryz.prog W=.ok (.agg #[.int .u32 gen,.int .u32 bound,.slice A n c]) W:=by go_simp
 rw [results_c1k h,hp,ha];simp only [Result.andThen_ok];exact hl
def okL (L:List InstI):Bool:=L.all fun i=>decide (i.2.2.2.length≤300)&&i.2.2.2.all fun a=>decide (0≤a.1)&&decide (a.1<256)&&decide (a.2.2.size≤1000)
theorem SmS.mod {w0 W:World} {gen bound:Int} {r m:Nat} {ls:List InstA} {A:Option Addr} {k c:Nat} {L:List InstI} (h:SmS w0 W gen bound r m ls A k c) (hL:ls.map (·.1)=L) (hk:L.length=k) (hk2:L.length≤1000) (ho:okL L=true) :
  ModIs gen bound L w0 (.returned (.agg (modC gen bound A k c))) (((W.setCell ⟨r,0,none⟩ (.int .u32 gen)).setCell ⟨r,1,none⟩ (.int .u32 bound)).setCell ⟨r,2,none⟩ (.slice A k c)) ∧
   Blk (((W.setCell ⟨r,0,none⟩ (.int .u32 gen)).setCell ⟨r,1,none⟩ (.int .u32 bound)).setCell ⟨r,2,none⟩ (.slice A k c)) r 25 #[.int .u32 gen,.int .u32 bound,.slice A k c]:=by
 have hb:Blk (((W.setCell ⟨r,0,none⟩ (.int .u32 gen)).setCell ⟨r,1,none⟩ (.int .u32 bound)).setCell ⟨r,2,none⟩ (.slice A k c)) r 25 #[.int .u32 gen,.int .u32 bound,.slice A k c]:=by
  simpa using ((h.res.set_ 0 (.int .u32 gen)).set_ 1 (.int .u32 bound)).set_ 2 (.slice A k c)
 refine ⟨?_,hb⟩;have hne:(Value.slice A k c).ownBlock≠some r:=own_blk_ne h.own h.res (by decide)
 have hown:=own_set_other (p:=⟨r,2,none⟩) (own_set_other (p:=⟨r,1,none⟩) (own_set_other (p:=⟨r,0,none⟩) h.own hne (.int .u32 gen)) hne (.int .u32 bound)) hne (.slice A k c);unfold okL at ho;rw [List.all_eq_true] at ho;subst hk;refine ⟨A,c,ls,rfl,⟨?_,Reads.of_own hown,fun x hx=>?_⟩,hL,((h.below.setCell (p:=⟨r,0,none⟩) h.low _).setCell (p:=⟨r,1,none⟩) h.low _).setCell (p:=⟨r,2,none⟩) h.low _⟩
 ·omega
 ·have hi:=ho x.1 (hL ▸ List.mem_map.2 ⟨x,hx,rfl⟩);simp only [Bool.and_eq_true,decide_eq_true_eq,List.all_eq_true] at hi;have hA:ArgB (((W.setCell ⟨r,0,none⟩ (.int .u32 gen)).setCell ⟨r,1,none⟩ (.int .u32 bound)).setCell ⟨r,2,none⟩ (.slice A L.length c)) x:=by
   rcases h.ok x hx with ⟨g,cs,n,c',e1,e2,e3⟩ | e1
   ·exact .inl ⟨g,cs,n,c',e1,((e2.far (p:=⟨r,0,none⟩) (e2.ne_ h.res (by decide)) _).far (p:=⟨r,1,none⟩) (e2.ne_ h.res (by decide)) _).far (p:=⟨r,2,none⟩) (e2.ne_ h.res (by decide)) _,e3⟩
   ·exact .inr e1
  refine hA.ok (fun y hy=>?_) (fun a ha=>by have:=(hi.2 a ha).2;omega) hi.1
  unfold kinds at hy;obtain ⟨a,ha,rfl⟩:=List.mem_map.1 hy;have:=hi.2 a ha;omega
end
end Go.Proofs.YtdebjkiilnhgpaaGreatDoor
