/- Plain: the grammar's rows and enumerants as texts. -/
import Derived.Test.YteelmakkogdieaaGreatDoorCTB
import Derived.Laws.BitsAllLaws
import Derived.Laws.BitsLemmas
import Derived.Laws.IdiomStrings
namespace Go.Proofs.YteelmakkogdieaaGreatDoor
section
def firstT:List (Int × ByteArray):=[
 (1,⟨#[79,112,85,110,100,101,102,32,84,82,32,32,32,32,55]⟩),
 (3,⟨#[79,112,83,111,117,114,99,101,32,32,108,110,32,32,32,52]⟩),
 (5,⟨#[79,112,78,97,109,101,32,32,105,115,32,32,32,53]⟩),
 (6,⟨#[79,112,77,101,109,98,101,114,78,97,109,101,32,32,105,110,115,32,32,32,53]⟩),
 (7,⟨#[79,112,83,116,114,105,110,103,32,82,32,115,32,32,32,52]⟩),
 (14,⟨#[79,112,77,101,109,111,114,121,77,111,100,101,108,32,32,97,109,32,32,32,49]⟩),
 (15,⟨#[79,112,69,110,116,114,121,80,111,105,110,116,32,32,101,105,115,32,105,32,32,50]⟩),
 (16,⟨#[79,112,69,120,101,99,117,116,105,111,110,77,111,100,101,32,32,105,120,32,32,32,51]⟩),
 (17,⟨#[79,112,67,97,112,97,98,105,108,105,116,121,32,32,107,32,32,32,48]⟩),
 (19,⟨#[79,112,84,121,112,101,86,111,105,100,32,82,32,32,32,32,55]⟩),
 (20,⟨#[79,112,84,121,112,101,66,111,111,108,32,82,32,32,32,32,55]⟩),
 (21,⟨#[79,112,84,121,112,101,73,110,116,32,82,32,110,110,32,32,32,55]⟩),
 (23,⟨#[79,112,84,121,112,101,86,101,99,116,111,114,32,82,32,105,110,32,32,32,55]⟩),
 (28,⟨#[79,112,84,121,112,101,65,114,114,97,121,32,82,32,105,105,32,32,32,55]⟩),
 (30,⟨#[79,112,84,121,112,101,83,116,114,117,99,116,32,82,32,32,105,32,32,55]⟩),
 (32,⟨#[79,112,84,121,112,101,80,111,105,110,116,101,114,32,82,32,99,105,32,32,32,55]⟩),
 (33,⟨#[79,112,84,121,112,101,70,117,110,99,116,105,111,110,32,82,32,105,32,105,32,32,55]⟩),
 (41,⟨#[79,112,67,111,110,115,116,97,110,116,84,114,117,101,32,84,82,32,32,32,32,55]⟩),
 (42,⟨#[79,112,67,111,110,115,116,97,110,116,70,97,108,115,101,32,84,82,32,32,32,32,55]⟩),
 (43,⟨#[79,112,67,111,110,115,116,97,110,116,32,84,82,32,110,32,32,32,55]⟩),
 (44,⟨#[79,112,67,111,110,115,116,97,110,116,67,111,109,112,111,115,105,116,101,32,84,82,32,32,105,32,32,55]⟩),
 (46,⟨#[79,112,67,111,110,115,116,97,110,116,78,117,108,108,32,84,82,32,32,32,32,55]⟩),
 (54,⟨#[79,112,70,117,110,99,116,105,111,110,32,84,82,32,102,105,32,32,32,56]⟩),
 (55,⟨#[79,112,70,117,110,99,116,105,111,110,80,97,114,97,109,101,116,101,114,32,84,82,32,32,32,32,56]⟩),
 (56,⟨#[79,112,70,117,110,99,116,105,111,110,69,110,100,32,32,32,32,32,56]⟩),
 (57,⟨#[79,112,70,117,110,99,116,105,111,110,67,97,108,108,32,84,82,32,105,32,105,32,32,56]⟩),
 (59,⟨#[79,112,86,97,114,105,97,98,108,101,32,84,82,32,99,32,105,32,49,32,55]⟩),
 (61,⟨#[79,112,76,111,97,100,32,84,82,32,105,32,32,32,56]⟩),
 (62,⟨#[79,112,83,116,111,114,101,32,32,105,105,32,32,32,56]⟩),
 (65,⟨#[79,112,65,99,99,101,115,115,67,104,97,105,110,32,84,82,32,105,32,105,32,32,56]⟩),
 (71,⟨#[79,112,68,101,99,111,114,97,116,101,32,32,105,100,32,110,32,32,54]⟩)]
def secondT:List (Int × ByteArray):=[
 (77,⟨#[79,112,86,101,99,116,111,114,69,120,116,114,97,99,116,68,121,110,97,109,105,99,32,84,82,32,105,105,32,32,32,56]⟩),
 (78,⟨#[79,112,86,101,99,116,111,114,73,110,115,101,114,116,68,121,110,97,109,105,99,32,84,82,32,105,105,105,32,32,32,56]⟩),
 (79,⟨#[79,112,86,101,99,116,111,114,83,104,117,102,102,108,101,32,84,82,32,105,105,32,110,32,32,56]⟩),
 (80,⟨#[79,112,67,111,109,112,111,115,105,116,101,67,111,110,115,116,114,117,99,116,32,84,82,32,32,105,32,32,56]⟩),
 (81,⟨#[79,112,67,111,109,112,111,115,105,116,101,69,120,116,114,97,99,116,32,84,82,32,105,32,110,32,32,56]⟩),
 (82,⟨#[79,112,67,111,109,112,111,115,105,116,101,73,110,115,101,114,116,32,84,82,32,105,105,32,110,32,32,56]⟩),
 (83,⟨#[79,112,67,111,112,121,79,98,106,101,99,116,32,84,82,32,105,32,32,32,56]⟩),
 (124,⟨#[79,112,66,105,116,99,97,115,116,32,84,82,32,105,32,32,32,56]⟩),
 (126,⟨#[79,112,83,78,101,103,97,116,101,32,84,82,32,105,32,32,32,56]⟩),
 (128,⟨#[79,112,73,65,100,100,32,84,82,32,105,105,32,32,32,56]⟩),
 (130,⟨#[79,112,73,83,117,98,32,84,82,32,105,105,32,32,32,56]⟩),
 (132,⟨#[79,112,73,77,117,108,32,84,82,32,105,105,32,32,32,56]⟩),
 (134,⟨#[79,112,85,68,105,118,32,84,82,32,105,105,32,32,32,56]⟩),
 (135,⟨#[79,112,83,68,105,118,32,84,82,32,105,105,32,32,32,56]⟩),
 (137,⟨#[79,112,85,77,111,100,32,84,82,32,105,105,32,32,32,56]⟩),
 (138,⟨#[79,112,83,82,101,109,32,84,82,32,105,105,32,32,32,56]⟩),
 (139,⟨#[79,112,83,77,111,100,32,84,82,32,105,105,32,32,32,56]⟩),
 (149,⟨#[79,112,73,65,100,100,67,97,114,114,121,32,84,82,32,105,105,32,32,32,56]⟩),
 (150,⟨#[79,112,73,83,117,98,66,111,114,114,111,119,32,84,82,32,105,105,32,32,32,56]⟩),
 (151,⟨#[79,112,85,77,117,108,69,120,116,101,110,100,101,100,32,84,82,32,105,105,32,32,32,56]⟩),
 (152,⟨#[79,112,83,77,117,108,69,120,116,101,110,100,101,100,32,84,82,32,105,105,32,32,32,56]⟩),
 (154,⟨#[79,112,65,110,121,32,84,82,32,105,32,32,32,56]⟩),
 (155,⟨#[79,112,65,108,108,32,84,82,32,105,32,32,32,56]⟩),
 (164,⟨#[79,112,76,111,103,105,99,97,108,69,113,117,97,108,32,84,82,32,105,105,32,32,32,56]⟩),
 (165,⟨#[79,112,76,111,103,105,99,97,108,78,111,116,69,113,117,97,108,32,84,82,32,105,105,32,32,32,56]⟩),
 (166,⟨#[79,112,76,111,103,105,99,97,108,79,114,32,84,82,32,105,105,32,32,32,56]⟩),
 (167,⟨#[79,112,76,111,103,105,99,97,108,65,110,100,32,84,82,32,105,105,32,32,32,56]⟩),
 (168,⟨#[79,112,76,111,103,105,99,97,108,78,111,116,32,84,82,32,105,32,32,32,56]⟩),
 (169,⟨#[79,112,83,101,108,101,99,116,32,84,82,32,105,105,105,32,32,32,56]⟩),
 (170,⟨#[79,112,73,69,113,117,97,108,32,84,82,32,105,105,32,32,32,56]⟩),
 (171,⟨#[79,112,73,78,111,116,69,113,117,97,108,32,84,82,32,105,105,32,32,32,56]⟩)]
def thirdT:List (Int × ByteArray):=[
 (172,⟨#[79,112,85,71,114,101,97,116,101,114,84,104,97,110,32,84,82,32,105,105,32,32,32,56]⟩),
 (173,⟨#[79,112,83,71,114,101,97,116,101,114,84,104,97,110,32,84,82,32,105,105,32,32,32,56]⟩),
 (174,⟨#[79,112,85,71,114,101,97,116,101,114,84,104,97,110,69,113,117,97,108,32,84,82,32,105,105,32,32,32,56]⟩),
 (175,⟨#[79,112,83,71,114,101,97,116,101,114,84,104,97,110,69,113,117,97,108,32,84,82,32,105,105,32,32,32,56]⟩),
 (176,⟨#[79,112,85,76,101,115,115,84,104,97,110,32,84,82,32,105,105,32,32,32,56]⟩),
 (177,⟨#[79,112,83,76,101,115,115,84,104,97,110,32,84,82,32,105,105,32,32,32,56]⟩),
 (178,⟨#[79,112,85,76,101,115,115,84,104,97,110,69,113,117,97,108,32,84,82,32,105,105,32,32,32,56]⟩),
 (179,⟨#[79,112,83,76,101,115,115,84,104,97,110,69,113,117,97,108,32,84,82,32,105,105,32,32,32,56]⟩),
 (194,⟨#[79,112,83,104,105,102,116,82,105,103,104,116,76,111,103,105,99,97,108,32,84,82,32,105,105,32,32,32,56]⟩),
 (195,⟨#[79,112,83,104,105,102,116,82,105,103,104,116,65,114,105,116,104,109,101,116,105,99,32,84,82,32,105,105,32,32,32,56]⟩),
 (196,⟨#[79,112,83,104,105,102,116,76,101,102,116,76,111,103,105,99,97,108,32,84,82,32,105,105,32,32,32,56]⟩),
 (197,⟨#[79,112,66,105,116,119,105,115,101,79,114,32,84,82,32,105,105,32,32,32,56]⟩),
 (198,⟨#[79,112,66,105,116,119,105,115,101,88,111,114,32,84,82,32,105,105,32,32,32,56]⟩),
 (199,⟨#[79,112,66,105,116,119,105,115,101,65,110,100,32,84,82,32,105,105,32,32,32,56]⟩),
 (200,⟨#[79,112,78,111,116,32,84,82,32,105,32,32,32,56]⟩),
 (201,⟨#[79,112,66,105,116,70,105,101,108,100,73,110,115,101,114,116,32,84,82,32,105,105,105,105,32,32,32,56]⟩),
 (202,⟨#[79,112,66,105,116,70,105,101,108,100,83,69,120,116,114,97,99,116,32,84,82,32,105,105,105,32,32,32,56]⟩),
 (203,⟨#[79,112,66,105,116,70,105,101,108,100,85,69,120,116,114,97,99,116,32,84,82,32,105,105,105,32,32,32,56]⟩),
 (204,⟨#[79,112,66,105,116,82,101,118,101,114,115,101,32,84,82,32,105,32,32,32,56]⟩),
 (205,⟨#[79,112,66,105,116,67,111,117,110,116,32,84,82,32,105,32,32,32,56]⟩),
 (245,⟨#[79,112,80,104,105,32,84,82,32,32,105,105,32,32,56]⟩),
 (246,⟨#[79,112,76,111,111,112,77,101,114,103,101,32,32,105,105,103,32,32,32,56]⟩),
 (247,⟨#[79,112,83,101,108,101,99,116,105,111,110,77,101,114,103,101,32,32,105,104,32,32,32,56]⟩),
 (248,⟨#[79,112,76,97,98,101,108,32,82,32,32,32,32,56]⟩),
 (249,⟨#[79,112,66,114,97,110,99,104,32,32,105,32,32,32,56]⟩),
 (250,⟨#[79,112,66,114,97,110,99,104,67,111,110,100,105,116,105,111,110,97,108,32,32,105,105,105,32,32,32,56]⟩),
 (251,⟨#[79,112,83,119,105,116,99,104,32,32,105,105,32,110,105,32,32,56]⟩),
 (252,⟨#[79,112,75,105,108,108,32,32,32,32,32,56]⟩),
 (253,⟨#[79,112,82,101,116,117,114,110,32,32,32,32,32,56]⟩),
 (254,⟨#[79,112,82,101,116,117,114,110,86,97,108,117,101,32,32,105,32,32,32,56]⟩),
 (255,⟨#[79,112,85,110,114,101,97,99,104,97,98,108,101,32,32,32,32,32,56]⟩)]
def namesT:List (Int × ByteArray):=[
 (107,⟨#[48,32,77,97,116,114,105,120,32,49,32,83,104,97,100,101,114,32]⟩),
 (97,⟨#[48,32,76,111,103,105,99,97,108,32]⟩),
 (109,⟨#[48,32,83,105,109,112,108,101,32,49,32,71,76,83,76,52,53,48,32]⟩),
 (101,⟨#[48,32,86,101,114,116,101,120,32,52,32,70,114,97,103,109,101,110,116,32]⟩),
 (120,⟨#[55,32,79,114,105,103,105,110,85,112,112,101,114,76,101,102,116,32]⟩),
 (108,⟨#[48,32,85,110,107,110,111,119,110,32,49,32,69,83,83,76,32,50,32,71,76,83,76,32]⟩),
 (99,⟨#[49,32,73,110,112,117,116,32,51,32,79,117,116,112,117,116,32,54,32,80,114,105,118,97,116,101,32,55,32,70,117,110,99,116,105,111,110,32]⟩),
 (100,⟨#[48,32,82,101,108,97,120,101,100,80,114,101,99,105,115,105,111,110,32,49,49,32,66,117,105,108,116,73,110,32,49,52,32,70,108,97,116,32,51,48,32,76,111,99,97,116,105,111,110,32]⟩),
 (102,⟨#[48,32,78,111,110,101,32,49,32,73,110,108,105,110,101,32,50,32,68,111,110,116,73,110,108,105,110,101,32,52,32,80,117,114,101,32,56,32,67,111,110,115,116,32]⟩),
 (104,⟨#[48,32,78,111,110,101,32,49,32,70,108,97,116,116,101,110,32,50,32,68,111,110,116,70,108,97,116,116,101,110,32]⟩),
 (103,⟨#[48,32,78,111,110,101,32,49,32,85,110,114,111,108,108,32,50,32,68,111,110,116,85,110,114,111,108,108,32]⟩)]
def pickT (l:List (Int × ByteArray)) (op:Int):ByteArray:=match l with
 | []=>⟨#[]⟩
 | (k,s) :: l=>if op==k then s else pickT l op
def rowT (op:Int):ByteArray:=if op≤71 then pickT firstT op else if op≤171 then pickT secondT op else pickT thirdT op
end
section
abbrev FSt:=Nat × (Nat→List UInt8)
def stepF (st:FSt) (c:UInt8):FSt:=if c=32 then (st.1+1,st.2) else (st.1,fun j=>if j=st.1 then st.2 j++[c] else st.2 j)
def fdS (l:List UInt8):FSt:=l.foldl stepF (0,fun _=>[])
theorem fdS_snoc (l:List UInt8) (c:UInt8):fdS (l++[c])=stepF (fdS l) c:=by simp [fdS,List.foldl_append]
theorem step_le (st:FSt) (c:UInt8):st.1≤(stepF st c).1:=by unfold stepF;split <;> simp
theorem fold_le (l:List UInt8) (st:FSt):st.1≤(l.foldl stepF st).1:=by
 induction l generalizing st with
 | nil=>exact Nat.le_refl _
 | cons c l ih=>exact Nat.le_trans (step_le st c) (ih _)
theorem fdS_take (l:List UInt8) (k:Nat):(fdS (l.take k)).1≤(fdS l).1:=by
 have h:fdS l=(l.drop k).foldl stepF (fdS (l.take k)):=by
  unfold fdS;rw [← List.foldl_append,List.take_append_drop]
 rw [h];exact fold_le _ _
theorem fdS_len (l:List UInt8):∀ j,((fdS l).2 j).length≤l.length:=by
 have h:∀ (l:List UInt8) (st:FSt) (n:Nat),(∀ j,(st.2 j).length≤n)→∀ j,((l.foldl stepF st).2 j).length≤n+l.length:=by
  intro l
  induction l with
  | nil=>intro st n h j;exact h j
  | cons c l ih =>
   intro st n h j;have:=ih (stepF st c) (n+1) (fun j=>by
    unfold stepF;have:=h j
    split
    ·simp only;omega
    ·simp only
     split
     ·rw [List.length_append,List.length_singleton];omega
     ·omega) j
   simp only [List.foldl_cons,List.length_cons];omega
 intro j;have:=h l (0,fun _=>[]) 0 (fun _=>Nat.le_refl _) j
 rw [Nat.zero_add] at this;exact this
def bs (l:List UInt8):ByteArray:=⟨l.toArray⟩
theorem bs_append (a b:List UInt8):bs a++bs b=bs (a++b):=by
 apply ByteArray.ext
 simp [bs]
theorem bs_size (a:List UInt8):(bs a).size=a.length:=by simp [bs,ByteArray.size]
end
section
structure FormI where
 name:List UInt8
 ty:Bool
 res:Bool
 fixed:List UInt8
 rest:List UInt8
 most:Int
 part:Int
def dg (l:List UInt8):Int:=match l with
 | []=>0
 | c :: _=>(c.toNat:Int)-48
def formF (F:Nat→List UInt8):FormI:=⟨F 0,(F 1).any (·==84),(F 1).any (·==82),F 2,F 3,dg (F 4),dg (F 5)⟩
def formT (s:ByteArray):FormI:=formF (fdS s.data.toList).2
def okRow (s:ByteArray):Bool :=
 s.data.toList.all (fun c=>decide (c.toNat<128))&&decide ((fdS s.data.toList).1=5)&&decide (s.size≤60) &&
  ((fdS s.data.toList).2 5).all (fun c=>decide (48≤c.toNat)&&decide (c.toNat≤57))&&decide (((fdS s.data.toList).2 5).length=1) &&
  ((fdS s.data.toList).2 4).all (fun c=>decide (48≤c.toNat)&&decide (c.toNat≤57))&&decide (((fdS s.data.toList).2 4).length≤1)
theorem first_ok:(firstT.all fun x=>okRow x.2)=true:=by decide +kernel
theorem second_ok:(secondT.all fun x=>okRow x.2)=true:=by decide +kernel
theorem third_ok:(thirdT.all fun x=>okRow x.2)=true:=by decide +kernel
theorem pickT_or {l:List (Int × ByteArray)} (h:(l.all fun x=>okRow x.2)=true) (op:Int):pickT l op=⟨#[]⟩∨okRow (pickT l op)=true:=by
 induction l with
 | nil=>exact .inl rfl
 | cons x l ih =>
  obtain ⟨k,s⟩:=x;simp only [List.all_cons,Bool.and_eq_true] at h;unfold pickT
  split
  ·exact .inr h.1
  ·exact ih h.2
theorem rowT_or (op:Int):rowT op=⟨#[]⟩∨okRow (rowT op)=true:=by
 unfold rowT
 split
 ·exact pickT_or first_ok op
 ·split
  ·exact pickT_or second_ok op
  ·exact pickT_or third_ok op
structure OkRow (s:ByteArray):Prop where
 ascii:∀ c∈s.data.toList,c.toNat<128
 sp:(fdS s.data.toList).1=5
 size:s.size≤60
 d5:∃ c:UInt8,(fdS s.data.toList).2 5=[c]∧48≤c.toNat∧c.toNat≤57
 d4:(fdS s.data.toList).2 4=[]∨∃ c:UInt8,(fdS s.data.toList).2 4=[c]∧48≤c.toNat∧c.toNat≤57
theorem okRow_is {s:ByteArray} (h:okRow s=true):OkRow s:=by
 unfold okRow at h;simp only [Bool.and_eq_true,decide_eq_true_eq,List.all_eq_true] at h;obtain ⟨⟨⟨⟨⟨⟨h1,h2⟩,h3⟩,h4⟩,h5⟩,h6⟩,h7⟩:=h;refine ⟨h1,h2,h3,?_,?_⟩
 ·match hl:(fdS s.data.toList).2 5,h5 with
  | [c],_=>exact ⟨c,rfl,h4 c (by rw [hl];simp)⟩
 ·match hl:(fdS s.data.toList).2 4,h7 with
  | [],_=>exact .inl rfl
  | [c],_=>exact .inr ⟨c,rfl,h6 c (by rw [hl];simp)⟩
def formOf (op:Int):Option FormI:=if (rowT op).size=0 then none else some (formT (rowT op))
end
section
def kindT (c:Int):Int:=if (c==105)=true then 1 else if (c==110)=true then 2 else if (c==115)=true then 3 else if (pickT namesT c).size=0 then 0 else 4
def fixedB (s:ByteArray) (i:Nat):Int:=if h:i<s.size then (s[i].toNat:Int) else 0
def restB (s2 s3:ByteArray) (m:Int) (i:Nat):Int :=
 if i<s2.size∨s3.size=0∨(0<m∧m*s3.size≤(i-s2.size:Nat)) then 0
 else if h:(i-s2.size) % s3.size<s3.size then (s3[(i-s2.size) % s3.size].toNat:Int) else 0
def letterB (s2 s3:ByteArray) (m:Int) (i:Nat):Int:=if fixedB s2 i=0 then restB s2 s3 m i else fixedB s2 i
def letterOf (op:Int) (i:Nat):Int:=match formOf op with
 | none=>0
 | some f=>letterB (bs f.fixed) (bs f.rest) f.most i
theorem letterB_none (i:Nat):letterB ⟨#[]⟩ ⟨#[]⟩ 0 i=0:=by
 unfold letterB;rw [show fixedB ⟨#[]⟩ i=0 from dif_neg (Nat.not_lt_zero _),if_pos rfl]
 unfold restB;rw [if_pos (.inr (.inl rfl))]
end
section
def numT (l:List UInt8):Int:=l.foldl (fun n c=>(10*n+((c.toNat:Int)-48)) % 4294967296) 0
theorem numT_snoc (l:List UInt8) (c:UInt8):numT (l++[c])=(10*numT l+((c.toNat:Int)-48)) % 4294967296:=by
 unfold numT;rw [List.foldl_append];rfl
theorem numT_bd (l:List UInt8):0≤numT l∧numT l<4294967296:=by
 have h:∀ (l:List UInt8) (n:Int),0≤n∧n<4294967296→0≤l.foldl (fun n c=>(10*n+((c.toNat:Int)-48)) % 4294967296) n∧l.foldl (fun n c=>(10*n+((c.toNat:Int)-48)) % 4294967296) n<4294967296:=by
  intro l
  induction l with
  | nil=>exact fun n h=>h
  | cons c l ih=>exact fun n _=>ih _ (by dsimp only;omega)
 exact h l 0 (by omega)
structure ESt where
 n:Int
 word:List UInt8
 num:Bool
 out:List (Int × List UInt8)
def stepE (s:ESt) (c:UInt8):ESt :=
 if c=32 then (if s.num then ⟨s.n,[],false,s.out++[(s.n,s.word)]⟩ else ⟨numT s.word,[],true,s.out⟩)
 else ⟨s.n,s.word++[c],s.num,s.out⟩
def estOf (l:List UInt8):ESt:=l.foldl stepE ⟨0,[],false,[]⟩
theorem estOf_snoc (l:List UInt8) (c:UInt8):estOf (l++[c])=stepE (estOf l) c:=by
 unfold estOf;rw [List.foldl_append];rfl
def enumsOf (letter:Int):List (Int × List UInt8):=(estOf (pickT namesT letter).data.toList).out
def enumB (letter n:Int):Bool:=(enumsOf letter).any fun x=>x.1==n
def enumN (letter n:Int):List UInt8:=match (enumsOf letter).find? (fun x=>x.1==n) with
 | none=>[]
 | some x=>x.2
theorem stepE_out (s:ESt) (c:UInt8):∃ r,(stepE s c).out=s.out++r:=by
 unfold stepE
 split
 ·split
  ·exact ⟨_,rfl⟩
  ·exact ⟨[],by simp⟩
 ·exact ⟨[],by simp⟩
theorem foldE_out (l:List UInt8):∀ (s:ESt),∃ r,(l.foldl stepE s).out=s.out++r:=by
 induction l with
 | nil=>exact fun s=>⟨[],by simp⟩
 | cons c l ih =>
  intro s;obtain ⟨r1,h1⟩:=stepE_out s c;obtain ⟨r2,h2⟩:=ih (stepE s c);exact ⟨r1++r2,by rw [List.foldl_cons,h2,h1,List.append_assoc]⟩
theorem estOf_out (l r:List UInt8):∃ t,(estOf (l++r)).out=(estOf l).out++t:=by
 unfold estOf;rw [List.foldl_append];exact foldE_out r _
theorem names_ascii:(namesT.all fun x=>x.2.data.toList.all (fun c=>decide (c.toNat<128))&&decide (x.2.size≤100))=true:=by decide +kernel
theorem pickN_ok (letter:Int):(∀ c∈(pickT namesT letter).data.toList,c.toNat<128)∧(pickT namesT letter).size≤100:=by
 have h:∀ l:List (Int × ByteArray),(l.all fun x=>x.2.data.toList.all (fun c=>decide (c.toNat<128))&&decide (x.2.size≤100))=true→(∀ c∈(pickT l letter).data.toList,c.toNat<128)∧(pickT l letter).size≤100:=by
  intro l
  induction l with
  | nil=>exact fun _=>⟨fun c hc=>by simp [pickT] at hc,Nat.zero_le _⟩
  | cons x l ih =>
   intro h;obtain ⟨k,s⟩:=x;simp only [List.all_cons,Bool.and_eq_true,List.all_eq_true,decide_eq_true_eq] at h;unfold pickT
   split
   ·exact h.1
   ·refine ih ?_;simp only [List.all_eq_true,Bool.and_eq_true,decide_eq_true_eq];exact h.2
 exact h _ names_ascii
theorem estOf_word (l:List UInt8) (h:∀ c∈l,c.toNat<128):∀ c∈(estOf l).word,c.toNat<128:=by
 have k:∀ (l:List UInt8) (s:ESt),(∀ c∈l,c.toNat<128)→(∀ c∈s.word,c.toNat<128)→∀ c∈(l.foldl stepE s).word,c.toNat<128:=by
  intro l
  induction l with
  | nil=>exact fun s _ h=>h
  | cons d l ih =>
   intro s h1 h2;refine ih _ (fun c hc=>h1 c (by simp [hc])) (fun c hc=>?_)
   unfold stepE at hc
   split at hc
   ·split at hc <;> simp at hc
   ·rcases List.mem_append.1 hc with hc | hc
    ·exact h2 c hc
    ·rw [List.mem_singleton] at hc;rw [hc];exact h1 d (by simp)
 exact k l _ h (fun c hc=>by simp at hc)
theorem estOf_len (l:List UInt8):(estOf l).word.length≤l.length:=by
 have k:∀ (l:List UInt8) (s:ESt),(l.foldl stepE s).word.length≤s.word.length+l.length:=by
  intro l
  induction l with
  | nil=>exact fun s=>by simp
  | cons d l ih =>
   intro s;refine Nat.le_trans (ih _) ?_;have:(stepE s d).word.length≤s.word.length+1:=by
    unfold stepE
    split
    ·split <;> simp
    ·simp
   simp only [List.length_cons];omega
 have:=k l ⟨0,[],false,[]⟩;simpa [estOf] using this
end
section
def shr (x:Int):Nat→Int
 | 0=>x
 | j+1=>shr x j / 256
def byt (x:Int) (j:Nat):Int:=shr x j % 256
def byts (x:Int):Nat→List Int
 | 0=>[]
 | m+1=>byts x m++[byt x m]
def joined (l:List Int):List Int:=l.flatMap fun x=>byts x 4
def wbyte (l:List Int) (k:Nat):Int:=byt (ix l (k / 4)) (k % 4)
end
section
theorem wraps_u32 (n:Int) (h0:0≤n) (h1:n<2 ^ 32):IntKind.u32.wrap n=n:=by
 rw [IntKind.wrap_u32];omega
theorem u32_join (i:Nat) (x y:Int) (hx0:0≤x) (hx:x % 2 ^ i=0) (hx1:x<4294967296) (hy0:0≤y) (hy:y<2 ^ i) (hy1:y<4294967296):bits .or .u32 x y=x+y :=
 bits_join .u32 32 (by decide) wraps_u32 i x y hx0 hx (by omega) hy0 hy (by omega)
end
section
def top (l:List Int) (i:Nat):Nat→Int
 | 0=>0
 | m+1=>top l i m*256+ix l (i+(3-m))
def word (l:List Int) (i:Nat):Int:=top l i 4
def glue (l:List Int):Nat→List Int
 | 0=>[]
 | m+1=>glue l m++[word l (4*m)]
theorem glue_length (l:List Int) (m:Nat):(glue l m).length=m:=by induction m with
 | zero=>rfl
 | succ m ih=>simp [glue,ih]
theorem glue_ix {l:List Int} {m j:Nat} (h:j<m):ix (glue l m) j=word l (4*j):=by
 induction m with
 | zero=>omega
 | succ m ih =>
  rw [glue]
  rcases Nat.lt_or_ge j m with hj | hj
  ·rw [ix_append_left (by rw [glue_length];exact hj),ih hj]
  ·obtain rfl:j=m:=by omega
   rw [ix_append_right (by rw [glue_length];omega),glue_length,Nat.sub_self]
   simp [ix]
theorem word_eq (l:List Int) (i:Nat):word l i=ix l i+256*ix l (i+1)+65536*ix l (i+2)+16777216*ix l (i+3):=by
 simp only [word,top];have e0:i+(3-3)=i:=by omega
 have e1:i+(3-2)=i+1:=by omega
 have e2:i+(3-1)=i+2:=by omega
 have e3:i+(3-0)=i+3:=by omega
 rw [e0,e1,e2,e3];omega
end
section
end
section
open Go.RowKit Go.WideShapes
def toU8 (l:List Int):List UInt8:=l.map fun x=>UInt8.ofNat x.toNat
def str (l:List Int):ByteArray:=⟨(toU8 l).toArray⟩
def stop (l:List Int):Nat:=((joined l).takeWhile (· != 0)).length
def textE (l:List Int):Int:=if stop l=4*l.length then 11 else if shr (ix l (stop l / 4)) (stop l % 4)≠0 then 12 else 0
def textN (l:List Int):Int:=if textE l=0 then (stop l / 4+1:Nat) else 0
def textS (l:List Int):List Int:=if textE l=0 then (joined l).take (stop l) else []
def Texts (l:List Int) (w:World) (e:Ending) (w':World):Prop :=
 e=.returned (.tuple #[.string (str (textS l)),.int .i64 (textN l),.int .i64 (textE l)])∧Below w.heap.size w w'
theorem Texts.mk {l:List Int} {w w':World} {s:List Int} {n e:Int} (h:textE l=e∧textN l=n∧textS l=s) (hb:Below w.heap.size w w'):Texts l w (.returned (.tuple #[.string (str s),.int .i64 n,.int .i64 e])) w':=by
 refine ⟨?_,hb⟩;rw [h.1,h.2.1,h.2.2]
def NoZero (l:List Int) (p:Nat):Prop:=∀ k,k<p→wbyte l k≠0
theorem NoZero.zero (l:List Int):NoZero l 0:=fun k hk=>by omega
theorem NoZero.succ {l:List Int} {p:Nat} (h:NoZero l p) (hp:wbyte l p≠0):NoZero l (p+1):=fun k hk=>by
 rcases Nat.lt_or_ge k p with hk' | hk'
 ·exact h k hk'
 ·obtain rfl:k=p:=by omega
  exact hp
def Pads (x:Int) (r q:Nat):Prop:=shr x r=0 ↔ shr x q=0
theorem Pads.step {x:Int} {r q:Nat} (h:Pads x r q) (hz:byt x q=0):Pads x r (q+1):=by
 unfold Pads at *;unfold byt at hz;rw [h];simp only [shr];omega
theorem Pads.bad {x:Int} {r q:Nat} (h:Pads x r q) (hz:byt x q≠0):shr x r≠0:=fun e=>by
 have:=h.1 e;unfold byt at hz;rw [this] at hz;exact hz rfl
end
section
def bl (s:ByteArray):List Int:=s.data.toList.map fun b=>(b.toNat:Int)
theorem bl_length (s:ByteArray):(bl s).length=s.size:=by simp [bl]
theorem bl_ix (s:ByteArray) {k:Nat} (h:k<s.size):ix (bl s) k=(s[k].toNat:Int):=by
 rw [ix_of (by rw [bl_length];exact h)]
 simp [bl]
 rfl
theorem bl_under (s:ByteArray):Under 256 (bl s):=fun x hx=>by
 obtain ⟨b,_,rfl⟩:=List.mem_map.1 hx;have:=b.toNat_lt;omega
def Full (l:List Int) (k:Nat):Prop:=∀ j,j<k→ix l j≠0
theorem Full.zero (l:List Int):Full l 0:=fun j hj=>by omega
theorem Full.succ {l:List Int} {k:Nat} (h:Full l k) (hk:ix l k≠0):Full l (k+1):=fun j hj=>by
 rcases Nat.lt_or_ge j k with hj' | hj'
 ·exact h j hj'
 ·obtain rfl:j=k:=by omega
  exact hk
def roomOf (l:List Int):Nat:=l.length / 4+1
def ofE (l:List Int):Int:=if (0:Int)∈l then 13 else if 65535<roomOf l then 4 else 0
def part (l:List Int) (k:Nat):List Int:=glue (mid l (4*roomOf l) k) (roomOf l)
def ofW (l:List Int):List Int:=if ofE l=0 then part l l.length else []
theorem of_nul {l:List Int} {k:Nat} (h:k<l.length) (h0:ix l k=0):ofE l=13∧ofW l=[]:=by
 have hm:(0:Int)∈l:=by rw [← h0];exact ix_mem h
 have e:ofE l=13:=by simp [ofE,hm]
 exact ⟨e,by simp [ofW,e]⟩
theorem full_mem {l:List Int} (h:Full l l.length):¬ (0:Int)∈l:=fun hm=>by
 obtain ⟨k,hk,e⟩:=List.getElem_of_mem hm;exact h k hk (by rw [ix_of hk];exact e)
theorem of_large {l:List Int} (h:Full l l.length) (hr:65535<roomOf l):ofE l=4∧ofW l=[]:=by
 have e:ofE l=4:=by simp [ofE,full_mem h,hr]
 exact ⟨e,by simp [ofW,e]⟩
theorem of_ok {l:List Int} (h:Full l l.length) (hr:¬ 65535<roomOf l):ofE l=0∧ofW l=part l l.length:=by
 have e:ofE l=0:=by simp [ofE,full_mem h,hr]
 exact ⟨e,by simp [ofW,e]⟩
theorem mid_ix_lt {l:List Int} {n k j:Nat} (hj:j<k) (hk:k≤l.length):ix (mid l n k) j=ix l j:=by
 unfold mid;rw [ix_append_left (by rw [List.length_take];omega),ix_take hj]
theorem mid_ix_ge {l:List Int} {n k j:Nat} (hj:k≤j) (hk:k≤l.length):ix (mid l n k) j=0:=by
 unfold mid;have hl:(l.take k).length=k:=by rw [List.length_take];omega
 rw [ix_append_right (by omega),hl]
 rcases Nat.lt_or_ge (j-k) (n-k) with h | h
 ·exact ix_replicate h
 ·exact ix_out (by simpa using h)
theorem part_length (l:List Int) (k:Nat):(part l k).length=roomOf l:=glue_length _ _
theorem u32_join' (i:Nat) (x y:Int) (hx0:0≤x) (hx:x % 2 ^ i=0) (hx1:x<4294967296) (hy0:0≤y) (hy:y<2 ^ i) (hy1:y<4294967296):bits .or .u32 y x=x+y:=by
 rw [← u32_join i x y hx0 hx hx1 hy0 hy hy1];simp only [bits];rw [BitVec.or_comm]
theorem word_or {l:List Int} (h:Under 256 l) {n q r:Nat} (hr:r<4) (hk:4*q+r<l.length) :
  bits .or .u32 (word (mid l n (4*q+r)) (4*q)) (ix l (4*q+r)*256 ^ r)=word (mid l n (4*q+r+1)) (4*q):=by
 have b:=h.ix (by decide) (4*q+r)
 have c0:=h.ix (by decide) (4*q);have c1:=h.ix (by decide) (4*q+1);have c2:=h.ix (by decide) (4*q+2)
 rw [word_eq,word_eq]
 match r,hr with
 | 0,_ =>
  simp only [Nat.add_zero] at *;rw [mid_ix_ge (k:=4*q) (j:=4*q) (by omega) (by omega),mid_ix_ge (k:=4*q) (j:=4*q+1) (by omega) (by omega),mid_ix_ge (k:=4*q) (j:=4*q+2) (by omega) (by omega),mid_ix_ge (k:=4*q) (j:=4*q+3) (by omega) (by omega),
   mid_ix_lt (k:=4*q+1) (j:=4*q) (by omega) (by omega),mid_ix_ge (k:=4*q+1) (j:=4*q+1) (by omega) (by omega),mid_ix_ge (k:=4*q+1) (j:=4*q+2) (by omega) (by omega),mid_ix_ge (k:=4*q+1) (j:=4*q+3) (by omega) (by omega)]
  rw [u32_join' 0 _ _ (by omega) (by omega) (by omega) (by omega) (by omega) (by omega)]
  omega
 | 1,_ =>
  rw [mid_ix_lt (k:=4*q+1) (j:=4*q) (by omega) (by omega),mid_ix_ge (k:=4*q+1) (j:=4*q+1) (by omega) (by omega),mid_ix_ge (k:=4*q+1) (j:=4*q+2) (by omega) (by omega),mid_ix_ge (k:=4*q+1) (j:=4*q+3) (by omega) (by omega),
   mid_ix_lt (k:=4*q+1+1) (j:=4*q) (by omega) (by omega),mid_ix_lt (k:=4*q+1+1) (j:=4*q+1) (by omega) (by omega),mid_ix_ge (k:=4*q+1+1) (j:=4*q+2) (by omega) (by omega),mid_ix_ge (k:=4*q+1+1) (j:=4*q+3) (by omega) (by omega)]
  rw [u32_join' 8 _ _ (by omega) (by omega) (by omega) (by omega) (by omega) (by omega)]
  omega
 | 2,_ =>
  rw [mid_ix_lt (k:=4*q+2) (j:=4*q) (by omega) (by omega),mid_ix_lt (k:=4*q+2) (j:=4*q+1) (by omega) (by omega),mid_ix_ge (k:=4*q+2) (j:=4*q+2) (by omega) (by omega),mid_ix_ge (k:=4*q+2) (j:=4*q+3) (by omega) (by omega),
   mid_ix_lt (k:=4*q+2+1) (j:=4*q) (by omega) (by omega),mid_ix_lt (k:=4*q+2+1) (j:=4*q+1) (by omega) (by omega),mid_ix_lt (k:=4*q+2+1) (j:=4*q+2) (by omega) (by omega),mid_ix_ge (k:=4*q+2+1) (j:=4*q+3) (by omega) (by omega)]
  rw [u32_join' 16 _ _ (by omega) (by omega) (by omega) (by omega) (by omega) (by omega)]
  omega
 | 3,_ =>
  rw [mid_ix_lt (k:=4*q+3) (j:=4*q) (by omega) (by omega),mid_ix_lt (k:=4*q+3) (j:=4*q+1) (by omega) (by omega),mid_ix_lt (k:=4*q+3) (j:=4*q+2) (by omega) (by omega),mid_ix_ge (k:=4*q+3) (j:=4*q+3) (by omega) (by omega),
   mid_ix_lt (k:=4*q+3+1) (j:=4*q) (by omega) (by omega),mid_ix_lt (k:=4*q+3+1) (j:=4*q+1) (by omega) (by omega),mid_ix_lt (k:=4*q+3+1) (j:=4*q+2) (by omega) (by omega),mid_ix_lt (k:=4*q+3+1) (j:=4*q+3) (by omega) (by omega)]
  rw [u32_join' 24 _ _ (by omega) (by omega) (by omega) (by omega) (by omega) (by omega)]
  omega
theorem part_step {l:List Int} (h:Under 256 l) {q r:Nat} (hr:r<4) (hk:4*q+r<l.length) :
  (part l (4*q+r)).set q (bits .or .u32 (ix (part l (4*q+r)) q) (ix l (4*q+r)*256 ^ r))=part l (4*q+r+1):=by
 have hq:q<roomOf l:=by unfold roomOf;omega
 refine ext_ix (by rw [List.length_set,part_length,part_length]) fun j hj=>?_
 rw [List.length_set,part_length] at hj;have e1:ix (part l (4*q+r)) q=word (mid l (4*roomOf l) (4*q+r)) (4*q):=glue_ix hq
 by_cases hjq:q=j
 ·subst hjq;rw [ix_set_same (by rw [part_length];exact hq),e1,word_or h hr hk]
  exact (glue_ix hq).symm
 ·rw [ix_set_other hjq];unfold part;rw [glue_ix hj,glue_ix hj,word_eq,word_eq];have e:∀ t,t<4→ix (mid l (4*roomOf l) (4*q+r)) (4*j+t)=ix (mid l (4*roomOf l) (4*q+r+1)) (4*j+t):=fun t ht=>by
   rcases Nat.lt_or_ge (4*j+t) (4*q+r) with h' | h'
   ·rw [mid_ix_lt h' (by omega),mid_ix_lt (by omega) (by omega)]
   ·rw [mid_ix_ge h' (by omega),mid_ix_ge (by omega) (by omega)]
  have e0:=e 0 (by omega)
  rw [Nat.add_zero] at e0;rw [e0,e 1 (by omega),e 2 (by omega),e 3 (by omega)]
theorem part_zero (l:List Int):part l 0=List.replicate (roomOf l) 0:=by
 refine ext_ix (by rw [part_length,List.length_replicate]) fun j hj=>?_
 rw [part_length] at hj;unfold part;rw [glue_ix hj,word_eq,ix_replicate hj,mid_ix_ge (by omega) (by omega),mid_ix_ge (by omega) (by omega),mid_ix_ge (by omega) (by omega),mid_ix_ge (by omega) (by omega)]
 rfl
theorem shift_eq {x:Int} (h0:0≤x) (h1:x<256) {r:Nat} (hr:r<4):x % 4294967296*2 ^ (8*r) % 4294967296=x*256 ^ r:=by
 match r,hr with
 | 0,_=>simp;omega
 | 1,_=>simp;omega
 | 2,_=>simp;omega
 | 3,_=>simp;omega
theorem part_step' {l:List Int} (h:Under 256 l) {k:Nat} (hk:k<l.length) :
  (part l k).set (k / 4) (bits .or .u32 (ix (part l k) (k / 4)) (ix l k % 4294967296*2 ^ (8*(k % 4)) % 4294967296))=part l (k+1):=by
 have hx:=h.ix (by decide) k
 have e:4*(k / 4)+k % 4=k:=by omega
 have hs:=part_step h (q:=k / 4) (r:=k % 4) (by omega) (by rw [e];exact hk)
 rw [e] at hs;rw [shift_eq hx.1 hx.2 (by omega)]
 exact hs
end
end Go.Proofs.YteelmakkogdieaaGreatDoor
