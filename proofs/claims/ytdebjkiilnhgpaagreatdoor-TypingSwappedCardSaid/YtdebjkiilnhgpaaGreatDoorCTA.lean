/- Plain: the grammar's rows and enumerants as texts. -/
namespace Go.Proofs.YtdebjkiilnhgpaaGreatDoor
section
def firstT:List (Int × ByteArray):=[
 (1,⟨#[79,112,85,110,100,101,102,32,84,82,32,32,32,32,55]⟩),
 (3,⟨#[79,112,83,111,117,114,99,101,32,32,108,110,32,32,32,52]⟩),
 (5,⟨#[79,112,78,97,109,101,32,32,105,115,32,32,32,53]⟩),
 (6,⟨#[79,112,77,101,109,98,101,114,78,97,109,101,32,32,105,110,115,32,32,32,53]⟩),
 (7,⟨#[79,112,83,116,114,105,110,103,32,82,32,115,32,32,32,52]⟩),
 (14,⟨#[79,112,77,101,109,111,114,121,77,111,100,101,108,32,32,97,109,32,32,32,49]⟩),
 (15,⟨#[79,112,69,110,116,114,121,80,111,105,110,116,32,32,101,105,115,32,105,32,32,50]⟩),
 (16,⟨#[79,112,69,120,101,99,117,116,105,111,110,77,111,100,101,32,32,105,120,32,32,32,51]⟩),
 (17,⟨#[79,112,67,97,112,97,98,105,108,105,116,121,32,32,107,32,32,32,48]⟩),
 (19,⟨#[79,112,84,121,112,101,86,111,105,100,32,82,32,32,32,32,55]⟩),
 (20,⟨#[79,112,84,121,112,101,66,111,111,108,32,82,32,32,32,32,55]⟩),
 (21,⟨#[79,112,84,121,112,101,73,110,116,32,82,32,110,110,32,32,32,55]⟩),
 (23,⟨#[79,112,84,121,112,101,86,101,99,116,111,114,32,82,32,105,110,32,32,32,55]⟩),
 (28,⟨#[79,112,84,121,112,101,65,114,114,97,121,32,82,32,105,105,32,32,32,55]⟩),
 (30,⟨#[79,112,84,121,112,101,83,116,114,117,99,116,32,82,32,32,105,32,32,55]⟩),
 (32,⟨#[79,112,84,121,112,101,80,111,105,110,116,101,114,32,82,32,99,105,32,32,32,55]⟩),
 (33,⟨#[79,112,84,121,112,101,70,117,110,99,116,105,111,110,32,82,32,105,32,105,32,32,55]⟩),
 (41,⟨#[79,112,67,111,110,115,116,97,110,116,84,114,117,101,32,84,82,32,32,32,32,55]⟩),
 (42,⟨#[79,112,67,111,110,115,116,97,110,116,70,97,108,115,101,32,84,82,32,32,32,32,55]⟩),
 (43,⟨#[79,112,67,111,110,115,116,97,110,116,32,84,82,32,110,32,32,32,55]⟩),
 (44,⟨#[79,112,67,111,110,115,116,97,110,116,67,111,109,112,111,115,105,116,101,32,84,82,32,32,105,32,32,55]⟩),
 (46,⟨#[79,112,67,111,110,115,116,97,110,116,78,117,108,108,32,84,82,32,32,32,32,55]⟩),
 (54,⟨#[79,112,70,117,110,99,116,105,111,110,32,84,82,32,102,105,32,32,32,56]⟩),
 (55,⟨#[79,112,70,117,110,99,116,105,111,110,80,97,114,97,109,101,116,101,114,32,84,82,32,32,32,32,56]⟩),
 (56,⟨#[79,112,70,117,110,99,116,105,111,110,69,110,100,32,32,32,32,32,56]⟩),
 (57,⟨#[79,112,70,117,110,99,116,105,111,110,67,97,108,108,32,84,82,32,105,32,105,32,32,56]⟩),
 (59,⟨#[79,112,86,97,114,105,97,98,108,101,32,84,82,32,99,32,105,32,49,32,55]⟩),
 (61,⟨#[79,112,76,111,97,100,32,84,82,32,105,32,32,32,56]⟩),
 (62,⟨#[79,112,83,116,111,114,101,32,32,105,105,32,32,32,56]⟩),
 (65,⟨#[79,112,65,99,99,101,115,115,67,104,97,105,110,32,84,82,32,105,32,105,32,32,56]⟩),
 (71,⟨#[79,112,68,101,99,111,114,97,116,101,32,32,105,100,32,110,32,32,54]⟩)]
def secondT:List (Int × ByteArray):=[
 (77,⟨#[79,112,86,101,99,116,111,114,69,120,116,114,97,99,116,68,121,110,97,109,105,99,32,84,82,32,105,105,32,32,32,56]⟩),
 (78,⟨#[79,112,86,101,99,116,111,114,73,110,115,101,114,116,68,121,110,97,109,105,99,32,84,82,32,105,105,105,32,32,32,56]⟩),
 (79,⟨#[79,112,86,101,99,116,111,114,83,104,117,102,102,108,101,32,84,82,32,105,105,32,110,32,32,56]⟩),
 (80,⟨#[79,112,67,111,109,112,111,115,105,116,101,67,111,110,115,116,114,117,99,116,32,84,82,32,32,105,32,32,56]⟩),
 (81,⟨#[79,112,67,111,109,112,111,115,105,116,101,69,120,116,114,97,99,116,32,84,82,32,105,32,110,32,32,56]⟩),
 (82,⟨#[79,112,67,111,109,112,111,115,105,116,101,73,110,115,101,114,116,32,84,82,32,105,105,32,110,32,32,56]⟩),
 (83,⟨#[79,112,67,111,112,121,79,98,106,101,99,116,32,84,82,32,105,32,32,32,56]⟩),
 (124,⟨#[79,112,66,105,116,99,97,115,116,32,84,82,32,105,32,32,32,56]⟩),
 (126,⟨#[79,112,83,78,101,103,97,116,101,32,84,82,32,105,32,32,32,56]⟩),
 (128,⟨#[79,112,73,65,100,100,32,84,82,32,105,105,32,32,32,56]⟩),
 (130,⟨#[79,112,73,83,117,98,32,84,82,32,105,105,32,32,32,56]⟩),
 (132,⟨#[79,112,73,77,117,108,32,84,82,32,105,105,32,32,32,56]⟩),
 (134,⟨#[79,112,85,68,105,118,32,84,82,32,105,105,32,32,32,56]⟩),
 (135,⟨#[79,112,83,68,105,118,32,84,82,32,105,105,32,32,32,56]⟩),
 (137,⟨#[79,112,85,77,111,100,32,84,82,32,105,105,32,32,32,56]⟩),
 (138,⟨#[79,112,83,82,101,109,32,84,82,32,105,105,32,32,32,56]⟩),
 (139,⟨#[79,112,83,77,111,100,32,84,82,32,105,105,32,32,32,56]⟩),
 (149,⟨#[79,112,73,65,100,100,67,97,114,114,121,32,84,82,32,105,105,32,32,32,56]⟩),
 (150,⟨#[79,112,73,83,117,98,66,111,114,114,111,119,32,84,82,32,105,105,32,32,32,56]⟩),
 (151,⟨#[79,112,85,77,117,108,69,120,116,101,110,100,101,100,32,84,82,32,105,105,32,32,32,56]⟩),
 (152,⟨#[79,112,83,77,117,108,69,120,116,101,110,100,101,100,32,84,82,32,105,105,32,32,32,56]⟩),
 (154,⟨#[79,112,65,110,121,32,84,82,32,105,32,32,32,56]⟩),
 (155,⟨#[79,112,65,108,108,32,84,82,32,105,32,32,32,56]⟩),
 (164,⟨#[79,112,76,111,103,105,99,97,108,69,113,117,97,108,32,84,82,32,105,105,32,32,32,56]⟩),
 (165,⟨#[79,112,76,111,103,105,99,97,108,78,111,116,69,113,117,97,108,32,84,82,32,105,105,32,32,32,56]⟩),
 (166,⟨#[79,112,76,111,103,105,99,97,108,79,114,32,84,82,32,105,105,32,32,32,56]⟩),
 (167,⟨#[79,112,76,111,103,105,99,97,108,65,110,100,32,84,82,32,105,105,32,32,32,56]⟩),
 (168,⟨#[79,112,76,111,103,105,99,97,108,78,111,116,32,84,82,32,105,32,32,32,56]⟩),
 (169,⟨#[79,112,83,101,108,101,99,116,32,84,82,32,105,105,105,32,32,32,56]⟩),
 (170,⟨#[79,112,73,69,113,117,97,108,32,84,82,32,105,105,32,32,32,56]⟩),
 (171,⟨#[79,112,73,78,111,116,69,113,117,97,108,32,84,82,32,105,105,32,32,32,56]⟩)]
def thirdT:List (Int × ByteArray):=[
 (172,⟨#[79,112,85,71,114,101,97,116,101,114,84,104,97,110,32,84,82,32,105,105,32,32,32,56]⟩),
 (173,⟨#[79,112,83,71,114,101,97,116,101,114,84,104,97,110,32,84,82,32,105,105,32,32,32,56]⟩),
 (174,⟨#[79,112,85,71,114,101,97,116,101,114,84,104,97,110,69,113,117,97,108,32,84,82,32,105,105,32,32,32,56]⟩),
 (175,⟨#[79,112,83,71,114,101,97,116,101,114,84,104,97,110,69,113,117,97,108,32,84,82,32,105,105,32,32,32,56]⟩),
 (176,⟨#[79,112,85,76,101,115,115,84,104,97,110,32,84,82,32,105,105,32,32,32,56]⟩),
 (177,⟨#[79,112,83,76,101,115,115,84,104,97,110,32,84,82,32,105,105,32,32,32,56]⟩),
 (178,⟨#[79,112,85,76,101,115,115,84,104,97,110,69,113,117,97,108,32,84,82,32,105,105,32,32,32,56]⟩),
 (179,⟨#[79,112,83,76,101,115,115,84,104,97,110,69,113,117,97,108,32,84,82,32,105,105,32,32,32,56]⟩),
 (194,⟨#[79,112,83,104,105,102,116,82,105,103,104,116,76,111,103,105,99,97,108,32,84,82,32,105,105,32,32,32,56]⟩),
 (195,⟨#[79,112,83,104,105,102,116,82,105,103,104,116,65,114,105,116,104,109,101,116,105,99,32,84,82,32,105,105,32,32,32,56]⟩),
 (196,⟨#[79,112,83,104,105,102,116,76,101,102,116,76,111,103,105,99,97,108,32,84,82,32,105,105,32,32,32,56]⟩),
 (197,⟨#[79,112,66,105,116,119,105,115,101,79,114,32,84,82,32,105,105,32,32,32,56]⟩),
 (198,⟨#[79,112,66,105,116,119,105,115,101,88,111,114,32,84,82,32,105,105,32,32,32,56]⟩),
 (199,⟨#[79,112,66,105,116,119,105,115,101,65,110,100,32,84,82,32,105,105,32,32,32,56]⟩),
 (200,⟨#[79,112,78,111,116,32,84,82,32,105,32,32,32,56]⟩),
 (201,⟨#[79,112,66,105,116,70,105,101,108,100,73,110,115,101,114,116,32,84,82,32,105,105,105,105,32,32,32,56]⟩),
 (202,⟨#[79,112,66,105,116,70,105,101,108,100,83,69,120,116,114,97,99,116,32,84,82,32,105,105,105,32,32,32,56]⟩),
 (203,⟨#[79,112,66,105,116,70,105,101,108,100,85,69,120,116,114,97,99,116,32,84,82,32,105,105,105,32,32,32,56]⟩),
 (204,⟨#[79,112,66,105,116,82,101,118,101,114,115,101,32,84,82,32,105,32,32,32,56]⟩),
 (205,⟨#[79,112,66,105,116,67,111,117,110,116,32,84,82,32,105,32,32,32,56]⟩),
 (245,⟨#[79,112,80,104,105,32,84,82,32,32,105,105,32,32,56]⟩),
 (246,⟨#[79,112,76,111,111,112,77,101,114,103,101,32,32,105,105,103,32,32,32,56]⟩),
 (247,⟨#[79,112,83,101,108,101,99,116,105,111,110,77,101,114,103,101,32,32,105,104,32,32,32,56]⟩),
 (248,⟨#[79,112,76,97,98,101,108,32,82,32,32,32,32,56]⟩),
 (249,⟨#[79,112,66,114,97,110,99,104,32,32,105,32,32,32,56]⟩),
 (250,⟨#[79,112,66,114,97,110,99,104,67,111,110,100,105,116,105,111,110,97,108,32,32,105,105,105,32,32,32,56]⟩),
 (251,⟨#[79,112,83,119,105,116,99,104,32,32,105,105,32,110,105,32,32,56]⟩),
 (252,⟨#[79,112,75,105,108,108,32,32,32,32,32,56]⟩),
 (253,⟨#[79,112,82,101,116,117,114,110,32,32,32,32,32,56]⟩),
 (254,⟨#[79,112,82,101,116,117,114,110,86,97,108,117,101,32,32,105,32,32,32,56]⟩),
 (255,⟨#[79,112,85,110,114,101,97,99,104,97,98,108,101,32,32,32,32,32,56]⟩)]
def namesT:List (Int × ByteArray):=[
 (107,⟨#[48,32,77,97,116,114,105,120,32,49,32,83,104,97,100,101,114,32]⟩),
 (97,⟨#[48,32,76,111,103,105,99,97,108,32]⟩),
 (109,⟨#[48,32,83,105,109,112,108,101,32,49,32,71,76,83,76,52,53,48,32]⟩),
 (101,⟨#[48,32,86,101,114,116,101,120,32,52,32,70,114,97,103,109,101,110,116,32]⟩),
 (120,⟨#[55,32,79,114,105,103,105,110,85,112,112,101,114,76,101,102,116,32]⟩),
 (108,⟨#[48,32,85,110,107,110,111,119,110,32,49,32,69,83,83,76,32,50,32,71,76,83,76,32]⟩),
 (99,⟨#[49,32,73,110,112,117,116,32,51,32,79,117,116,112,117,116,32,54,32,80,114,105,118,97,116,101,32,55,32,70,117,110,99,116,105,111,110,32]⟩),
 (100,⟨#[48,32,82,101,108,97,120,101,100,80,114,101,99,105,115,105,111,110,32,49,49,32,66,117,105,108,116,73,110,32,49,52,32,70,108,97,116,32,51,48,32,76,111,99,97,116,105,111,110,32]⟩),
 (102,⟨#[48,32,78,111,110,101,32,49,32,73,110,108,105,110,101,32,50,32,68,111,110,116,73,110,108,105,110,101,32,52,32,80,117,114,101,32,56,32,67,111,110,115,116,32]⟩),
 (104,⟨#[48,32,78,111,110,101,32,49,32,70,108,97,116,116,101,110,32,50,32,68,111,110,116,70,108,97,116,116,101,110,32]⟩),
 (103,⟨#[48,32,78,111,110,101,32,49,32,85,110,114,111,108,108,32,50,32,68,111,110,116,85,110,114,111,108,108,32]⟩)]
def pickT (l:List (Int × ByteArray)) (op:Int):ByteArray:=match l with
 | []=>⟨#[]⟩
 | (k,s) :: l=>if op==k then s else pickT l op
def rowT (op:Int):ByteArray:=if op≤71 then pickT firstT op else if op≤171 then pickT secondT op else pickT thirdT op
end
section
abbrev FSt:=Nat × (Nat→List UInt8)
def stepF (st:FSt) (c:UInt8):FSt:=if c=32 then (st.1+1,st.2) else (st.1,fun j=>if j=st.1 then st.2 j++[c] else st.2 j)
def fdS (l:List UInt8):FSt:=l.foldl stepF (0,fun _=>[])
theorem fdS_snoc (l:List UInt8) (c:UInt8):fdS (l++[c])=stepF (fdS l) c:=by simp [fdS,List.foldl_append]
theorem step_le (st:FSt) (c:UInt8):st.1≤(stepF st c).1:=by unfold stepF;split <;> simp
theorem fold_le (l:List UInt8) (st:FSt):st.1≤(l.foldl stepF st).1:=by
 induction l generalizing st with
 | nil=>exact Nat.le_refl _
 | cons c l ih=>exact Nat.le_trans (step_le st c) (ih _)
theorem fdS_take (l:List UInt8) (k:Nat):(fdS (l.take k)).1≤(fdS l).1:=by
 have h:fdS l=(l.drop k).foldl stepF (fdS (l.take k)):=by
  unfold fdS;rw [← List.foldl_append,List.take_append_drop]
 rw [h];exact fold_le _ _
theorem fdS_len (l:List UInt8):∀ j,((fdS l).2 j).length≤l.length:=by
 have h:∀ (l:List UInt8) (st:FSt) (n:Nat),(∀ j,(st.2 j).length≤n)→∀ j,((l.foldl stepF st).2 j).length≤n+l.length:=by
  intro l
  induction l with
  | nil=>intro st n h j;exact h j
  | cons c l ih =>
   intro st n h j;have:=ih (stepF st c) (n+1) (fun j=>by
    unfold stepF;have:=h j
    split
    ·simp only;omega
    ·simp only
     split
     ·rw [List.length_append,List.length_singleton];omega
     ·omega) j
   simp only [List.foldl_cons,List.length_cons];omega
 intro j;have:=h l (0,fun _=>[]) 0 (fun _=>Nat.le_refl _) j
 rw [Nat.zero_add] at this;exact this
def bs (l:List UInt8):ByteArray:=⟨l.toArray⟩
theorem bs_append (a b:List UInt8):bs a++bs b=bs (a++b):=by
 apply ByteArray.ext
 simp [bs]
theorem bs_size (a:List UInt8):(bs a).size=a.length:=by simp [bs,ByteArray.size]
end
section
structure FormI where
 name:List UInt8
 ty:Bool
 res:Bool
 fixed:List UInt8
 rest:List UInt8
 most:Int
 part:Int
def dg (l:List UInt8):Int:=match l with
 | []=>0
 | c :: _=>(c.toNat:Int)-48
def formF (F:Nat→List UInt8):FormI:=⟨F 0,(F 1).any (·==84),(F 1).any (·==82),F 2,F 3,dg (F 4),dg (F 5)⟩
def formT (s:ByteArray):FormI:=formF (fdS s.data.toList).2
def okRow (s:ByteArray):Bool :=
 s.data.toList.all (fun c=>decide (c.toNat<128))&&decide ((fdS s.data.toList).1=5)&&decide (s.size≤60) &&
  ((fdS s.data.toList).2 5).all (fun c=>decide (48≤c.toNat)&&decide (c.toNat≤57))&&decide (((fdS s.data.toList).2 5).length=1) &&
  ((fdS s.data.toList).2 4).all (fun c=>decide (48≤c.toNat)&&decide (c.toNat≤57))&&decide (((fdS s.data.toList).2 4).length≤1)
theorem first_ok:(firstT.all fun x=>okRow x.2)=true:=by decide +kernel
theorem second_ok:(secondT.all fun x=>okRow x.2)=true:=by decide +kernel
theorem third_ok:(thirdT.all fun x=>okRow x.2)=true:=by decide +kernel
theorem pickT_or {l:List (Int × ByteArray)} (h:(l.all fun x=>okRow x.2)=true) (op:Int):pickT l op=⟨#[]⟩∨okRow (pickT l op)=true:=by
 induction l with
 | nil=>exact .inl rfl
 | cons x l ih =>
  obtain ⟨k,s⟩:=x;simp only [List.all_cons,Bool.and_eq_true] at h;unfold pickT
  split
  ·exact .inr h.1
  ·exact ih h.2
theorem rowT_or (op:Int):rowT op=⟨#[]⟩∨okRow (rowT op)=true:=by
 unfold rowT
 split
 ·exact pickT_or first_ok op
 ·split
  ·exact pickT_or second_ok op
  ·exact pickT_or third_ok op
structure OkRow (s:ByteArray):Prop where
 ascii:∀ c∈s.data.toList,c.toNat<128
 sp:(fdS s.data.toList).1=5
 size:s.size≤60
 d5:∃ c:UInt8,(fdS s.data.toList).2 5=[c]∧48≤c.toNat∧c.toNat≤57
 d4:(fdS s.data.toList).2 4=[]∨∃ c:UInt8,(fdS s.data.toList).2 4=[c]∧48≤c.toNat∧c.toNat≤57
theorem okRow_is {s:ByteArray} (h:okRow s=true):OkRow s:=by
 unfold okRow at h;simp only [Bool.and_eq_true,decide_eq_true_eq,List.all_eq_true] at h;obtain ⟨⟨⟨⟨⟨⟨h1,h2⟩,h3⟩,h4⟩,h5⟩,h6⟩,h7⟩:=h;refine ⟨h1,h2,h3,?_,?_⟩
 ·match hl:(fdS s.data.toList).2 5,h5 with
  | [c],_=>exact ⟨c,rfl,h4 c (by rw [hl];simp)⟩
 ·match hl:(fdS s.data.toList).2 4,h7 with
  | [],_=>exact .inl rfl
  | [c],_=>exact .inr ⟨c,rfl,h6 c (by rw [hl];simp)⟩
def formOf (op:Int):Option FormI:=if (rowT op).size=0 then none else some (formT (rowT op))
end
section
def kindT (c:Int):Int:=if (c==105)=true then 1 else if (c==110)=true then 2 else if (c==115)=true then 3 else if (pickT namesT c).size=0 then 0 else 4
def fixedB (s:ByteArray) (i:Nat):Int:=if h:i<s.size then (s[i].toNat:Int) else 0
def restB (s2 s3:ByteArray) (m:Int) (i:Nat):Int :=
 if i<s2.size∨s3.size=0∨(0<m∧m*s3.size≤(i-s2.size:Nat)) then 0
 else if h:(i-s2.size) % s3.size<s3.size then (s3[(i-s2.size) % s3.size].toNat:Int) else 0
def letterB (s2 s3:ByteArray) (m:Int) (i:Nat):Int:=if fixedB s2 i=0 then restB s2 s3 m i else fixedB s2 i
def letterOf (op:Int) (i:Nat):Int:=match formOf op with
 | none=>0
 | some f=>letterB (bs f.fixed) (bs f.rest) f.most i
theorem letterB_none (i:Nat):letterB ⟨#[]⟩ ⟨#[]⟩ 0 i=0:=by
 unfold letterB;rw [show fixedB ⟨#[]⟩ i=0 from dif_neg (Nat.not_lt_zero _),if_pos rfl]
 unfold restB;rw [if_pos (.inr (.inl rfl))]
end
section
def numT (l:List UInt8):Int:=l.foldl (fun n c=>(10*n+((c.toNat:Int)-48)) % 4294967296) 0
theorem numT_snoc (l:List UInt8) (c:UInt8):numT (l++[c])=(10*numT l+((c.toNat:Int)-48)) % 4294967296:=by
 unfold numT;rw [List.foldl_append];rfl
theorem numT_bd (l:List UInt8):0≤numT l∧numT l<4294967296:=by
 have h:∀ (l:List UInt8) (n:Int),0≤n∧n<4294967296→0≤l.foldl (fun n c=>(10*n+((c.toNat:Int)-48)) % 4294967296) n∧l.foldl (fun n c=>(10*n+((c.toNat:Int)-48)) % 4294967296) n<4294967296:=by
  intro l
  induction l with
  | nil=>exact fun n h=>h
  | cons c l ih=>exact fun n _=>ih _ (by dsimp only;omega)
 exact h l 0 (by omega)
structure ESt where
 n:Int
 word:List UInt8
 num:Bool
 out:List (Int × List UInt8)
def stepE (s:ESt) (c:UInt8):ESt :=
 if c=32 then (if s.num then ⟨s.n,[],false,s.out++[(s.n,s.word)]⟩ else ⟨numT s.word,[],true,s.out⟩)
 else ⟨s.n,s.word++[c],s.num,s.out⟩
def estOf (l:List UInt8):ESt:=l.foldl stepE ⟨0,[],false,[]⟩
theorem estOf_snoc (l:List UInt8) (c:UInt8):estOf (l++[c])=stepE (estOf l) c:=by
 unfold estOf;rw [List.foldl_append];rfl
def enumsOf (letter:Int):List (Int × List UInt8):=(estOf (pickT namesT letter).data.toList).out
def enumB (letter n:Int):Bool:=(enumsOf letter).any fun x=>x.1==n
def enumN (letter n:Int):List UInt8:=match (enumsOf letter).find? (fun x=>x.1==n) with
 | none=>[]
 | some x=>x.2
theorem stepE_out (s:ESt) (c:UInt8):∃ r,(stepE s c).out=s.out++r:=by
 unfold stepE
 split
 ·split
  ·exact ⟨_,rfl⟩
  ·exact ⟨[],by simp⟩
 ·exact ⟨[],by simp⟩
theorem foldE_out (l:List UInt8):∀ (s:ESt),∃ r,(l.foldl stepE s).out=s.out++r:=by
 induction l with
 | nil=>exact fun s=>⟨[],by simp⟩
 | cons c l ih =>
  intro s;obtain ⟨r1,h1⟩:=stepE_out s c;obtain ⟨r2,h2⟩:=ih (stepE s c);exact ⟨r1++r2,by rw [List.foldl_cons,h2,h1,List.append_assoc]⟩
theorem estOf_out (l r:List UInt8):∃ t,(estOf (l++r)).out=(estOf l).out++t:=by
 unfold estOf;rw [List.foldl_append];exact foldE_out r _
theorem names_ascii:(namesT.all fun x=>x.2.data.toList.all (fun c=>decide (c.toNat<128))&&decide (x.2.size≤100))=true:=by decide +kernel
theorem pickN_ok (letter:Int):(∀ c∈(pickT namesT letter).data.toList,c.toNat<128)∧(pickT namesT letter).size≤100:=by
 have h:∀ l:List (Int × ByteArray),(l.all fun x=>x.2.data.toList.all (fun c=>decide (c.toNat<128))&&decide (x.2.size≤100))=true→(∀ c∈(pickT l letter).data.toList,c.toNat<128)∧(pickT l letter).size≤100:=by
  intro l
  induction l with
  | nil=>exact fun _=>⟨fun c hc=>by simp [pickT] at hc,Nat.zero_le _⟩
  | cons x l ih =>
   intro h;obtain ⟨k,s⟩:=x;simp only [List.all_cons,Bool.and_eq_true,List.all_eq_true,decide_eq_true_eq] at h;unfold pickT
   split
   ·exact h.1
   ·refine ih ?_;simp only [List.all_eq_true,Bool.and_eq_true,decide_eq_true_eq];exact h.2
 exact h _ names_ascii
theorem estOf_word (l:List UInt8) (h:∀ c∈l,c.toNat<128):∀ c∈(estOf l).word,c.toNat<128:=by
 have k:∀ (l:List UInt8) (s:ESt),(∀ c∈l,c.toNat<128)→(∀ c∈s.word,c.toNat<128)→∀ c∈(l.foldl stepE s).word,c.toNat<128:=by
  intro l
  induction l with
  | nil=>exact fun s _ h=>h
  | cons d l ih =>
   intro s h1 h2;refine ih _ (fun c hc=>h1 c (by simp [hc])) (fun c hc=>?_)
   unfold stepE at hc
   split at hc
   ·split at hc <;> simp at hc
   ·rcases List.mem_append.1 hc with hc | hc
    ·exact h2 c hc
    ·rw [List.mem_singleton] at hc;rw [hc];exact h1 d (by simp)
 exact k l _ h (fun c hc=>by simp at hc)
theorem estOf_len (l:List UInt8):(estOf l).word.length≤l.length:=by
 have k:∀ (l:List UInt8) (s:ESt),(l.foldl stepE s).word.length≤s.word.length+l.length:=by
  intro l
  induction l with
  | nil=>exact fun s=>by simp
  | cons d l ih =>
   intro s;refine Nat.le_trans (ih _) ?_;have:(stepE s d).word.length≤s.word.length+1:=by
    unfold stepE
    split
    ·split <;> simp
    ·simp
   simp only [List.length_cons];omega
 have:=k l ⟨0,[],false,[]⟩;simpa [estOf] using this
end
end Go.Proofs.YtdebjkiilnhgpaaGreatDoor
