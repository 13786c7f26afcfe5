/- Plain: words and their bytes. -/
import Derived.Test.YtdebjkiilnhgpaaGreatDoorCTB
import Derived.Laws.BitsAllLaws
import Derived.Laws.BitsLemmas
import Derived.Laws.IdiomStrings
namespace Go.Proofs.YtdebjkiilnhgpaaGreatDoor
section
def shr (x:Int):Nat→Int
 | 0=>x
 | j+1=>shr x j / 256
def byt (x:Int) (j:Nat):Int:=shr x j % 256
def byts (x:Int):Nat→List Int
 | 0=>[]
 | m+1=>byts x m++[byt x m]
def joined (l:List Int):List Int:=l.flatMap fun x=>byts x 4
def wbyte (l:List Int) (k:Nat):Int:=byt (ix l (k / 4)) (k % 4)
end
section
theorem wraps_u32 (n:Int) (h0:0≤n) (h1:n<2 ^ 32):IntKind.u32.wrap n=n:=by
 rw [IntKind.wrap_u32];omega
theorem u32_join (i:Nat) (x y:Int) (hx0:0≤x) (hx:x % 2 ^ i=0) (hx1:x<4294967296) (hy0:0≤y) (hy:y<2 ^ i) (hy1:y<4294967296):bits .or .u32 x y=x+y :=
 bits_join .u32 32 (by decide) wraps_u32 i x y hx0 hx (by omega) hy0 hy (by omega)
end
section
def top (l:List Int) (i:Nat):Nat→Int
 | 0=>0
 | m+1=>top l i m*256+ix l (i+(3-m))
def word (l:List Int) (i:Nat):Int:=top l i 4
def glue (l:List Int):Nat→List Int
 | 0=>[]
 | m+1=>glue l m++[word l (4*m)]
theorem glue_length (l:List Int) (m:Nat):(glue l m).length=m:=by induction m with
 | zero=>rfl
 | succ m ih=>simp [glue,ih]
theorem glue_ix {l:List Int} {m j:Nat} (h:j<m):ix (glue l m) j=word l (4*j):=by
 induction m with
 | zero=>omega
 | succ m ih =>
  rw [glue]
  rcases Nat.lt_or_ge j m with hj | hj
  ·rw [ix_append_left (by rw [glue_length];exact hj),ih hj]
  ·obtain rfl:j=m:=by omega
   rw [ix_append_right (by rw [glue_length];omega),glue_length,Nat.sub_self]
   simp [ix]
theorem word_eq (l:List Int) (i:Nat):word l i=ix l i+256*ix l (i+1)+65536*ix l (i+2)+16777216*ix l (i+3):=by
 simp only [word,top];have e0:i+(3-3)=i:=by omega
 have e1:i+(3-2)=i+1:=by omega
 have e2:i+(3-1)=i+2:=by omega
 have e3:i+(3-0)=i+3:=by omega
 rw [e0,e1,e2,e3];omega
end
section
end
section
open Go.RowKit Go.WideShapes
def toU8 (l:List Int):List UInt8:=l.map fun x=>UInt8.ofNat x.toNat
def str (l:List Int):ByteArray:=⟨(toU8 l).toArray⟩
def stop (l:List Int):Nat:=((joined l).takeWhile (· != 0)).length
def textE (l:List Int):Int:=if stop l=4*l.length then 11 else if shr (ix l (stop l / 4)) (stop l % 4)≠0 then 12 else 0
def textN (l:List Int):Int:=if textE l=0 then (stop l / 4+1:Nat) else 0
def textS (l:List Int):List Int:=if textE l=0 then (joined l).take (stop l) else []
def Texts (l:List Int) (w:World) (e:Ending) (w':World):Prop :=
 e=.returned (.tuple #[.string (str (textS l)),.int .i64 (textN l),.int .i64 (textE l)])∧Below w.heap.size w w'
theorem Texts.mk {l:List Int} {w w':World} {s:List Int} {n e:Int} (h:textE l=e∧textN l=n∧textS l=s) (hb:Below w.heap.size w w'):Texts l w (.returned (.tuple #[.string (str s),.int .i64 n,.int .i64 e])) w':=by
 refine ⟨?_,hb⟩;rw [h.1,h.2.1,h.2.2]
def NoZero (l:List Int) (p:Nat):Prop:=∀ k,k<p→wbyte l k≠0
theorem NoZero.zero (l:List Int):NoZero l 0:=fun k hk=>by omega
theorem NoZero.succ {l:List Int} {p:Nat} (h:NoZero l p) (hp:wbyte l p≠0):NoZero l (p+1):=fun k hk=>by
 rcases Nat.lt_or_ge k p with hk' | hk'
 ·exact h k hk'
 ·obtain rfl:k=p:=by omega
  exact hp
def Pads (x:Int) (r q:Nat):Prop:=shr x r=0 ↔ shr x q=0
theorem Pads.step {x:Int} {r q:Nat} (h:Pads x r q) (hz:byt x q=0):Pads x r (q+1):=by
 unfold Pads at *;unfold byt at hz;rw [h];simp only [shr];omega
theorem Pads.fine {x:Int} {r:Nat} (h:Pads x r 4) (hx:0≤x∧x<4294967296):shr x r=0:=by
 refine h.2 ?_;simp only [shr];omega
end
section
def bl (s:ByteArray):List Int:=s.data.toList.map fun b=>(b.toNat:Int)
theorem bl_length (s:ByteArray):(bl s).length=s.size:=by simp [bl]
theorem bl_ix (s:ByteArray) {k:Nat} (h:k<s.size):ix (bl s) k=(s[k].toNat:Int):=by
 rw [ix_of (by rw [bl_length];exact h)]
 simp [bl]
 rfl
theorem bl_under (s:ByteArray):Under 256 (bl s):=fun x hx=>by
 obtain ⟨b,_,rfl⟩:=List.mem_map.1 hx;have:=b.toNat_lt;omega
def Full (l:List Int) (k:Nat):Prop:=∀ j,j<k→ix l j≠0
theorem Full.zero (l:List Int):Full l 0:=fun j hj=>by omega
theorem Full.succ {l:List Int} {k:Nat} (h:Full l k) (hk:ix l k≠0):Full l (k+1):=fun j hj=>by
 rcases Nat.lt_or_ge j k with hj' | hj'
 ·exact h j hj'
 ·obtain rfl:j=k:=by omega
  exact hk
def roomOf (l:List Int):Nat:=l.length / 4+1
def ofE (l:List Int):Int:=if (0:Int)∈l then 13 else if 65535<roomOf l then 4 else 0
def part (l:List Int) (k:Nat):List Int:=glue (mid l (4*roomOf l) k) (roomOf l)
def ofW (l:List Int):List Int:=if ofE l=0 then part l l.length else []
theorem of_nul {l:List Int} {k:Nat} (h:k<l.length) (h0:ix l k=0):ofE l=13∧ofW l=[]:=by
 have hm:(0:Int)∈l:=by rw [← h0];exact ix_mem h
 have e:ofE l=13:=by simp [ofE,hm]
 exact ⟨e,by simp [ofW,e]⟩
theorem full_mem {l:List Int} (h:Full l l.length):¬ (0:Int)∈l:=fun hm=>by
 obtain ⟨k,hk,e⟩:=List.getElem_of_mem hm;exact h k hk (by rw [ix_of hk];exact e)
theorem of_large {l:List Int} (h:Full l l.length) (hr:65535<roomOf l):ofE l=4∧ofW l=[]:=by
 have e:ofE l=4:=by simp [ofE,full_mem h,hr]
 exact ⟨e,by simp [ofW,e]⟩
theorem of_ok {l:List Int} (h:Full l l.length) (hr:¬ 65535<roomOf l):ofE l=0∧ofW l=part l l.length:=by
 have e:ofE l=0:=by simp [ofE,full_mem h,hr]
 exact ⟨e,by simp [ofW,e]⟩
theorem mid_ix_lt {l:List Int} {n k j:Nat} (hj:j<k) (hk:k≤l.length):ix (mid l n k) j=ix l j:=by
 unfold mid;rw [ix_append_left (by rw [List.length_take];omega),ix_take hj]
theorem mid_ix_ge {l:List Int} {n k j:Nat} (hj:k≤j) (hk:k≤l.length):ix (mid l n k) j=0:=by
 unfold mid;have hl:(l.take k).length=k:=by rw [List.length_take];omega
 rw [ix_append_right (by omega),hl]
 rcases Nat.lt_or_ge (j-k) (n-k) with h | h
 ·exact ix_replicate h
 ·exact ix_out (by simpa using h)
theorem part_length (l:List Int) (k:Nat):(part l k).length=roomOf l:=glue_length _ _
theorem u32_join' (i:Nat) (x y:Int) (hx0:0≤x) (hx:x % 2 ^ i=0) (hx1:x<4294967296) (hy0:0≤y) (hy:y<2 ^ i) (hy1:y<4294967296):bits .or .u32 y x=x+y:=by
 rw [← u32_join i x y hx0 hx hx1 hy0 hy hy1];simp only [bits];rw [BitVec.or_comm]
theorem word_or {l:List Int} (h:Under 256 l) {n q r:Nat} (hr:r<4) (hk:4*q+r<l.length) :
  bits .or .u32 (word (mid l n (4*q+r)) (4*q)) (ix l (4*q+r)*256 ^ r)=word (mid l n (4*q+r+1)) (4*q):=by
 have b:=h.ix (by decide) (4*q+r)
 have c0:=h.ix (by decide) (4*q);have c1:=h.ix (by decide) (4*q+1);have c2:=h.ix (by decide) (4*q+2)
 rw [word_eq,word_eq]
 match r,hr with
 | 0,_ =>
  simp only [Nat.add_zero] at *;rw [mid_ix_ge (k:=4*q) (j:=4*q) (by omega) (by omega),mid_ix_ge (k:=4*q) (j:=4*q+1) (by omega) (by omega),mid_ix_ge (k:=4*q) (j:=4*q+2) (by omega) (by omega),mid_ix_ge (k:=4*q) (j:=4*q+3) (by omega) (by omega),
   mid_ix_lt (k:=4*q+1) (j:=4*q) (by omega) (by omega),mid_ix_ge (k:=4*q+1) (j:=4*q+1) (by omega) (by omega),mid_ix_ge (k:=4*q+1) (j:=4*q+2) (by omega) (by omega),mid_ix_ge (k:=4*q+1) (j:=4*q+3) (by omega) (by omega)]
  rw [u32_join' 0 _ _ (by omega) (by omega) (by omega) (by omega) (by omega) (by omega)]
  omega
 | 1,_ =>
  rw [mid_ix_lt (k:=4*q+1) (j:=4*q) (by omega) (by omega),mid_ix_ge (k:=4*q+1) (j:=4*q+1) (by omega) (by omega),mid_ix_ge (k:=4*q+1) (j:=4*q+2) (by omega) (by omega),mid_ix_ge (k:=4*q+1) (j:=4*q+3) (by omega) (by omega),
   mid_ix_lt (k:=4*q+1+1) (j:=4*q) (by omega) (by omega),mid_ix_lt (k:=4*q+1+1) (j:=4*q+1) (by omega) (by omega),mid_ix_ge (k:=4*q+1+1) (j:=4*q+2) (by omega) (by omega),mid_ix_ge (k:=4*q+1+1) (j:=4*q+3) (by omega) (by omega)]
  rw [u32_join' 8 _ _ (by omega) (by omega) (by omega) (by omega) (by omega) (by omega)]
  omega
 | 2,_ =>
  rw [mid_ix_lt (k:=4*q+2) (j:=4*q) (by omega) (by omega),mid_ix_lt (k:=4*q+2) (j:=4*q+1) (by omega) (by omega),mid_ix_ge (k:=4*q+2) (j:=4*q+2) (by omega) (by omega),mid_ix_ge (k:=4*q+2) (j:=4*q+3) (by omega) (by omega),
   mid_ix_lt (k:=4*q+2+1) (j:=4*q) (by omega) (by omega),mid_ix_lt (k:=4*q+2+1) (j:=4*q+1) (by omega) (by omega),mid_ix_lt (k:=4*q+2+1) (j:=4*q+2) (by omega) (by omega),mid_ix_ge (k:=4*q+2+1) (j:=4*q+3) (by omega) (by omega)]
  rw [u32_join' 16 _ _ (by omega) (by omega) (by omega) (by omega) (by omega) (by omega)]
  omega
 | 3,_ =>
  rw [mid_ix_lt (k:=4*q+3) (j:=4*q) (by omega) (by omega),mid_ix_lt (k:=4*q+3) (j:=4*q+1) (by omega) (by omega),mid_ix_lt (k:=4*q+3) (j:=4*q+2) (by omega) (by omega),mid_ix_ge (k:=4*q+3) (j:=4*q+3) (by omega) (by omega),
   mid_ix_lt (k:=4*q+3+1) (j:=4*q) (by omega) (by omega),mid_ix_lt (k:=4*q+3+1) (j:=4*q+1) (by omega) (by omega),mid_ix_lt (k:=4*q+3+1) (j:=4*q+2) (by omega) (by omega),mid_ix_lt (k:=4*q+3+1) (j:=4*q+3) (by omega) (by omega)]
  rw [u32_join' 24 _ _ (by omega) (by omega) (by omega) (by omega) (by omega) (by omega)]
  omega
theorem part_step {l:List Int} (h:Under 256 l) {q r:Nat} (hr:r<4) (hk:4*q+r<l.length) :
  (part l (4*q+r)).set q (bits .or .u32 (ix (part l (4*q+r)) q) (ix l (4*q+r)*256 ^ r))=part l (4*q+r+1):=by
 have hq:q<roomOf l:=by unfold roomOf;omega
 refine ext_ix (by rw [List.length_set,part_length,part_length]) fun j hj=>?_
 rw [List.length_set,part_length] at hj;have e1:ix (part l (4*q+r)) q=word (mid l (4*roomOf l) (4*q+r)) (4*q):=glue_ix hq
 by_cases hjq:q=j
 ·subst hjq;rw [ix_set_same (by rw [part_length];exact hq),e1,word_or h hr hk]
  exact (glue_ix hq).symm
 ·rw [ix_set_other hjq];unfold part;rw [glue_ix hj,glue_ix hj,word_eq,word_eq];have e:∀ t,t<4→ix (mid l (4*roomOf l) (4*q+r)) (4*j+t)=ix (mid l (4*roomOf l) (4*q+r+1)) (4*j+t):=fun t ht=>by
   rcases Nat.lt_or_ge (4*j+t) (4*q+r) with h' | h'
   ·rw [mid_ix_lt h' (by omega),mid_ix_lt (by omega) (by omega)]
   ·rw [mid_ix_ge h' (by omega),mid_ix_ge (by omega) (by omega)]
  have e0:=e 0 (by omega)
  rw [Nat.add_zero] at e0;rw [e0,e 1 (by omega),e 2 (by omega),e 3 (by omega)]
theorem part_zero (l:List Int):part l 0=List.replicate (roomOf l) 0:=by
 refine ext_ix (by rw [part_length,List.length_replicate]) fun j hj=>?_
 rw [part_length] at hj;unfold part;rw [glue_ix hj,word_eq,ix_replicate hj,mid_ix_ge (by omega) (by omega),mid_ix_ge (by omega) (by omega),mid_ix_ge (by omega) (by omega),mid_ix_ge (by omega) (by omega)]
 rfl
theorem shift_eq {x:Int} (h0:0≤x) (h1:x<256) {r:Nat} (hr:r<4):x % 4294967296*2 ^ (8*r) % 4294967296=x*256 ^ r:=by
 match r,hr with
 | 0,_=>simp;omega
 | 1,_=>simp;omega
 | 2,_=>simp;omega
 | 3,_=>simp;omega
theorem part_step' {l:List Int} (h:Under 256 l) {k:Nat} (hk:k<l.length) :
  (part l k).set (k / 4) (bits .or .u32 (ix (part l k) (k / 4)) (ix l k % 4294967296*2 ^ (8*(k % 4)) % 4294967296))=part l (k+1):=by
 have hx:=h.ix (by decide) k
 have e:4*(k / 4)+k % 4=k:=by omega
 have hs:=part_step h (q:=k / 4) (r:=k % 4) (by omega) (by rw [e];exact hk)
 rw [e] at hs;rw [shift_eq hx.1 hx.2 (by omega)]
 exact hs
end
end Go.Proofs.YtdebjkiilnhgpaaGreatDoor
