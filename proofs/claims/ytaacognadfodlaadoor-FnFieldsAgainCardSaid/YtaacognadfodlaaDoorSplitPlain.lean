/- The fields of a line, plainly: what strings.Split cuts at spaces, the empty pieces left out; and the steps by which the reference's loop finds them. -/
import Derived.Lib.Split
import Derived.Lib.SplitLaws
import Derived.Lib.CountLaws
import Derived.WideShapes
namespace Go.Proofs.YtaacognadfodlaaDoor
open Go.Lib

abbrev sp : ByteArray := ⟨#[32]⟩
def fieldsB (s : ByteArray) : List ByteArray := (splitB sp 0 (countB s sp) s).filter (fun p => p.size != 0)
theorem occ_sp (l : List UInt8) (j : Nat) : occAt l [32] j = (l[j]? == some 32) := by
  unfold occAt
  rcases h : l.drop j with _ | ⟨b, t⟩
  · have : l[j]? = none := by rw [List.getElem?_eq_none_iff]; exact List.drop_eq_nil_iff.1 h
    rw [this]; rfl
  · have : l[j]? = some b := by rw [← List.head?_drop, h]; rfl
    rw [this]
    simp only [List.isPrefixOf, Bool.and_true]
    rw [Bool.eq_iff_iff, beq_iff_eq, beq_iff_eq]
    exact ⟨fun e => by rw [e], fun e => by injection e with e; exact e.symm⟩
theorem idx_none {l : List UInt8} (h : ∀ j : Nat, l[j]? ≠ some 32) : index l [32] = -1 :=
  index_none fun j _ => by rw [occ_sp]; simpa using h j
theorem idx_at {l : List UInt8} {i : Nat} (hi : l[i]? = some 32) (h : ∀ j, j < i → l[j]? ≠ some 32) : index l [32] = (i : Int) :=
  index_first (by have := (List.getElem?_eq_some_iff.1 hi).1; omega) (by rw [occ_sp, hi]; rfl) fun j hj => by rw [occ_sp]; simpa using h j hj
theorem f_none {s : ByteArray} (h : ∀ j : Nat, s.data.toList[j]? ≠ some 32) : fieldsB s = if s.size = 0 then [] else [s] := by
  have hi : indexB s sp = -1 := idx_none h
  unfold fieldsB
  rw [countB_miss s sp hi, splitB_miss _ _ _ _ hi]
  by_cases e : s.size = 0
  · simp [e]
  · simp [e]
theorem f_hit {s : ByteArray} {i : Nat} (hi : s.data.toList[i]? = some 32) (h : ∀ j, j < i → s.data.toList[j]? ≠ some 32) : fieldsB s = (if i = 0 then [] else [s.extract 0 i]) ++ fieldsB (s.extract (i + 1) s.size) := by
  have hx : indexB s sp = (i : Int) := idx_at hi h
  have hlt : i < s.size := by have := (List.getElem?_eq_some_iff.1 hi).1; rw [size_eq]; exact this
  unfold fieldsB
  rw [countB_hit s sp i (by decide) hx, Nat.add_comm 1, splitB_hit _ _ _ _ i hx, List.filter_cons, show sp.size = 1 from rfl, Nat.add_zero]
  have hz : (s.extract 0 i).size = i := by rw [ByteArray.size_extract]; omega
  by_cases e : i = 0
  · subst e
    rw [hz]
    simp
  · rw [hz]
    simp [e]
theorem ex_data (s : ByteArray) (a b : Nat) : (s.extract a b).data.toList = (s.data.toList.drop a).take (b - a) := by
  rw [extract_data]
theorem ex_get {s : ByteArray} {b j : Nat} : (s.extract b s.size).data.toList[j]? = s.data.toList[b + j]? := by
  rw [extract_to_end, List.getElem?_drop]
/-- at a space -/
theorem step_sp {s : ByteArray} {out : List ByteArray} {b i : Nat} (hb : b ≤ i) (hi : s.data.toList[i]? = some 32) (hno : ∀ j, b ≤ j → j < i → s.data.toList[j]? ≠ some 32) (h : out ++ fieldsB (s.extract b s.size) = fieldsB s) :
    (out ++ if b < i then [s.extract b i] else []) ++ fieldsB (s.extract (i + 1) s.size) = fieldsB s := by
  have hlt : i < s.size := by have := (List.getElem?_eq_some_iff.1 hi).1; rw [size_eq]; exact this
  rw [← h, f_hit (s := s.extract b s.size) (i := i - b) (by rw [ex_get, show b + (i - b) = i by omega]; exact hi) (fun j hj => by rw [ex_get]; exact hno _ (by omega) (by omega))]
  have e1 : (s.extract b s.size).extract 0 (i - b) = s.extract b i := by
    apply WideShapes.bytes_inj
    rw [ex_data, ex_data, ex_data]
    rw [List.drop_zero, List.take_take, show min (i - b - 0) (s.size - b) = i - b by omega]
  have e2 : (s.extract b s.size).extract (i - b + 1) (s.extract b s.size).size = s.extract (i + 1) s.size := by
    apply WideShapes.bytes_inj
    rw [extract_to_end, extract_to_end, extract_to_end, List.drop_drop, show b + (i - b + 1) = i + 1 by omega]
  rw [e1, e2, List.append_assoc]
  by_cases e : b < i
  · rw [if_pos e, if_neg (by omega)]
  · rw [if_neg e, if_pos (by omega)]
/-- at the end -/
theorem step_end {s : ByteArray} {out : List ByteArray} {b : Nat} (hb : b ≤ s.size) (hno : ∀ j, b ≤ j → j < s.size → s.data.toList[j]? ≠ some 32) (h : out ++ fieldsB (s.extract b s.size) = fieldsB s) :
    (out ++ if b < s.size then [s.extract b s.size] else []) = fieldsB s := by
  rw [← h, f_none (s := s.extract b s.size) (fun j => by
    rw [ex_get]
    by_cases hj : b + j < s.size
    · exact hno _ (by omega) hj
    · rw [List.getElem?_eq_none (by rw [← size_eq]; omega)]; simp)]
  have hz : (s.extract b s.size).size = s.size - b := by rw [ByteArray.size_extract]; omega
  rw [hz]
  by_cases e : b < s.size
  · rw [if_pos e, if_neg (by omega)]
  · rw [if_neg e, if_pos (by omega)]
theorem whole (s : ByteArray) : s.extract 0 s.size = s := by
  apply WideShapes.bytes_inj
  rw [extract_to_end, List.drop_zero]
def badAt (s : ByteArray) : Bool := s.data.toList.any fun c => decide (c.toNat < 32 ∨ 126 < c.toNat)
end Go.Proofs.YtaacognadfodlaaDoor
