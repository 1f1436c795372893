/- Fields joined by single spaces have the same fields, plainly. -/
import Derived.Test.YtaacognadfodlaaDoorSplitRef
namespace Go.Proofs.YtaacognadfodlaaDoor
open Go.Lib

/-- what a field is: not empty, without a space, of bytes that are allowed, not longer than m -/
def Fld (m : Nat) (p : ByteArray) : Prop := p.size ≠ 0 ∧ p.size ≤ m ∧ ∀ (j : Nat) (c : UInt8), p.data.toList[j]? = some c → c ≠ 32 ∧ ¬ (c.toNat < 32 ∨ 126 < c.toNat)
theorem Fld.more {m m' : Nat} {p : ByteArray} (h : Fld m p) (hm : m ≤ m') : Fld m' p := ⟨h.1, Nat.le_trans h.2.1 hm, h.2.2⟩
theorem first_sp : ∀ (l : List UInt8), (∀ j : Nat, l[j]? ≠ some 32) ∨ ∃ i : Nat, l[i]? = some 32 ∧ ∀ j, j < i → l[j]? ≠ some 32
  | [] => .inl fun j => by simp
  | b :: l => by
    by_cases e : b = 32
    · exact .inr ⟨0, by simp [e], fun j hj => absurd hj (by omega)⟩
    · rcases first_sp l with h | ⟨i, hi, h⟩
      · left
        intro j
        cases j with
        | zero => simpa using e
        | succ j => simpa using h j
      · right
        refine ⟨i + 1, by simpa using hi, fun j hj => ?_⟩
        cases j with
        | zero => simpa using e
        | succ j => simpa using h j (by omega)
theorem fields_all : ∀ (n : Nat) (s : ByteArray), s.size ≤ n → (∀ (j : Nat) (c : UInt8), s.data.toList[j]? = some c → ¬ (c.toNat < 32 ∨ 126 < c.toNat)) → ∀ p ∈ fieldsB s, Fld s.size p := by
  intro n
  induction n with
  | zero =>
    intro s hs hg p hp
    have hl : s.data.toList = [] := List.eq_nil_of_length_eq_zero (by rw [bytes_size]; omega)
    rw [f_none (fun j => by rw [hl]; simp), if_pos (by omega)] at hp
    cases hp
  | succ n ih =>
    intro s hs hg p hp
    rcases first_sp s.data.toList with h | ⟨i, hi, h⟩
    · rw [f_none h] at hp
      by_cases e : s.size = 0
      · rw [if_pos e] at hp; cases hp
      · rw [if_neg e] at hp
        simp only [List.mem_cons, List.not_mem_nil, or_false] at hp
        subst hp
        exact ⟨e, Nat.le_refl _, fun j c hc => ⟨fun e => h j (by rw [hc, e]), hg j c hc⟩⟩
    · have hlt : i < s.size := by have := (List.getElem?_eq_some_iff.1 hi).1; rw [bytes_size] at this; exact this
      rw [f_hit hi h] at hp
      rcases List.mem_append.1 hp with hp | hp
      · by_cases e : i = 0
        · rw [if_pos e] at hp; cases hp
        · rw [if_neg e] at hp
          simp only [List.mem_cons, List.not_mem_nil, or_false] at hp
          subst hp
          have hz : (s.extract 0 i).size = i := by rw [ByteArray.size_extract]; omega
          refine ⟨by omega, by omega, fun j c hc => ?_⟩
          rw [ex_data, List.drop_zero, List.getElem?_take] at hc
          split at hc
          · exact ⟨fun e => h j (by omega) (by rw [hc, e]), hg j c hc⟩
          · cases hc
      · have hz : (s.extract (i + 1) s.size).size = s.size - (i + 1) := by rw [ByteArray.size_extract]; omega
        refine (ih (s.extract (i + 1) s.size) (by omega) (fun j c hc => ?_) p hp).more (by omega)
        rw [ex_get] at hc
        exact hg _ c hc

/-- the fields, each followed by a space -/
def joinT (ps : List ByteArray) : List UInt8 := ps.flatMap fun p => p.data.toList ++ [32]
theorem joinT_step {ps : List ByteArray} {k : Nat} {p : ByteArray} (h : ps[k]? = some p) : joinT (ps.take (k + 1)) = joinT (ps.take k) ++ p.data.toList ++ [32] := by
  rw [List.take_add_one, h]
  unfold joinT
  rw [List.flatMap_append]
  simp
theorem joinT_good {m : Nat} {ps : List ByteArray} (h : ∀ p ∈ ps, Fld m p) : ∀ c ∈ joinT ps, ¬ (c.toNat < 32 ∨ 126 < c.toNat) := by
  intro c hc
  unfold joinT at hc
  obtain ⟨p, hp, hc⟩ := List.mem_flatMap.1 hc
  rcases List.mem_append.1 hc with hc | hc
  · obtain ⟨j, hj⟩ := List.getElem?_of_mem hc
    exact ((h p hp).2.2 j c hj).2
  · simp only [List.mem_cons, List.not_mem_nil, or_false] at hc
    subst hc
    decide
theorem joinT_len {m : Nat} : ∀ {ps : List ByteArray}, (∀ p ∈ ps, Fld m p) → (joinT ps).length ≤ ps.length * (m + 1)
  | [], _ => by simp [joinT]
  | p :: ps, h => by
    have h1 := joinT_len (fun q hq => h q (List.mem_cons_of_mem _ hq))
    have h2 := (h p (List.mem_cons_self ..)).2.1
    have e : (joinT (p :: ps)).length = p.size + 1 + (joinT ps).length := by
      unfold joinT
      rw [List.flatMap_cons, List.length_append, List.length_append, bytes_size]
      rfl
    rw [e, List.length_cons, Nat.add_mul]
    omega
theorem fields_join {m : Nat} : ∀ {ps : List ByteArray}, (∀ p ∈ ps, Fld m p) → fieldsB ⟨(joinT ps).toArray⟩ = ps
  | [], _ => by
    rw [f_none (fun j => by simp [joinT]), if_pos (by rfl)]
  | p :: ps, h => by
    have ih := fields_join (fun q hq => h q (List.mem_cons_of_mem _ hq))
    obtain ⟨h0, _, h2⟩ := h p (List.mem_cons_self ..)
    have e : (joinT (p :: ps)) = p.data.toList ++ 32 :: joinT ps := by
      unfold joinT
      rw [List.flatMap_cons, List.append_assoc]
      rfl
    have hl : p.data.toList.length = p.size := bytes_size p
    rw [e, f_hit (i := p.size) (by
      show (p.data.toList ++ 32 :: joinT ps).toArray.toList[p.size]? = some 32
      rw [List.getElem?_append_right (by omega)]
      simp [hl]) (fun j hj hc => by
      have hc' : (p.data.toList ++ 32 :: joinT ps)[j]? = some 32 := hc
      rw [List.getElem?_append_left (by omega)] at hc'
      exact (h2 j 32 hc').1 rfl), if_neg h0]
    have e1 : (⟨(p.data.toList ++ 32 :: joinT ps).toArray⟩ : ByteArray).extract 0 p.size = p := by
      apply WideShapes.bytes_inj
      rw [ex_data]
      show ((p.data.toList ++ 32 :: joinT ps).drop 0).take (p.size - 0) = p.data.toList
      rw [List.drop_zero, Nat.sub_zero, ← hl, List.take_left]
    have e2 : (⟨(p.data.toList ++ 32 :: joinT ps).toArray⟩ : ByteArray).extract (p.size + 1) (⟨(p.data.toList ++ 32 :: joinT ps).toArray⟩ : ByteArray).size = ⟨(joinT ps).toArray⟩ := by
      apply WideShapes.bytes_inj
      rw [extract_to_end]
      show (p.data.toList ++ 32 :: joinT ps).drop (p.size + 1) = joinT ps
      rw [← hl, List.drop_append, List.drop_eq_nil_of_le (by omega)]
      simp
    rw [e1, e2, ih]
    rfl
/-- the statement, plainly -/
theorem again {s : ByteArray} (h : spOk s = true) : (∀ p ∈ fieldsB s, Fld 600 p) ∧ (fieldsB s).length ≤ 24 ∧ ((joinT (fieldsB s)).length ≤ 600 → spOk ⟨(joinT (fieldsB s)).toArray⟩ = true ∧ spF ⟨(joinT (fieldsB s)).toArray⟩ = fieldsB s) := by
  have h' := h
  simp only [spOk, Bool.and_eq_true, decide_eq_true_eq] at h'
  obtain ⟨⟨h1, h2⟩, h3⟩ := h'
  have hb : badAt s = false := by simpa using h2
  have hg : ∀ (j : Nat) (c : UInt8), s.data.toList[j]? = some c → ¬ (c.toNat < 32 ∨ 126 < c.toNat) := by
    intro j c hc
    unfold badAt at hb
    rw [List.any_eq_false] at hb
    simpa using hb c (List.mem_of_getElem? hc)
  have hf : ∀ p ∈ fieldsB s, Fld 600 p := fun p hp => (fields_all _ s (Nat.le_refl _) hg p hp).more h1
  refine ⟨hf, h3, fun hl => ?_⟩
  have hj := fields_join hf
  have hok : spOk ⟨(joinT (fieldsB s)).toArray⟩ = true := by
    refine sp_good (by show (joinT (fieldsB s)).toArray.size ≤ 600; simpa using hl) (fun k c hc => joinT_good hf c (List.mem_of_getElem? hc)) (by rw [hj]; exact h3)
  exact ⟨hok, by rw [sp_yes hok, hj]⟩
end Go.Proofs.YtaacognadfodlaaDoor
