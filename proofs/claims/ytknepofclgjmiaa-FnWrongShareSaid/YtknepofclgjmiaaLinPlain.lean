/- Sums of shares, and shares of which one is wrong. No program in sight. -/
import Derived.Test.YtknepofclgjmiaaInterp
import Derived.Test.YtknepofclgjmiaaShares
namespace Go.Proofs.Ytknepofclgjmiaa
open Go.RowKit

theorem polyV_add (x : Int) : ∀ xs ys : List Int, xs.length = ys.length → polyV x (List.zipWith (· + ·) xs ys) = polyV x xs + polyV x ys
  | [], [], _ => by simp [polyV]
  | [], _ :: _, h => by simp at h
  | _ :: _, [], h => by simp at h
  | a :: xs, b :: ys, h => by
    simp only [List.zipWith_cons_cons, polyV]
    rw [polyV_add x xs ys (by simpa using h), Int.add_mul]
    omega
theorem share_add {p : Int} {cs ds S T : List Int} {n : Nat} (hp : primes4 p) (h1 : ShareOf p cs n S) (h2 : ShareOf p ds n T) (hl : cs.length = ds.length) : ShareOf p (List.zipWith (· + ·) cs ds) n (addF p S T) := by
  have hf := primes4_field hp
  rw [addF_yes ⟨h1.1.trans h2.1.symm, h1.el hf, h2.el hf⟩]
  refine ⟨by rw [List.length_zipWith, h1.1, h2.1]; omega, fun i hi => ?_⟩
  have hS := h1.2 i hi
  have hT := h2.2 i hi
  have e : (List.zipWith (fadd p) S T).getD i 0 = fadd p (S.getD i 0) (T.getD i 0) := by
    have l1 := h1.1
    have l2 := h2.1
    simp [List.getD_eq_getElem?_getD, List.getElem?_zipWith, List.getElem?_eq_getElem (show i < S.length by omega), List.getElem?_eq_getElem (show i < T.length by omega)]
  rw [e]
  refine ⟨el_fadd hS.1 hT.1, ?_⟩
  rw [fadd_eq hS.1 hT.1, polyV_add _ _ _ hl, Int.emod_emod_of_dvd _ (Int.dvd_refl p), Int.add_emod, hS.2, hT.2, ← Int.add_emod]
theorem sumN_set {f g : Nat → Int} {n i : Nat} (hi : i < n) (h : ∀ j, j ≠ i → f j = g j) : sumN f n = sumN g n + (f i - g i) := by
  induction n with
  | zero => omega
  | succ n ih =>
    show sumN f n + f n = sumN g n + g n + (f i - g i)
    rcases Nat.lt_or_ge i n with hlt | hge
    · rw [ih hlt, h n (by omega)]; omega
    · obtain rfl : i = n := by omega
      have : sumN f i = sumN g i := sumN_congr fun j hj => h j (by omega)
      omega
theorem getD_set {xs : List Int} {i j : Nat} {v : Int} : (xs.set i v).getD j 0 = if i = j ∧ j < xs.length then v else xs.getD j 0 := by
  rw [List.getD_eq_getElem?_getD, List.getElem?_set, List.getD_eq_getElem?_getD]
  by_cases h : i = j
  · subst h
    by_cases h2 : i < xs.length <;> simp [h2]
  · simp [h]
theorem lag_set {p t v : Int} {pts vs : List Int} {i : Nat} (hi : i < vs.length) :
    lagAt p t pts (vs.set i v) % p = (lagAt p t pts vs + (v - vs.getD i 0) * lagY p t pts i 1 pts.length) % p := by
  unfold lagAt
  rw [lagS_sum, List.length_set, sumN_set (g := fun j => vs.getD j 0 * lagY p t pts j 1 pts.length) (i := i) hi (fun j hj => by rw [getD_set, if_neg (by omega)])]
  rw [getD_set, if_pos ⟨rfl, hi⟩, ← Int.sub_mul, Int.add_emod, ← lagS_sum, ← Int.add_emod]
def wrongAll : Bool := [7, 11, 97].all fun (p : Int) => (List.range 5).all fun m => (List.range m).all fun i => lagYf p ((m + 1 : Nat) : Int) (ptsF 0 m) i 1 m != 0
theorem wrongAll_true : wrongAll = true := by decide +kernel
def primes3 (p : Int) : Prop := p = 7 ∨ p = 11 ∨ p = 97
theorem primes3_four {p : Int} (h : primes3 p) : primes4 p := by unfold primes3 at h; unfold primes4; omega
theorem basis_ne {p : Int} {m i : Nat} (hp : primes3 p) (hm : m ≤ 4) (hi : i < m) : lagY p ((m : Int) + 1) (ptsL m) i 1 m ≠ 0 := by
  have hb := primes4_big (primes3_four hp)
  have hf := primes4_field (primes3_four hp)
  have h1 := List.all_eq_true.1 wrongAll_true p (by unfold primes3 at hp; simpa using hp)
  have h2 := List.all_eq_true.1 h1 m (by simp; omega)
  have h3 := List.all_eq_true.1 h2 i (by simpa using hi)
  have e := lagY_fast (p := p) (t := ((m + 1 : Nat) : Int)) (pts := ptsF 0 m) (i := i) (y := 1) (ptsF_el (primes3_four hp) (by omega)) (isEl_iff.2 ⟨hf, by omega, by omega⟩) (by rw [ptsF_len]; exact hi) m (by rw [ptsF_len]; exact Nat.le_refl _)
  rw [← e, ptsF_zero, Int.natCast_add] at h3
  simpa using h3
theorem no_zero {p a b : Int} (ha : isEl p a = true) (hb : isEl p b = true) (h0 : a ≠ 0) (h : a * b % p = 0) : b = 0 := by
  have hg := (finv_good ha h0).2.2
  rw [← el_same hb, ← Int.mul_one b, ← mod_r, ← hg, mod_r, mod_r, ← Int.mul_assoc, Int.mul_comm b a, ← mod_l, h, Int.zero_mul, Int.zero_emod]
theorem take_set {xs : List Int} {i m : Nat} {v : Int} : (xs.set i v).take m = (xs.take m).set i v := by
  apply List.ext_getElem?
  intro j
  rw [List.getElem?_take, List.getElem?_set, List.getElem?_set, List.getElem?_take]
  by_cases hj : j < m
  · simp only [hj, if_true]
    by_cases hi : i = j
    · subst hi; simp only [if_true, List.length_take]
      by_cases h2 : i < xs.length
      · rw [if_pos h2, if_pos (by omega)]
      · rw [if_neg h2, if_neg (by omega)]
    · simp [hi]
  · simp only [hj, if_false]
    by_cases hi : i = j
    · subst hi
      simp [List.length_take]; omega
    · simp [hi]
theorem wrong_cons {p v : Int} {cs S : List Int} {n k i : Nat} (hp : primes3 p) (h : ShareOf p cs n S) (hc : cs.length ≤ k + 1) (hk : k + 2 ≤ n) (hn : n ≤ 5) (hi : i < n) (hv : isEl p v = true) (hne : v ≠ S.getD i 0) : polyCons p (S.set i v) (k : Int) = false := by
  have hp4 := primes3_four hp
  have hb := primes4_big hp4
  have hf := primes4_field hp4
  have hl : (S.set i v).length = n := by rw [List.length_set]; exact h.1
  have hm : mOf (S.set i v).length (k : Int) = k + 1 := by
    unfold mOf; rw [hl, if_neg (by omega)]; simp
  have hSi := (h.2 i hi).1
  rcases Nat.lt_or_ge i (k + 1) with hlt | hge
  · refine consTo_bad (j := k + 1) hm (Nat.le_refl _) (by rw [hl]; omega) ?_
    rw [beq_eq_false_iff_ne, getD_set, if_neg (by omega), take_set]
    intro he
    have h2 := share_lag (i := k + 1) hp4 h hc (by omega) hn (by omega)
    have hSm := (h.2 (k + 1) (by omega)).1
    have htl : i < (S.take (k + 1)).length := by rw [List.length_take, h.1]; omega
    have h3 := lag_set (p := p) (t := ((k + 1 : Nat) : Int) + 1) (v := v) (pts := ptsL (k + 1)) (vs := S.take (k + 1)) htl
    have hte : (S.take (k + 1)).getD i 0 = S.getD i 0 := by simp [List.getD_eq_getElem?_getD, hlt]
    rw [he, h2, hte, ptsL_len] at h3
    have hY := lagY_el (p := p) (t := ((k + 1 : Nat) : Int) + 1) (pts := ptsL (k + 1)) (i := i) (el_one hf) (k + 1)
    have hYn := basis_ne (m := k + 1) hp (by omega) hlt
    generalize lagY p (((k + 1 : Nat) : Int) + 1) (ptsL (k + 1)) i 1 (k + 1) = Y at h3 hY hYn
    have hd : fsub p v (S.getD i 0) ≠ 0 := fsub_ne hv hSi hne
    have hz : fsub p v (S.getD i 0) * Y % p = 0 := by
      rw [fsub_eq hv hSi, mod_l]
      have := Int.emod_emod_of_dvd (S.getD (k + 1) 0) (Int.dvd_refl p)
      have h4 : ((S.getD (k + 1) 0 + (v - S.getD i 0) * Y) - S.getD (k + 1) 0) % p = 0 := by
        rw [Int.sub_emod, ← h3, Int.sub_self, Int.zero_emod]
      rwa [show S.getD (k + 1) 0 + (v - S.getD i 0) * Y - S.getD (k + 1) 0 = (v - S.getD i 0) * Y by omega] at h4
    exact hYn (no_zero (el_fsub hv hSi) hY hd hz)
  · refine consTo_bad (j := i) hm hge (by rw [hl]; exact hi) ?_
    rw [beq_eq_false_iff_ne, getD_set, if_pos ⟨rfl, by rw [h.1]; exact hi⟩, take_set]
    have e : (S.take (k + 1)).set i v = S.take (k + 1) := List.set_eq_of_length_le (by rw [List.length_take]; omega)
    rw [e, share_lag hp4 h hc (by omega) hn hi]
    exact fun h => hne h.symm
theorem wrong_all {p v : Int} {cs S : List Int} {n i : Nat} (hp : primes4 p) (h : ShareOf p cs n S) (hn1 : 1 ≤ n) (hn : n ≤ 5) (hv : isEl p v = true) : polyCons p (S.set i v) ((n : Int) - 1) = true := by
  have hb := primes4_big hp
  have hf := primes4_field hp
  have hl : (S.set i v).length = n := by rw [List.length_set]; exact h.1
  have hel : allEl p (S.set i v) = true := allEl_iff.2 ⟨hf, fun a ha => by
    rcases List.mem_or_eq_of_mem_set ha with h2 | rfl
    · exact (allEl_iff.1 (h.el hf)).2 a h2
    · exact (isEl_iff.1 hv).2⟩
  refine cons_end (m := n) ?_ ?_ (consTo_skip p _ (by omega))
  · simp only [consOk, Bool.and_eq_true, decide_eq_true_eq, hl, inB_iff]
    exact ⟨⟨⟨by omega, by omega⟩, hel⟩, by omega⟩
  · unfold mOf; rw [hl, if_neg (by omega)]; omega
theorem wrong_ne {p s d : Int} (hs : isEl p s = true) (h1 : 1 ≤ d) (h2 : d ≤ p - 1) : (s + d) % p ≠ s := by
  have h := el_lt hs
  rcases Int.lt_or_le (s + d) p with hlt | hge
  · rw [Int.emod_eq_of_lt (by omega) hlt]; omega
  · have e : (s + d) % p = (s + d - p) % p := by rw [Int.sub_emod_right]
    rw [e, Int.emod_eq_of_lt (by omega) (by omega)]; omega
end Go.Proofs.Ytknepofclgjmiaa
