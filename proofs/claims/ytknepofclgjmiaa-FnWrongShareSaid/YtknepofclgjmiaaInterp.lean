/- Interpolation over small prime fields: shares of a polynomial open to its value at 0, and are consistent. No program in sight. -/
import Derived.Test.YtknepofclgjmiaaLag
import Derived.Test.YtknepofclgjmiaaSharePoly
import Derived.Test.YtknepofclgjmiaaOpenPoly
import Derived.Test.YtknepofclgjmiaaConsist
namespace Go.Proofs.Ytknepofclgjmiaa
open Go.RowKit

theorem horner_polyV (p x : Int) : ∀ cs : List Int, horner p x cs % p = polyV x cs % p
  | [] => rfl
  | c :: cs => by
    show (horner p x cs * x + c) % p % p = (polyV x cs * x + c) % p
    rw [Int.emod_emod_of_dvd _ (Int.dvd_refl p), Int.add_emod, ← mod_l, horner_polyV p x cs, mod_l, ← Int.add_emod]
theorem polyAt_polyV {p x : Int} {cs : List Int} (hx : isEl p x = true) (hc : allEl p cs = true) : isEl p (polyAt p cs x) = true ∧ polyAt p cs x % p = polyV x cs % p := by
  have e : polyAt p cs x = horner p x cs := by simp [polyAt, hx, hc]
  rw [e]
  have hf := el_field hx
  exact ⟨isEl_iff.2 ⟨hf, horner_el (fieldOk_range hf).1 x cs⟩, horner_polyV p x cs⟩
theorem lag_poly {p t : Int} {pts vs cs : List Int} (hf : fieldOk p = true) (hm : momOk p t pts = true) (hl : vs.length = pts.length) (hc : cs.length ≤ pts.length)
    (hv : ∀ i, i < pts.length → vs.getD i 0 % p = polyV (pts.getD i 0) cs % p) : lagAt p t pts vs = polyV t cs % p := by
  have h1 := lagS_sum p t pts vs vs.length
  rw [el_same (lagS_el hf _)] at h1
  unfold lagAt
  rw [h1, hl]
  have h2 := interp hm cs 0 (by omega)
  rw [Int.pow_zero, Int.one_mul] at h2
  rw [← h2]
  refine sumN_mod fun i hi => ?_
  rw [Int.pow_zero, Int.mul_one, Int.mul_comm (lagY _ _ _ _ _ _)]
  exact mod_congr_mul (hv i hi)

/-! the finite facts -/
def ptsF (f m : Nat) : List Int := (List.range m).map fun (i : Nat) => (f : Int) + (i : Int) + 1
theorem ptsF_len (f m : Nat) : (ptsF f m).length = m := by simp [ptsF]
theorem ptsF_get {f m i : Nat} (h : i < m) : (ptsF f m).getD i 0 = (f : Int) + (i : Int) + 1 := by simp [ptsF, h]
theorem ptsF_zero (m : Nat) : ptsF 0 m = ptsL m := by simp [ptsF, ptsL]
def lagYf (p t : Int) (pts : List Int) (i : Nat) (y : Int) : Nat → Int
  | 0 => y
  | k + 1 => if k = i then lagYf p t pts i y k else lagYf p t pts i y k * ((t - pts.getD k 0) % p) % p * finvGo p ((pts.getD i 0 - pts.getD k 0) % p) 101 1 % p
theorem lagY_fast {p t : Int} {pts : List Int} {i : Nat} {y : Int} (hp : allEl p pts = true) (ht : isEl p t = true) (hi : i < pts.length) : ∀ k, k ≤ pts.length → lagY p t pts i y k = lagYf p t pts i y k
  | 0, _ => rfl
  | k + 1, hk => by
    have ih := lagY_fast (y := y) hp ht hi k (by omega)
    have hxk := allEl_at hp (show k < pts.length by omega)
    have hxi := allEl_at hp hi
    unfold lagY lagYf
    rw [ih, fsub_eq ht hxk]
    have e : finv p (fsub p (pts.getD i 0) (pts.getD k 0)) = finvGo p ((pts.getD i 0 - pts.getD k 0) % p) 101 1 := by
      have := el_fsub hxi hxk
      rw [fsub_eq hxi hxk] at this ⊢
      unfold finv
      rw [if_pos this]
    rw [e]
def momF (p t : Int) (pts : List Int) : Bool := (List.range pts.length).all fun j => (sumN (fun i => lagYf p t pts i 1 pts.length * pts.getD i 0 ^ j) pts.length) % p == t ^ j % p
theorem mom_fast {p t : Int} {pts : List Int} (hp : allEl p pts = true) (ht : isEl p t = true) (h : momF p t pts = true) : momOk p t pts = true := by
  refine List.all_eq_true.2 fun j hj => ?_
  have := List.all_eq_true.1 h j hj
  rw [beq_iff_eq] at this ⊢
  rw [← this]
  congr 1
  refine sumN_congr fun i hi => ?_
  rw [lagY_fast hp ht hi _ (Nat.le_refl _)]
def momAll : Bool := [7, 11, 13, 97].all fun (p : Int) => (List.range 6).all fun m => (List.range 6).all fun f => decide (5 < f + m) || (List.range 6).all fun t => momF p (t : Int) (ptsF f m)
theorem momAll_true : momAll = true := by decide +kernel
def ptsAll : Bool := (List.range 6).all fun m => (List.range 6).all fun f => ptsTo (ptsF f m) m
theorem ptsAll_true : ptsAll = true := by decide +kernel
def primes4 (p : Int) : Prop := p = 7 ∨ p = 11 ∨ p = 13 ∨ p = 97
theorem primes4_field {p : Int} (h : primes4 p) : fieldOk p = true := by rcases h with rfl | rfl | rfl | rfl <;> decide +kernel
theorem primes4_big {p : Int} (h : primes4 p) : 7 ≤ p ∧ p ≤ 97 := by unfold primes4 at h; omega
theorem ptsF_el {p : Int} {f m : Nat} (hp : primes4 p) (h : f + m ≤ 5) : allEl p (ptsF f m) = true := by
  have := primes4_big hp
  refine allEl_iff.2 ⟨primes4_field hp, fun a ha => ?_⟩
  simp only [ptsF, List.mem_map, List.mem_range] at ha
  obtain ⟨i, hi, rfl⟩ := ha
  omega
theorem mom_ok {p : Int} {f m t : Nat} (hp : primes4 p) (h : f + m ≤ 5) (ht : t ≤ 5) : momOk p (t : Int) (ptsF f m) = true := by
  have hb := primes4_big hp
  refine mom_fast (ptsF_el hp h) (isEl_iff.2 ⟨primes4_field hp, by omega, by omega⟩) ?_
  have h1 := List.all_eq_true.1 momAll_true p (by unfold primes4 at hp; simpa using hp)
  have h2 := List.all_eq_true.1 h1 m (by simp; omega)
  have h3 := List.all_eq_true.1 h2 f (by simp; omega)
  simp only [Bool.or_eq_true, decide_eq_true_eq] at h3
  rcases h3 with h3 | h3
  · omega
  · exact List.all_eq_true.1 h3 t (by simp; omega)
theorem pts_ok {f m : Nat} (h : f + m ≤ 5) : ptsTo (ptsF f m) (ptsF f m).length = true := by
  have h2 := List.all_eq_true.1 ptsAll_true m (by simp; omega)
  have h3 := List.all_eq_true.1 h2 f (by simp; omega)
  rw [ptsF_len]; exact h3

/-- S are the shares of the polynomial with the coefficients cs -/
def ShareOf (p : Int) (cs : List Int) (n : Nat) (S : List Int) : Prop := S.length = n ∧ ∀ i, i < n → isEl p (S.getD i 0) = true ∧ S.getD i 0 % p = polyV ((i : Int) + 1) cs % p
theorem ShareOf.el {p : Int} {cs S : List Int} {n : Nat} (h : ShareOf p cs n S) (hf : fieldOk p = true) : allEl p S = true :=
  allEl_iff.2 ⟨hf, fun a ha => by
    obtain ⟨i, hi, rfl⟩ := List.getElem_of_mem ha
    have := (h.2 i (by rw [← h.1]; exact hi)).1
    rw [List.getD_eq_getElem?_getD, List.getElem?_eq_getElem hi] at this
    exact (isEl_iff.1 this).2⟩
theorem share_vals {p : Int} {cs : List Int} {n : Nat} (hp : primes4 p) (hn : n ≤ 5) (hc : allEl p cs = true) : ShareOf p cs n (polyVals p cs n) := by
  have hb := primes4_big hp
  refine ⟨polyVals_len p cs n, fun i hi => ?_⟩
  have e : (polyVals p cs n).getD i 0 = polyAt p cs ((i : Int) + 1) := by simp [polyVals, hi]
  rw [e]
  exact polyAt_polyV (isEl_iff.2 ⟨primes4_field hp, by omega, by omega⟩) hc
theorem drop_take_get {S : List Int} {f m i : Nat} (hi : i < m) : ((S.drop f).take m).getD i 0 = S.getD (f + i) 0 := by
  simp [List.getD_eq_getElem?_getD, hi]
theorem share_open {p : Int} {cs S : List Int} {n f m : Nat} (hp : primes4 p) (h : ShareOf p cs n S) (hm : 1 ≤ m) (hc : cs.length ≤ m) (hfm : f + m ≤ n) (hn : n ≤ 5) : openPoly p (ptsF f m) ((S.drop f).take m) = polyV 0 cs % p := by
  have hf := primes4_field hp
  have hl : ((S.drop f).take m).length = m := by rw [List.length_take, List.length_drop, h.1]; omega
  have hel : allEl p ((S.drop f).take m) = true := allEl_iff.2 ⟨hf, fun a ha => (allEl_iff.1 (h.el hf)).2 a (List.mem_of_mem_drop (List.mem_of_mem_take ha))⟩
  rw [(ptsOk_yes (by rw [ptsF_len, hl]) (by rw [ptsF_len]; exact inB_iff.2 (by omega)) (ptsF_el hp (by omega)) hel (pts_ok (by omega))).1]
  exact lag_poly hf (mom_ok (t := 0) hp (by omega) (by omega)) (by rw [ptsF_len, hl]) (by rw [ptsF_len]; exact hc) fun i hi => by
    rw [ptsF_len] at hi
    rw [drop_take_get hi, ptsF_get hi, (h.2 (f + i) (by omega)).2, Int.natCast_add]
theorem share_lag {p : Int} {cs S : List Int} {n m i : Nat} (hp : primes4 p) (h : ShareOf p cs n S) (hc : cs.length ≤ m) (hmn : m ≤ n) (hn : n ≤ 5) (hi : i < n) : lagAt p ((i : Int) + 1) (ptsL m) (S.take m) = S.getD i 0 := by
  have hf := primes4_field hp
  have hl : (S.take m).length = m := by rw [List.length_take, h.1]; omega
  have := lag_poly (t := ((i + 1 : Nat) : Int)) (pts := ptsF 0 m) (vs := S.take m) (cs := cs) hf (mom_ok hp (by omega) (by omega)) (by rw [ptsF_len, hl]) (by rw [ptsF_len]; exact hc) (fun j hj => by
    rw [ptsF_len] at hj
    have e := drop_take_get (S := S) (f := 0) hj
    rw [List.drop_zero, Nat.zero_add] at e
    rw [e, ptsF_get hj, (h.2 j (by omega)).2]; simp)
  rw [ptsF_zero, Int.natCast_add] at this
  rw [show ((i : Int) + 1) = (i : Int) + ((1 : Nat) : Int) from rfl, this]
  have h2 := h.2 i hi
  rw [show (i : Int) + ((1 : Nat) : Int) = (i : Int) + 1 from rfl, ← h2.2, el_same h2.1]
theorem share_cons {p : Int} {cs S : List Int} {n k : Nat} (hp : primes4 p) (h : ShareOf p cs n S) (hc : cs.length ≤ k + 1) (hn1 : 1 ≤ n) (hn : n ≤ 5) : polyCons p S (k : Int) = true := by
  have hb := primes4_big hp
  have hf := primes4_field hp
  have hok : consOk p S (k : Int) = true := by
    simp only [consOk, Bool.and_eq_true, decide_eq_true_eq, h.1, inB_iff]
    exact ⟨⟨⟨by omega, by omega⟩, h.el hf⟩, by omega⟩
  refine cons_end hok rfl ?_
  unfold consTo
  refine List.all_eq_true.2 fun i hi => ?_
  rw [h.1] at hi ⊢
  simp only [List.mem_range] at hi
  unfold mOf
  split
  · simp; exact .inl hi
  · next hk =>
    simp only [Bool.or_eq_true, decide_eq_true_eq, beq_iff_eq]
    rw [Int.toNat_natCast]
    exact .inr (share_lag hp h hc (by omega) hn hi)
end Go.Proofs.Ytknepofclgjmiaa
