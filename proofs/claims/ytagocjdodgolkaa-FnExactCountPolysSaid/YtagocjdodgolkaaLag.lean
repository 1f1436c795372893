/- Plain facts on interpolation over a small prime field and on the count of polynomials; no program in sight. -/
import Derived.Test.YtagocjdodgolkaaPlain
import Derived.Test.YtagocjdodgolkaaAlg
namespace Go.Proofs.Ytagocjdodgolkaa
open Go.RowKit

/-- y times the first k factors of the i-th basis polynomial at t -/
def lagY (p t : Int) (pts : List Int) (i : Nat) (y : Int) : Nat → Int
  | 0 => y
  | k + 1 => if k = i then lagY p t pts i y k else lagY p t pts i y k * fsub p t (pts.getD k 0) % p * finv p (fsub p (pts.getD i 0) (pts.getD k 0)) % p
/-- the sum over the first i points -/
def lagS (p t : Int) (pts vs : List Int) : Nat → Int
  | 0 => 0
  | i + 1 => (lagS p t pts vs i + lagY p t pts i (vs.getD i 0) pts.length) % p
def lagAt (p t : Int) (pts vs : List Int) : Int := lagS p t pts vs vs.length

/-- all points are elements, and no two are equal -/
def Apart (p : Int) (pts : List Int) : Prop := allEl p pts = true ∧ ∀ i k, i < pts.length → k < pts.length → i ≠ k → pts.getD i 0 ≠ pts.getD k 0

theorem allEl_at {p : Int} {xs : List Int} {k : Nat} (h : allEl p xs = true) (hk : k < xs.length) : isEl p (xs.getD k 0) = true := by
  have h' := allEl_iff.1 h
  have := h'.2 (xs.getD k 0) (by rw [List.getD_eq_getElem?_getD, List.getElem?_eq_getElem hk]; exact List.getElem_mem hk)
  exact isEl_iff.2 ⟨h'.1, this⟩

theorem fsub_ne {p a b : Int} (ha : isEl p a = true) (hb : isEl p b = true) (h : a ≠ b) : fsub p a b ≠ 0 := by
  rw [fsub_eq ha hb]
  intro e
  have h1 := el_lt ha
  have h2 := el_lt hb
  by_cases hl : b ≤ a
  · rw [Int.emod_eq_of_lt (by omega) (by omega)] at e; omega
  · have : (a - b) % p = a - b + p := by
      rw [← Int.add_emod_right, Int.emod_eq_of_lt (by omega) (by omega)]
    omega

theorem Apart.inv {p : Int} {pts : List Int} (h : Apart p pts) {i k : Nat} (hi : i < pts.length) (hk : k < pts.length) (hne : k ≠ i) :
    isEl p (fsub p (pts.getD i 0) (pts.getD k 0)) = true ∧ isEl p (finv p (fsub p (pts.getD i 0) (pts.getD k 0))) = true := by
  have h1 := el_fsub (allEl_at h.1 hi) (allEl_at h.1 hk)
  exact ⟨h1, (finv_good h1 (fsub_ne (allEl_at h.1 hi) (allEl_at h.1 hk) (h.2 i k hi hk (Ne.symm hne)))).1⟩

theorem lagY_el {p t : Int} {pts : List Int} {i : Nat} {y : Int} (hy : isEl p y = true) : ∀ k, isEl p (lagY p t pts i y k) = true
  | 0 => hy
  | k + 1 => by
    unfold lagY
    split
    · exact lagY_el hy k
    · exact el_mod (el_field hy) _
theorem lagS_el {p t : Int} {pts vs : List Int} (hf : fieldOk p = true) : ∀ k, isEl p (lagS p t pts vs k) = true
  | 0 => el_zero hf
  | _ + 1 => el_mod hf _

/-- the reference's step -/
theorem lag_ref {p w s v : Int} (hw : isEl p w = true) (hs : isEl p s = true) (hv : isEl p v = true) : fmul p w (fmul p s v) = w * s % p * v % p := by
  rw [fmul_eq hw (el_fmul hs hv), fmul_eq hs hv, mod_r, mod_l, Int.mul_assoc]
theorem lagY_step {p t : Int} {pts : List Int} {i k : Nat} {y : Int} (hne : k ≠ i) : lagY p t pts i y (k + 1) = lagY p t pts i y k * fsub p t (pts.getD k 0) % p * finv p (fsub p (pts.getD i 0) (pts.getD k 0)) % p := by
  show (if k = i then _ else _) = _
  rw [if_neg hne]
theorem lagY_skip {p t : Int} {pts : List Int} {i : Nat} {y : Int} : lagY p t pts i y (i + 1) = lagY p t pts i y i := by
  show (if i = i then _ else _) = _
  rw [if_pos rfl]
theorem lagS_step {p t : Int} {pts vs : List Int} {i : Nat} (hf : fieldOk p = true) (hv : isEl p (vs.getD i 0) = true) :
    lagS p t pts vs (i + 1) = fadd p (lagS p t pts vs i) (lagY p t pts i (vs.getD i 0) pts.length) := by
  rw [fadd_eq (lagS_el hf i) (lagY_el hv _)]; rfl

/-! linearity -/
theorem mod_congr_mul {a b c p : Int} (h : a % p = b % p) : a * c % p = b * c % p := by rw [Int.mul_emod, h, ← Int.mul_emod]
theorem lagY_lin (p t : Int) (pts : List Int) (i : Nat) (y : Int) : ∀ k, lagY p t pts i y k % p = y * lagY p t pts i 1 k % p
  | 0 => by show y % p = y * 1 % p; rw [Int.mul_one]
  | k + 1 => by
    unfold lagY
    split
    · exact lagY_lin p t pts i y k
    · have ih := lagY_lin p t pts i y k
      generalize lagY p t pts i y k = u at ih
      generalize lagY p t pts i 1 k = v at ih
      generalize fsub p t (pts.getD k 0) = s
      generalize finv p (fsub p (pts.getD i 0) (pts.getD k 0)) = r
      have e : y * (v * s % p * r) % p = y * (v * s * r) % p := by
        rw [Int.mul_comm y (v * s % p * r), Int.mul_assoc (v * s % p), mod_l, Int.mul_comm y (v * s * r), Int.mul_assoc (v * s)]
      rw [Int.emod_emod_of_dvd _ (Int.dvd_refl p), mod_l, mod_r, e, Int.mul_assoc v s r, ← Int.mul_assoc y, Int.mul_assoc u s r]
      exact mod_congr_mul ih
/-- the sum of n numbers -/
def sumN (f : Nat → Int) : Nat → Int
  | 0 => 0
  | n + 1 => sumN f n + f n
theorem sumN_congr {f g : Nat → Int} {n : Nat} (h : ∀ i, i < n → f i = g i) : sumN f n = sumN g n := by
  induction n with
  | zero => rfl
  | succ n ih => unfold sumN; rw [ih fun i hi => h i (by omega), h n (by omega)]
theorem sumN_add (f g : Nat → Int) (n : Nat) : sumN (fun i => f i + g i) n = sumN f n + sumN g n := by
  induction n with
  | zero => rfl
  | succ n ih => unfold sumN; rw [ih]; omega
theorem sumN_mul (c : Int) (f : Nat → Int) (n : Nat) : sumN (fun i => c * f i) n = c * sumN f n := by
  induction n with
  | zero => simp [sumN]
  | succ n ih => unfold sumN; rw [ih, Int.mul_add]
theorem sumN_mod {p : Int} {f g : Nat → Int} {n : Nat} (h : ∀ i, i < n → f i % p = g i % p) : sumN f n % p = sumN g n % p := by
  induction n with
  | zero => rfl
  | succ n ih => unfold sumN; rw [Int.add_emod, ih fun i hi => h i (by omega), h n (by omega), ← Int.add_emod]
theorem lagS_sum (p t : Int) (pts vs : List Int) : ∀ n, lagS p t pts vs n % p = sumN (fun i => vs.getD i 0 * lagY p t pts i 1 pts.length) n % p
  | 0 => rfl
  | n + 1 => by
    show (lagS p t pts vs n + lagY p t pts n (vs.getD n 0) pts.length) % p % p = (sumN _ n + _) % p
    rw [Int.emod_emod_of_dvd _ (Int.dvd_refl p), Int.add_emod, lagS_sum p t pts vs n, lagY_lin, ← Int.add_emod]
/-- the value at t of the polynomial with these coefficients (least power first), not reduced -/
def polyV (x : Int) : List Int → Int
  | [] => 0
  | c :: cs => polyV x cs * x + c
/-- the moments of the basis polynomials: the sum of L_i(t) x_i^j is t^j -/
def momOk (p t : Int) (pts : List Int) : Bool := (List.range pts.length).all fun j => (sumN (fun i => lagY p t pts i 1 pts.length * pts.getD i 0 ^ j) pts.length) % p == t ^ j % p
theorem interp {p t : Int} {pts : List Int} (h : momOk p t pts = true) : ∀ (cs : List Int) (j : Nat), j + cs.length ≤ pts.length →
    sumN (fun i => lagY p t pts i 1 pts.length * pts.getD i 0 ^ j * polyV (pts.getD i 0) cs) pts.length % p = t ^ j * polyV t cs % p
  | [], j, _ => by
    have : sumN (fun i => lagY p t pts i 1 pts.length * pts.getD i 0 ^ j * polyV (pts.getD i 0) []) pts.length = 0 := by
      rw [sumN_congr (g := fun _ => 0 * 0) fun i _ => by simp [polyV], sumN_mul]; simp
    rw [this]; simp [polyV]
  | c :: cs, j, hj => by
    have hj' : j + 1 + cs.length ≤ pts.length := by simp at hj; omega
    have ih := interp h cs (j + 1) hj'
    have hm := List.all_eq_true.1 h j (by simp at hj ⊢; omega)
    rw [beq_iff_eq] at hm
    have e : sumN (fun i => lagY p t pts i 1 pts.length * pts.getD i 0 ^ j * polyV (pts.getD i 0) (c :: cs)) pts.length =
        sumN (fun i => lagY p t pts i 1 pts.length * pts.getD i 0 ^ (j + 1) * polyV (pts.getD i 0) cs) pts.length + c * sumN (fun i => lagY p t pts i 1 pts.length * pts.getD i 0 ^ j) pts.length := by
      rw [← sumN_mul, ← sumN_add]
      refine sumN_congr fun i _ => ?_
      simp only [polyV, Int.pow_succ, Int.mul_add]
      congr 1
      · rw [Int.mul_comm (polyV _ _) (pts.getD i 0), ← Int.mul_assoc, Int.mul_assoc (lagY _ _ _ _ _ _)]
      · rw [Int.mul_comm]
    rw [e, Int.add_emod, ih, ← mod_r c, hm, mod_r, ← Int.add_emod]
    congr 1
    simp only [polyV, Int.pow_succ, Int.mul_add]
    congr 1
    · rw [Int.mul_comm (polyV _ _) t, Int.mul_assoc]
    · rw [Int.mul_comm]

/-! counting -/
theorem sumN_zero {f : Nat → Int} {n : Nat} (h : ∀ i, i < n → f i = 0) : sumN f n = 0 := by
  rw [sumN_congr (g := fun _ => 0 * 0) fun i hi => by rw [h i hi]; rfl, sumN_mul]; simp
theorem sumN_append (f : Nat → Int) (m n : Nat) : sumN f (m + n) = sumN f m + sumN (fun i => f (m + i)) n := by
  induction n with
  | zero => simp [sumN]
  | succ n ih => show sumN f (m + n) + f (m + n) = sumN f m + (sumN (fun i => f (m + i)) n + f (m + n)); rw [ih]; omega
theorem sumN_swap (g : Nat → Nat → Int) (p M : Nat) : sumN (fun n => g (n % p) (n / p)) (M * p) = sumN (fun a => sumN (fun m => g a m) M) p := by
  induction M with
  | zero => rw [Nat.zero_mul]; show 0 = _; rw [sumN_zero]; intro i _; rfl
  | succ M ih =>
    rw [Nat.succ_mul, sumN_append, ih]
    rcases Nat.eq_zero_or_pos p with rfl | hp
    · rfl
    have e : sumN (fun i => g ((M * p + i) % p) ((M * p + i) / p)) p = sumN (fun a => g a M) p := sumN_congr fun i hi => by
      rw [Nat.mul_comm M p, Nat.mul_add_mod, Nat.mod_eq_of_lt hi, Nat.mul_add_div hp, Nat.div_eq_of_lt hi, Nat.add_zero]
    rw [e, ← sumN_add]
    rfl
end Go.Proofs.Ytagocjdodgolkaa
