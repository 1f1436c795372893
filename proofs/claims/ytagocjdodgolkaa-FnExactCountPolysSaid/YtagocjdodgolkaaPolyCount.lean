/- Plain facts on the count of polynomials with given values. -/
import Derived.Test.YtagocjdodgolkaaPlain
import Derived.Test.YtagocjdodgolkaaLag
import Derived.Test.YtagocjdodgolkaaSums
namespace Go.Proofs.Ytagocjdodgolkaa
open Go.RowKit

def fitsTo (p : Int) (pts vs cs : List Int) (k : Nat) : Bool := (List.range k).all fun i => polyAt p cs (pts.getD i 0) == vs.getD i 0
theorem fitsTo_succ (p : Int) (pts vs cs : List Int) (k : Nat) : fitsTo p pts vs cs (k + 1) = (fitsTo p pts vs cs k && (polyAt p cs (pts.getD k 0) == vs.getD k 0)) := by
  simp [fitsTo, List.range_succ]
theorem fitsTo_bad {p : Int} {pts vs cs : List Int} {k n : Nat} (hk : k < n) (h : (polyAt p cs (pts.getD k 0) == vs.getD k 0) = false) : fitsTo p pts vs cs n = false := by
  rw [Bool.eq_false_iff]
  intro h1
  have := List.all_eq_true.1 h1 k (by simpa using hk)
  rw [this] at h; cases h
def ind (p : Int) (pts vs cs : List Int) : Int := if fitsTo p pts vs cs pts.length then 1 else 0
theorem ind_bound (p : Int) (pts vs cs : List Int) : 0 ≤ ind p pts vs cs ∧ ind p pts vs cs ≤ 1 := by unfold ind; split <;> omega
/-- the digits of n, least first -/
def digs (p : Nat) : Nat → Nat → List Int
  | 0, _ => []
  | k + 1, n => ((n % p : Nat) : Int) :: digs p k (n / p)
theorem digs_len (p : Nat) : ∀ k n, (digs p k n).length = k
  | 0, _ => rfl
  | k + 1, n => by simp [digs, digs_len p k]
theorem digs_snoc (p : Nat) : ∀ k n, digs p (k + 1) n = digs p k n ++ [((n / p ^ k % p : Nat) : Int)]
  | 0, n => by simp [digs]
  | k + 1, n => by
    rw [digs, digs_snoc p k (n / p), digs, List.cons_append, Nat.div_div_eq_div_mul, Nat.pow_succ, Nat.mul_comm p]
theorem digs_el {p : Nat} (hf : fieldOk (p : Int) = true) : ∀ k n, allEl (p : Int) (digs p k n) = true
  | 0, _ => allEl_iff.2 ⟨hf, fun a ha => by simp [digs] at ha⟩
  | k + 1, n => allEl_iff.2 ⟨hf, fun a ha => by
    have hr := fieldOk_range hf
    rcases List.mem_cons.1 ha with rfl | ha
    · have := Nat.mod_lt n (show 0 < p by omega)
      omega
    · exact (allEl_iff.1 (digs_el hf k (n / p))).2 a ha⟩
/-- the count, by the program's number of the polynomial -/
def cntTo (p : Nat) (pts vs cs : List Int) (k : Nat) : Nat → Int := sumN fun n => ind (p : Int) pts vs (cs ++ digs p k n)
def cntP (p : Nat) (pts vs cs : List Int) (k : Nat) : Int := cntTo p pts vs cs k (p ^ k)
/-- the count, coefficient by coefficient -/
def cntS (p : Nat) (pts vs : List Int) : List Int → Nat → Int
  | cs, 0 => ind (p : Int) pts vs cs
  | cs, m + 1 => sumN (fun a => cntS p pts vs (cs ++ [(a : Int)]) m) p
theorem cntS_eq (p : Nat) (pts vs : List Int) : ∀ (m : Nat) (cs : List Int), cntS p pts vs cs m = cntP p pts vs cs m
  | 0, cs => by simp [cntS, cntP, cntTo, sumN, digs]
  | m + 1, cs => by
    unfold cntS cntP cntTo
    rw [Nat.pow_succ]
    have := sumN_swap (fun a n => ind (p : Int) pts vs (cs ++ [(a : Int)] ++ digs p m n)) p (p ^ m)
    rw [← sumN_congr (n := p) (f := fun a => cntS p pts vs (cs ++ [(a : Int)]) m) (g := fun a => sumN (fun n => ind (p : Int) pts vs (cs ++ [(a : Int)] ++ digs p m n)) (p ^ m)) fun a _ => cntS_eq p pts vs m _] at this
    rw [← this]
    refine sumN_congr fun n _ => ?_
    rw [digs, List.append_assoc]; rfl
theorem sumN_bound {f : Nat → Int} {B : Int} (h : ∀ i, 0 ≤ f i ∧ f i ≤ B) : ∀ n : Nat, 0 ≤ sumN f n ∧ sumN f n ≤ n * B
  | 0 => by simp [sumN]
  | n + 1 => by
    have h1 := sumN_bound h n
    have h2 := h n
    unfold sumN
    rw [Int.natCast_add, Int.add_mul]
    simp; omega
theorem cntTo_bound (p : Nat) (pts vs cs : List Int) (k n : Nat) : 0 ≤ cntTo p pts vs cs k n ∧ cntTo p pts vs cs k n ≤ n := by
  have := sumN_bound (fun i => ind_bound (p : Int) pts vs (cs ++ digs p k i)) n
  simpa [cntTo] using this
theorem cntS_bound {p : Nat} (pts vs : List Int) (cs : List Int) (m : Nat) : 0 ≤ cntS p pts vs cs m ∧ cntS p pts vs cs m ≤ ((p ^ m : Nat) : Int) := by
  rw [cntS_eq]; exact cntTo_bound p pts vs cs m (p ^ m)
/-- the whole function -/
def polysF (p x k : Int) (pts vs : List Int) : Int :=
  if isEl p x && inB k 0 3 && decide (p ≤ 7) && decide (pts.length = vs.length) && decide (pts.length ≤ 5) && allEl p pts && allEl p vs then cntP p.toNat pts vs [x] k.toNat else 0
end Go.Proofs.Ytagocjdodgolkaa
