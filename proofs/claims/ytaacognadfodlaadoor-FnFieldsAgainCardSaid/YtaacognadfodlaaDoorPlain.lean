/- Plain functions on numbers (words, mixing, small prime fields) and their facts; no program in sight. -/
import Derived.WalkKit
namespace Go.Proofs.YtaacognadfodlaaDoor
open Go.RowKit

theorem ret_int {k : IntKind} {a b : Int} (h : a = b) : Ending.returned (.int k a) = .returned (.int k b) := by rw [h]
theorem ret_bool {a b : Bool} (h : a = b) : Ending.returned (.bool a) = .returned (.bool b) := by rw [h]

/-! ranges -/
def inB (x a b : Int) : Bool := decide (a ≤ x) && decide (x ≤ b)
theorem inB_iff {x a b : Int} : inB x a b = true ↔ a ≤ x ∧ x ≤ b := by simp [inB]
theorem inB_no {x a b : Int} : inB x a b = false ↔ ¬ (a ≤ x ∧ x ≤ b) := by rw [← inB_iff]; simp

/-! words -/
def isWord (x : Int) : Bool := inB x 0 4294967295
theorem isWord_iff {x : Int} : isWord x = true ↔ 0 ≤ x ∧ x ≤ 4294967295 := inB_iff

theorem bits_nn (op : BinOp) (k : IntKind) (hk : k = .i64) (a b : Nat) (ha : a < 4294967296) (hb : b < 4294967296) (h : op = .and ∨ op = .xor) :
    bits op k (a : Int) (b : Int) = (((if op = .and then a &&& b else a ^^^ b : Nat)) : Int) := by
  subst hk
  have e1 : (BitVec.ofInt 64 (a : Int)).toNat = a := by simp; omega
  have e2 : (BitVec.ofInt 64 (b : Int)).toNat = b := by simp; omega
  rcases h with rfl | rfl
  · have hl : a &&& b < 4294967296 := Nat.lt_of_le_of_lt Nat.and_le_left ha
    show IntKind.i64.wrap (((BitVec.ofInt 64 (a : Int) &&& BitVec.ofInt 64 (b : Int)).toNat : Nat) : Int) = _
    rw [BitVec.toNat_and, e1, e2, IntKind.wrap_i64]
    simp only [if_true]
    omega
  · have hl : a ^^^ b < 2 ^ 32 := Nat.xor_lt_two_pow (by omega) (by omega)
    show IntKind.i64.wrap (((BitVec.ofInt 64 (a : Int) ^^^ BitVec.ofInt 64 (b : Int)).toNat : Nat) : Int) = _
    rw [BitVec.toNat_xor, e1, e2, IntKind.wrap_i64]
    simp only [reduceCtorEq, if_false]
    omega

def xorN (a b : Int) : Int := ((a.toNat ^^^ b.toNat : Nat) : Int)
theorem xorN_bounds {a b : Int} (h0 : 0 ≤ a) (h1 : a ≤ 4294967295) (h2 : 0 ≤ b) (h3 : b ≤ 4294967295) : 0 ≤ xorN a b ∧ xorN a b ≤ 4294967295 := by
  have hl : a.toNat ^^^ b.toNat < 2 ^ 32 := Nat.xor_lt_two_pow (by omega) (by omega)
  unfold xorN; omega
theorem bits_xor {a b : Int} (h0 : 0 ≤ a) (h1 : a ≤ 4294967295) (h2 : 0 ≤ b) (h3 : b ≤ 4294967295) : bits .xor .i64 a b = xorN a b := by
  have := bits_nn .xor .i64 rfl a.toNat b.toNat (by omega) (by omega) (.inr rfl)
  rw [Int.toNat_of_nonneg h0, Int.toNat_of_nonneg h2] at this
  simpa [xorN] using this
theorem bits_one {a : Int} (h0 : 0 ≤ a) (h1 : a ≤ 4294967295) : bits .and .i64 a 1 = a % 2 := by
  have := bits_nn .and .i64 rfl a.toNat 1 (by omega) (by omega) (.inl rfl)
  rw [Int.toNat_of_nonneg h0] at this
  simp only [if_true, Nat.and_one_is_mod] at this
  simp at this
  rw [this, Int.max_eq_left h0]
theorem bits_mask32 {a : Int} (h0 : 0 ≤ a) (h1 : a ≤ 9223372036854775807) : bits .and .i64 a 4294967295 = a % 4294967296 := by
  obtain ⟨n, rfl⟩ := Int.eq_ofNat_of_zero_le h0
  have e1 : (BitVec.ofInt 64 (n : Int)).toNat = n := by simp; omega
  have e2 : (BitVec.ofInt 64 (4294967295 : Int)).toNat = 4294967295 := by decide
  show IntKind.i64.wrap (((BitVec.ofInt 64 (n : Int) &&& BitVec.ofInt 64 4294967295).toNat : Nat) : Int) = _
  have e3 : n &&& 4294967295 = n % 4294967296 := Nat.and_two_pow_sub_one_eq_mod n 32
  rw [BitVec.toNat_and, e1, e2, e3, IntKind.wrap_i64]
  omega

def xorW (a b : Int) : Int := if isWord a = true ∧ isWord b = true then xorN a b else 0
def lowBit (x : Int) : Int := if isWord x = true then x % 2 else 0

/-! mixing -/
def mixR (n : Nat) : Nat := ((n ^^^ n / 65536) * 73244475) % 4294967296
def mixN (n : Nat) : Nat := mixR (mixR n) ^^^ mixR (mixR n) / 65536
def mix (x : Int) : Int := if isWord x = true then (mixN x.toNat : Nat) else 0
theorem mixR_lt (n : Nat) : mixR n < 4294967296 := Nat.mod_lt _ (by decide)
theorem mixN_lt (n : Nat) : mixN n < 4294967296 := by
  have h := mixR_lt (mixR n)
  exact Nat.xor_lt_two_pow (n := 32) h (Nat.lt_of_le_of_lt (Nat.div_le_self _ _) h)
theorem mix_bounds (x : Int) : 0 ≤ mix x ∧ mix x ≤ 4294967295 := by
  unfold mix
  split
  · have := mixN_lt x.toNat; omega
  · omega
theorem mix_word (x : Int) : isWord (mix x) = true := isWord_iff.2 (mix_bounds x)

def keyed (key a b : Int) : Int := if isWord key = true ∧ isWord a = true ∧ isWord b = true then mix (xorN (mix (xorN (mix key) a)) b) else 0
theorem keyed_bounds (k a b : Int) : 0 ≤ keyed k a b ∧ keyed k a b ≤ 4294967295 := by
  unfold keyed
  split
  · exact mix_bounds _
  · omega

/-! fields -/
def prime (p : Int) : Bool := (List.range 102).all fun d => decide (d < 2) || decide (p ≤ (d : Int)) || !decide (p % (d : Int) = 0)
def fieldOk (p : Int) : Bool := inB p 2 101 && prime p
theorem prime_iff {p : Int} : prime p = true ↔ ∀ d : Int, 2 ≤ d → d < p → d ≤ 101 → p % d ≠ 0 := by
  unfold prime
  simp only [List.all_eq_true, List.mem_range, Bool.or_eq_true, decide_eq_true_eq, Bool.not_eq_true', decide_eq_false_iff_not]
  constructor
  · intro h d h2 hp h1
    rcases h d.toNat (by omega) with (h | h) | h
    · omega
    · omega
    · rwa [Int.toNat_of_nonneg (by omega)] at h
  · intro h d hd
    by_cases h2 : d < 2
    · exact .inl (.inl h2)
    · by_cases hp : p ≤ (d : Int)
      · exact .inl (.inr hp)
      · exact .inr (h d (by omega) (by omega) (by omega))
theorem fieldOk_range {p : Int} (h : fieldOk p = true) : 2 ≤ p ∧ p ≤ 101 := by
  simp only [fieldOk, Bool.and_eq_true] at h
  exact inB_iff.1 h.1
theorem fieldOk_iff {p : Int} : fieldOk p = true ↔ (2 ≤ p ∧ p ≤ 101) ∧ ∀ d : Int, 2 ≤ d → d < p → d ≤ 101 → p % d ≠ 0 := by
  simp only [fieldOk, Bool.and_eq_true, inB_iff, prime_iff]

/-- Divisors up to the square root decide. -/
theorem small_divisor {p : Int} (h2 : 2 ≤ p) (h1 : p ≤ 101) (h : ∀ d : Int, 2 ≤ d → d * d ≤ p → p % d ≠ 0) : fieldOk p = true := by
  have key : ∀ n : Fin 102, 2 ≤ n.val → (∀ d : Fin 11, 2 ≤ d.val → d.val * d.val ≤ n.val → n.val % d.val ≠ 0) → fieldOk (n.val : Int) = true := by decide +kernel
  have := key ⟨p.toNat, by omega⟩ (by simp; omega) (by
    intro d hd hdd he
    refine h d.val (by omega) ?_ ?_
    · have : ((d.val * d.val : Nat) : Int) ≤ (p.toNat : Int) := by exact_mod_cast hdd
      rw [Int.natCast_mul] at this; omega
    · have : ((p.toNat % d.val : Nat) : Int) = 0 := by exact_mod_cast he
      rw [Int.natCast_emod] at this
      rwa [Int.toNat_of_nonneg (by omega)] at this)
  simpa [Int.toNat_of_nonneg (show 0 ≤ p by omega)] using this

def isEl (p a : Int) : Bool := fieldOk p && inB a 0 (p - 1)
theorem isEl_iff {p a : Int} : isEl p a = true ↔ fieldOk p = true ∧ 0 ≤ a ∧ a ≤ p - 1 := by simp [isEl, inB_iff]
def allIn (p : Int) (xs : List Int) : Bool := xs.all fun a => inB a 0 (p - 1)
def allEl (p : Int) (xs : List Int) : Bool := fieldOk p && allIn p xs
theorem allIn_iff {p : Int} {xs : List Int} : allIn p xs = true ↔ ∀ a ∈ xs, 0 ≤ a ∧ a ≤ p - 1 := by simp [allIn, inB_iff]
theorem allEl_iff {p : Int} {xs : List Int} : allEl p xs = true ↔ fieldOk p = true ∧ ∀ a ∈ xs, 0 ≤ a ∧ a ≤ p - 1 := by simp [allEl, allIn_iff]

def fadd (p a b : Int) : Int := if isEl p a = true ∧ isEl p b = true then (a + b) % p else -1
def fsub (p a b : Int) : Int := if isEl p a = true ∧ isEl p b = true then (a - b + p) % p else -1
def fmul (p a b : Int) : Int := if isEl p a = true ∧ isEl p b = true then a * b % p else -1
/-- the search for an inverse: n rounds from x on -/
def finvGo (p a : Int) : Nat → Int → Int
  | 0, _ => -1
  | n + 1, x => if x < p then (if a * x % p = 1 then x else finvGo p a n (x + 1)) else -1
def finv (p a : Int) : Int := if isEl p a = true then finvGo p a 101 1 else -1

theorem mul_bounds {p a b : Int} (hp : p ≤ 101) (h0 : 0 ≤ a) (h1 : a ≤ p - 1) (h2 : 0 ≤ b) (h3 : b ≤ p - 1) : 0 ≤ a * b ∧ a * b ≤ 10000 := by
  refine ⟨Int.mul_nonneg h0 h2, ?_⟩
  have := Int.mul_le_mul (show a ≤ 100 by omega) (show b ≤ 100 by omega) h2 (by omega)
  omega
end Go.Proofs.YtaacognadfodlaaDoor
