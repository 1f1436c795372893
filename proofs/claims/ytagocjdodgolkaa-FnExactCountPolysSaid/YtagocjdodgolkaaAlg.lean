/- Plain laws: the small prime fields are fields; mixing is one to one. No program in sight. -/
import Derived.Test.YtagocjdodgolkaaPlain
namespace Go.Proofs.Ytagocjdodgolkaa
open Go.RowKit

/-! fields -/
theorem el_of {p a : Int} (hf : fieldOk p = true) (h0 : 0 ≤ a) (h1 : a < p) : isEl p a = true := isEl_iff.2 ⟨hf, h0, by omega⟩
theorem el_mod {p : Int} (hf : fieldOk p = true) (x : Int) : isEl p (x % p) = true := by
  have hr := fieldOk_range hf
  exact el_of hf (Int.emod_nonneg _ (by omega)) (Int.emod_lt_of_pos _ (by omega))
theorem el_lt {p a : Int} (h : isEl p a = true) : 0 ≤ a ∧ a < p := by have := isEl_iff.1 h; omega
theorem el_same {p a : Int} (h : isEl p a = true) : a % p = a := Int.emod_eq_of_lt (el_lt h).1 (el_lt h).2
theorem fadd_eq {p a b : Int} (ha : isEl p a = true) (hb : isEl p b = true) : fadd p a b = (a + b) % p := if_pos ⟨ha, hb⟩
theorem fsub_eq {p a b : Int} (ha : isEl p a = true) (hb : isEl p b = true) : fsub p a b = (a - b) % p := by
  unfold fsub; rw [if_pos ⟨ha, hb⟩, Int.add_emod_right]
theorem fmul_eq {p a b : Int} (ha : isEl p a = true) (hb : isEl p b = true) : fmul p a b = a * b % p := if_pos ⟨ha, hb⟩
theorem el_field {p a : Int} (h : isEl p a = true) : fieldOk p = true := (isEl_iff.1 h).1
theorem el_fadd {p a b : Int} (ha : isEl p a = true) (hb : isEl p b = true) : isEl p (fadd p a b) = true := by rw [fadd_eq ha hb]; exact el_mod (el_field ha) _
theorem el_fsub {p a b : Int} (ha : isEl p a = true) (hb : isEl p b = true) : isEl p (fsub p a b) = true := by rw [fsub_eq ha hb]; exact el_mod (el_field ha) _
theorem el_fmul {p a b : Int} (ha : isEl p a = true) (hb : isEl p b = true) : isEl p (fmul p a b) = true := by rw [fmul_eq ha hb]; exact el_mod (el_field ha) _
theorem el_zero {p : Int} (hf : fieldOk p = true) : isEl p 0 = true := by have := fieldOk_range hf; exact el_of hf (by omega) (by omega)
theorem el_one {p : Int} (hf : fieldOk p = true) : isEl p 1 = true := by have := fieldOk_range hf; exact el_of hf (by omega) (by omega)
theorem f_distrib {p a b c : Int} (ha : isEl p a = true) (hb : isEl p b = true) (hc : isEl p c = true) : fmul p a (fadd p b c) = fadd p (fmul p a b) (fmul p a c) := by
  rw [fmul_eq ha (el_fadd hb hc), fadd_eq hb hc, fadd_eq (el_fmul ha hb) (el_fmul ha hc), fmul_eq ha hb, fmul_eq ha hc, ← Int.add_emod, ← Int.mul_add, Int.mul_emod, Int.emod_emod_of_dvd _ (Int.dvd_refl p), ← Int.mul_emod]
theorem f_addsub {p a b : Int} (ha : isEl p a = true) (hb : isEl p b = true) : fadd p (fsub p a b) b = a := by
  rw [fadd_eq (el_fsub ha hb) hb, fsub_eq ha hb, Int.emod_add_emod, Int.sub_add_cancel, el_same ha]
theorem mod_l (x c p : Int) : x % p * c % p = x * c % p := by rw [Int.mul_emod, Int.emod_emod_of_dvd _ (Int.dvd_refl p), ← Int.mul_emod]
theorem mod_r (x c p : Int) : x * (c % p) % p = x * c % p := by rw [Int.mul_comm, mod_l, Int.mul_comm]
theorem f_assoc {p a b c : Int} (ha : isEl p a = true) (hb : isEl p b = true) (hc : isEl p c = true) : fmul p (fmul p a b) c = fmul p a (fmul p b c) := by
  rw [fmul_eq (el_fmul ha hb) hc, fmul_eq ha hb, fmul_eq ha (el_fmul hb hc), fmul_eq hb hc, mod_l, mod_r, Int.mul_assoc]
theorem f_zero {p a : Int} (ha : isEl p a = true) : fadd p a 0 = a := by rw [fadd_eq ha (el_zero (el_field ha)), Int.add_zero, el_same ha]
theorem f_one {p a : Int} (ha : isEl p a = true) : fmul p a 1 = a := by rw [fmul_eq ha (el_one (el_field ha)), Int.mul_one, el_same ha]

/-! inverses: by computation over the primes up to 101 -/
def invGood (n m : Nat) : Bool := let v := finvGo (n : Int) (m : Int) 101 1; decide (1 ≤ v) && decide (v < (n : Int)) && decide ((m : Int) * v % (n : Int) = 1)
def invAll : Bool := (List.range 102).all fun n => !fieldOk (n : Int) || (List.range n).all fun m => decide (m = 0) || invGood n m
theorem invAll_true : invAll = true := by decide +kernel
theorem finv_good {p a : Int} (ha : isEl p a = true) (h0 : a ≠ 0) : isEl p (finv p a) = true ∧ finv p a ≠ 0 ∧ a * finv p a % p = 1 := by
  obtain ⟨hf, a0, a1⟩ := isEl_iff.1 ha
  have hr := fieldOk_range hf
  obtain ⟨n, rfl⟩ := Int.eq_ofNat_of_zero_le (show 0 ≤ p by omega)
  obtain ⟨m, rfl⟩ := Int.eq_ofNat_of_zero_le a0
  have h := List.all_eq_true.1 invAll_true n (List.mem_range.2 (by omega))
  rw [hf] at h
  simp only [Bool.not_true, Bool.false_or] at h
  have h2 := List.all_eq_true.1 h m (List.mem_range.2 (by omega))
  have hm : decide (m = 0) = false := by simpa using h0
  rw [hm] at h2
  simp only [Bool.false_or, invGood, Bool.and_eq_true, decide_eq_true_eq] at h2
  have e : finv (n : Int) (m : Int) = finvGo (n : Int) (m : Int) 101 1 := by unfold finv; rw [if_pos ha]
  rw [e]
  exact ⟨el_of hf (by omega) h2.1.2, by omega, h2.2⟩
theorem finv_zero {p : Int} (hf : fieldOk p = true) : finv p 0 = -1 := by
  have key : ∀ n x, finvGo p 0 n x = -1 := fun n => by
    induction n with
    | zero => intro x; rfl
    | succ n ih =>
      intro x
      rw [finvGo]
      by_cases h : x < p
      · rw [if_pos h, if_neg (by rw [Int.zero_mul, Int.zero_emod]; decide)]; exact ih _
      · rw [if_neg h]
  unfold finv; rw [if_pos (el_zero hf)]; exact key _ _
theorem primes_ok {p : Int} (h : p ∈ [2, 3, 5, 7, 11, 13, 31, 97, 101]) : fieldOk p = true := by
  simp only [List.mem_cons, List.not_mem_nil, or_false] at h
  rcases h with rfl | rfl | rfl | rfl | rfl | rfl | rfl | rfl | rfl <;> decide +kernel

/-! mixing is one to one -/
def xs16 (n : Nat) : Nat := n ^^^ n / 65536
theorem xs16_lt {n : Nat} (h : n < 4294967296) : xs16 n < 4294967296 := Nat.xor_lt_two_pow (n := 32) h (Nat.lt_of_le_of_lt (Nat.div_le_self _ _) h)
theorem xs16_again {n : Nat} (h : n < 4294967296) : xs16 (xs16 n) = n := by
  have e : xs16 n / 65536 = n / 65536 := by
    unfold xs16
    have := Nat.xor_div_two_pow (a := n) (b := n / 65536) (n := 16)
    rw [show (2 : Nat) ^ 16 = 65536 from rfl] at this
    rw [this, show n / 65536 / 65536 = 0 by omega, Nat.xor_zero]
  have e2 : xs16 (xs16 n) = xs16 n ^^^ xs16 n / 65536 := rfl
  rw [e2, e]
  unfold xs16
  rw [Nat.xor_assoc, Nat.xor_self, Nat.xor_zero]
theorem mixR_inj {m n : Nat} (hm : m < 4294967296) (hn : n < 4294967296) (h : mixR m = mixR n) : m = n := by
  have key : ∀ x : Nat, x < 4294967296 → (x * 73244475 % 4294967296) * 295559667 % 4294967296 = x := fun x hx => by
    rw [Nat.mod_mul_mod, Nat.mul_assoc, ← Nat.mul_mod_mod, show 73244475 * 295559667 % 4294967296 = 1 from by decide, Nat.mul_one, Nat.mod_eq_of_lt hx]
  have e : xs16 m = xs16 n := by
    have h' : xs16 m * 73244475 % 4294967296 = xs16 n * 73244475 % 4294967296 := h
    rw [← key _ (xs16_lt hm), h', key _ (xs16_lt hn)]
  rw [← xs16_again hm, e, xs16_again hn]
theorem mixN_inj {m n : Nat} (hm : m < 4294967296) (hn : n < 4294967296) (h : mixN m = mixN n) : m = n := by
  have e : xs16 (mixR (mixR m)) = xs16 (mixR (mixR n)) := h
  have e2 : mixR (mixR m) = mixR (mixR n) := by rw [← xs16_again (mixR_lt _), e, xs16_again (mixR_lt _)]
  exact mixR_inj hm hn (mixR_inj (mixR_lt _) (mixR_lt _) e2)
theorem mix_inj {a b : Int} (ha : isWord a = true) (hb : isWord b = true) (h : mix a = mix b) : a = b := by
  have a' := isWord_iff.1 ha
  have b' := isWord_iff.1 hb
  unfold mix at h
  rw [if_pos ha, if_pos hb] at h
  have := mixN_inj (m := a.toNat) (n := b.toNat) (by omega) (by omega) (by omega)
  omega
theorem xorN_word {a b : Int} (ha : isWord a = true) (hb : isWord b = true) : isWord (xorN a b) = true := by
  have a' := isWord_iff.1 ha
  have b' := isWord_iff.1 hb
  exact isWord_iff.2 (xorN_bounds a'.1 a'.2 b'.1 b'.2)
theorem xorN_inj {c a b : Int} (ha : isWord a = true) (hb : isWord b = true) (h : xorN c a = xorN c b) : a = b := by
  have a' := isWord_iff.1 ha
  have b' := isWord_iff.1 hb
  unfold xorN at h
  have h2 : c.toNat ^^^ a.toNat = c.toNat ^^^ b.toNat := by omega
  have h3 : a.toNat = b.toNat := by
    have := congrArg (fun x => c.toNat ^^^ x) h2
    simpa [← Nat.xor_assoc] using this
  omega
theorem keyed_inj {k a x y : Int} (hk : isWord k = true) (ha : isWord a = true) (hx : isWord x = true) (hy : isWord y = true) (h : keyed k a x = keyed k a y) : x = y := by
  unfold keyed at h
  rw [if_pos ⟨hk, ha, hx⟩, if_pos ⟨hk, ha, hy⟩] at h
  have w1 := mix_word (xorN (mix k) a)
  exact xorN_inj hx hy (mix_inj (xorN_word w1 hx) (xorN_word w1 hy) h)
theorem keyed_word (k a x : Int) : isWord (keyed k a x) = true := isWord_iff.2 (keyed_bounds k a x)
end Go.Proofs.Ytagocjdodgolkaa
