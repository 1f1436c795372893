/- The walks of the functions on words and of ranges: what each call returns; the world stays as it was. -/
import Derived.Test.YtagocjdodgolkaaRows
import Derived.Test.YtagocjdodgolkaaPlain
import Derived.WalkKit
import Derived.WalkSpells
import Derived.WalkLawsBesides
import Derived.Lib.Hide
namespace Go.Proofs.Ytagocjdodgolkaa
open Go.RowKit

set_option maxHeartbeats 400000 in
theorem c_impl_within (x a b : Int) (w : World) :
    Calls Try.prog 51 #[.int .i64 x, .int .i64 a, .int .i64 b] w fun e w' => e = .returned (.bool (inB x a b)) ∧ w = w' := by
  by_cases h1 : a ≤ x
  · by_cases h2 : x ≤ b
    · go_enter Try.func51, Try.ntmps51
      go_wp2
      go_ret
      exact ⟨by simp [inB, h1, h2], rfl⟩
    · go_enter Try.func51, Try.ntmps51
      go_wp2
      go_ret
      exact ⟨by simp [inB, h1, h2], rfl⟩
  · go_enter Try.func51, Try.ntmps51
    go_wp2
    go_ret
    exact ⟨by simp [inB]; omega, rfl⟩
set_option maxHeartbeats 400000 in
theorem c_spec_l01In (x a b : Int) (w : World) :
    Calls Try.prog 50 #[.int .i64 x, .int .i64 a, .int .i64 b] w fun e w' => e = .returned (.bool (inB x a b)) ∧ w = w' := by
  by_cases h1 : a ≤ x
  · by_cases h2 : x ≤ b
    · go_enter Try.func50, Try.ntmps50
      go_wp2
      go_ret
      exact ⟨by simp [inB, h1, h2], rfl⟩
    · go_enter Try.func50, Try.ntmps50
      go_wp2
      go_ret
      exact ⟨by simp [inB, h1, h2], rfl⟩
  · go_enter Try.func50, Try.ntmps50
    go_wp2
    go_ret
    exact ⟨by simp [inB]; omega, rfl⟩
set_option maxHeartbeats 400000 in
theorem c_impl_IsWord (x : Int) (w : World) :
    Calls Try.prog 75 #[.int .i64 x] w fun e w' => e = .returned (.bool (isWord x)) ∧ w = w' := by
  go_enter Try.func75, Try.ntmps75
  go_wp2_with (go_at_call 51; (with_reducible refine (c_impl_within _ _ _ _).mono ?_); rintro e w' ⟨rfl, rfl⟩)
  go_ret
  exact ⟨rfl, rfl⟩
set_option maxHeartbeats 400000 in
theorem c_spec_IsWord (x : Int) (w : World) :
    Calls Try.prog 77 #[.int .i64 x] w fun e w' => e = .returned (.bool (isWord x)) ∧ w = w' := by
  go_enter Try.func77, Try.ntmps77
  go_wp2_with (go_at_call 50; (with_reducible refine (c_spec_l01In _ _ _ _).mono ?_); rintro e w' ⟨rfl, rfl⟩)
  go_ret
  exact ⟨rfl, rfl⟩
theorem xs_lt (m : Nat) (h : m < 4294967296) : m ^^^ m / 65536 < 4294967296 := Nat.xor_lt_two_pow (n := 32) h (Nat.lt_of_le_of_lt (Nat.div_le_self _ _) h)
theorem xs_bits (m : Nat) (h : m < 4294967296) : bits .xor .i64 (m : Int) ((m : Int) / 65536) = ((m ^^^ m / 65536 : Nat) : Int) := by
  have := bits_nn .xor .i64 rfl m (m / 65536) h (by omega) (.inr rfl)
  simpa using this
theorem mul_bits (y : Nat) (h : y < 4294967296) : bits .and .i64 ((y : Int) * 73244475) 4294967295 = ((y * 73244475 % 4294967296 : Nat) : Int) := by
  rw [bits_mask32 (by omega) (by omega)]
  omega
theorem mixR_of (m y : Nat) (h : m ^^^ m / 65536 = y) : mixR m = y * 73244475 % 4294967296 := by unfold mixR; rw [h]
def MixRel (n k m : Nat) : Prop := (k = 0 ∧ m = n) ∨ (k = 1 ∧ m = mixR n) ∨ (k = 2 ∧ m = mixR (mixR n))
theorem MixRel.zero (n : Nat) : MixRel n 0 n := .inl ⟨rfl, rfl⟩
theorem MixRel.step {n k m : Nat} (hk : k < 2) (h : MixRel n k m) : MixRel n (k + 1) (mixR m) := by
  rcases h with ⟨rfl, rfl⟩ | ⟨rfl, rfl⟩ | ⟨rfl, rfl⟩
  · exact .inr (.inl ⟨rfl, rfl⟩)
  · exact .inr (.inr ⟨rfl, rfl⟩)
  · omega
theorem MixRel.done {n m : Nat} (h : MixRel n 2 m) : mixN n = m ^^^ m / 65536 := by
  rcases h with ⟨h, _⟩ | ⟨h, _⟩ | ⟨_, rfl⟩
  · omega
  · omega
  · rfl

set_option maxHeartbeats 400000 in
theorem c_impl_Mix (a : Int) (w : World) :
    Calls Try.prog 83 #[.int .i64 a] w fun e w' => e = .returned (.int .i64 (mix a)) ∧ w = w' := by
  cases h1 : isWord a
  · go_enter Try.func83, Try.ntmps83
    go_wp2_with (go_at_call 75; (with_reducible refine (c_impl_IsWord _ _).mono ?_); rintro e w' ⟨rfl, rfl⟩)
    go_ret
    exact ⟨by simp [mix, h1], rfl⟩
  · have ha := isWord_iff.1 h1
    have hfin := Lib.hid (show mix a = ((mixN a.toNat : Nat) : Int) by simp [mix, h1])
    obtain ⟨n, rfl⟩ := Int.eq_ofNat_of_zero_le ha.1
    have hn : n < 4294967296 := by omega
    rw [Int.toNat_natCast] at hfin
    go_enter Try.func83, Try.ntmps83
    go_wp2_with (go_at_call 75; (with_reducible refine (c_impl_IsWord _ _).mono ?_); rintro e w' ⟨rfl, rfl⟩)
    go_loop [0, 3] (fun x i => ∃ k m : Nat, k ≤ 2 ∧ m < 4294967296 ∧ i = .int .i64 k ∧ x = .int .i64 m ∧ MixRel n k m) (fun _ i => 2 - (intOf i).toNat)
    case atStart => exact ⟨0, n, by omega, hn, rfl, rfl, MixRel.zero n⟩
    case round =>
      obtain ⟨k, m, hk, hm, rfl, rfl, hr⟩ := hrel
      have hy := xs_lt m hm
      have hx := xs_bits m hm
      generalize hyy : m ^^^ m / 65536 = y at *
      have HY := Lib.hid hyy
      clear hyy
      have hz := mul_bits y hy
      by_cases hlt : k < 2
      · go_wp2
        go_round
        case rel => exact ⟨k + 1, mixR m, by omega, mixR_lt m, by go_num, by rw [mixR_of m y HY.out]; simp, MixRel.step hlt hr⟩
        case measure => simp [intOf]; omega
      · obtain rfl : k = 2 := by omega
        go_wp2
        go_ret
        exact ⟨ret_int (by rw [hfin.out, MixRel.done hr, HY.out]), rfl⟩
set_option maxHeartbeats 400000 in
theorem c_spec_Mix (a : Int) (w : World) :
    Calls Try.prog 82 #[.int .i64 a] w fun e w' => e = .returned (.int .i64 (mix a)) ∧ w = w' := by
  cases h1 : isWord a
  · go_enter Try.func82, Try.ntmps82
    go_wp2_with (go_at_call 77; (with_reducible refine (c_spec_IsWord _ _).mono ?_); rintro e w' ⟨rfl, rfl⟩)
    go_ret
    exact ⟨by simp [mix, h1], rfl⟩
  · have ha := isWord_iff.1 h1
    have hfin := Lib.hid (show mix a = ((mixN a.toNat : Nat) : Int) by simp [mix, h1])
    obtain ⟨n, rfl⟩ := Int.eq_ofNat_of_zero_le ha.1
    have hn : n < 4294967296 := by omega
    rw [Int.toNat_natCast] at hfin
    go_enter Try.func82, Try.ntmps82
    go_wp2_with (go_at_call 77; (with_reducible refine (c_spec_IsWord _ _).mono ?_); rintro e w' ⟨rfl, rfl⟩)
    go_loop [0, 3] (fun x i => ∃ k m : Nat, k ≤ 2 ∧ m < 4294967296 ∧ i = .int .i64 k ∧ x = .int .i64 m ∧ MixRel n k m) (fun _ i => 2 - (intOf i).toNat)
    case atStart => exact ⟨0, n, by omega, hn, rfl, rfl, MixRel.zero n⟩
    case round =>
      obtain ⟨k, m, hk, hm, rfl, rfl, hr⟩ := hrel
      have hy := xs_lt m hm
      have hx := xs_bits m hm
      generalize hyy : m ^^^ m / 65536 = y at *
      have HY := Lib.hid hyy
      clear hyy
      have hz := mul_bits y hy
      by_cases hlt : k < 2
      · go_wp2
        go_round
        case rel => exact ⟨k + 1, mixR m, by omega, mixR_lt m, by go_num, by rw [mixR_of m y HY.out]; simp, MixRel.step hlt hr⟩
        case measure => simp [intOf]; omega
      · obtain rfl : k = 2 := by omega
        go_wp2
        go_ret
        exact ⟨ret_int (by rw [hfin.out, MixRel.done hr, HY.out]), rfl⟩
set_option maxHeartbeats 400000 in
theorem c_impl_Keyed (key a b : Int) (w : World) :
    Calls Try.prog 81 #[.int .i64 key, .int .i64 a, .int .i64 b] w fun e w' => e = .returned (.int .i64 (keyed key a b)) ∧ w = w' := by
  cases h1 : isWord key
  · go_enter Try.func81, Try.ntmps81
    go_wp2_with (go_at_call 75; (with_reducible refine (c_impl_IsWord _ _).mono ?_); rintro e w' ⟨rfl, rfl⟩)
    go_ret
    exact ⟨by simp [keyed, h1], rfl⟩
  cases h2 : isWord a
  · go_enter Try.func81, Try.ntmps81
    go_wp2_with (go_at_call 75; (with_reducible refine (c_impl_IsWord _ _).mono ?_); rintro e w' ⟨rfl, rfl⟩)
    go_ret
    exact ⟨by simp [keyed, h2], rfl⟩
  cases h3 : isWord b
  · go_enter Try.func81, Try.ntmps81
    go_wp2_with (go_at_call 75; (with_reducible refine (c_impl_IsWord _ _).mono ?_); rintro e w' ⟨rfl, rfl⟩)
    go_ret
    exact ⟨by simp [keyed, h3], rfl⟩
  have hfin := Lib.hid (show keyed key a b = mix (xorN (mix (xorN (mix key) a)) b) by simp [keyed, h1, h2, h3])
  have b1 := mix_bounds key
  have b2 := mix_bounds (xorN (mix key) a)
  have ha := isWord_iff.1 h2
  have hb := isWord_iff.1 h3
  have e1 := bits_xor b1.1 b1.2 ha.1 ha.2
  have e2 := bits_xor b2.1 b2.2 hb.1 hb.2
  go_enter Try.func81, Try.ntmps81
  go_wp2_with (first | (go_at_call 75; (with_reducible refine (c_impl_IsWord _ _).mono ?_); rintro e w' ⟨rfl, rfl⟩) | (go_at_call 83; (with_reducible refine (c_impl_Mix _ _).mono ?_); rintro e w' ⟨rfl, rfl⟩))
  go_ret
  exact ⟨ret_int hfin.out.symm, rfl⟩
set_option maxHeartbeats 400000 in
theorem c_spec_Keyed (key a b : Int) (w : World) :
    Calls Try.prog 80 #[.int .i64 key, .int .i64 a, .int .i64 b] w fun e w' => e = .returned (.int .i64 (keyed key a b)) ∧ w = w' := by
  cases h1 : isWord key
  · go_enter Try.func80, Try.ntmps80
    go_wp2_with (go_at_call 77; (with_reducible refine (c_spec_IsWord _ _).mono ?_); rintro e w' ⟨rfl, rfl⟩)
    go_ret
    exact ⟨by simp [keyed, h1], rfl⟩
  cases h2 : isWord a
  · go_enter Try.func80, Try.ntmps80
    go_wp2_with (go_at_call 77; (with_reducible refine (c_spec_IsWord _ _).mono ?_); rintro e w' ⟨rfl, rfl⟩)
    go_ret
    exact ⟨by simp [keyed, h2], rfl⟩
  cases h3 : isWord b
  · go_enter Try.func80, Try.ntmps80
    go_wp2_with (go_at_call 77; (with_reducible refine (c_spec_IsWord _ _).mono ?_); rintro e w' ⟨rfl, rfl⟩)
    go_ret
    exact ⟨by simp [keyed, h3], rfl⟩
  have hfin := Lib.hid (show keyed key a b = mix (xorN (mix (xorN (mix key) a)) b) by simp [keyed, h1, h2, h3])
  have b1 := mix_bounds key
  have b2 := mix_bounds (xorN (mix key) a)
  have ha := isWord_iff.1 h2
  have hb := isWord_iff.1 h3
  have e1 := bits_xor b1.1 b1.2 ha.1 ha.2
  have e2 := bits_xor b2.1 b2.2 hb.1 hb.2
  go_enter Try.func80, Try.ntmps80
  go_wp2_with (first | (go_at_call 77; (with_reducible refine (c_spec_IsWord _ _).mono ?_); rintro e w' ⟨rfl, rfl⟩) | (go_at_call 82; (with_reducible refine (c_spec_Mix _ _).mono ?_); rintro e w' ⟨rfl, rfl⟩))
  go_ret
  exact ⟨ret_int hfin.out.symm, rfl⟩
def clampF (n lo hi : Int) : Int := if hi < lo ∨ n < lo then lo else if hi < n then hi else n

end Go.Proofs.Ytagocjdodgolkaa
