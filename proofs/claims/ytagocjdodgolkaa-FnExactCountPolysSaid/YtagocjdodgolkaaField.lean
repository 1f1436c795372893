/- The walks of the functions on small prime fields: what each call returns. -/
import Derived.Test.YtagocjdodgolkaaRows
import Derived.Test.YtagocjdodgolkaaPlain
import Derived.Test.YtagocjdodgolkaaMem
import Derived.Test.YtagocjdodgolkaaWords
import Derived.WalkKit
import Derived.WalkSpells
import Derived.WalkLawsBesides
import Derived.Lib.Hide
namespace Go.Proofs.Ytagocjdodgolkaa
open Go.RowKit

/-- no divisor of p from 2 on and below k -/
def NoDiv (p : Int) (k : Nat) : Prop := ∀ d : Int, 2 ≤ d → d < k → p % d ≠ 0
theorem NoDiv.two (p : Int) : NoDiv p 2 := fun d h1 h2 => by omega
theorem NoDiv.step {p : Int} {k : Nat} (h : NoDiv p k) (hm : (p % (k : Int) == 0) = false) : NoDiv p (k + 1) := fun d h1 h2 => by
  by_cases e : d < (k : Int)
  · exact h d h1 e
  · obtain rfl : d = (k : Int) := by omega
    simpa using hm
theorem NoDiv.bad {p : Int} {k : Nat} (h2 : 2 ≤ k) (hk : k ≤ 101) (hlt : (k : Int) < p) (hm : (p % (k : Int) == 0) = true) : fieldOk p = false := by
  rw [Bool.eq_false_iff]
  intro h
  exact (fieldOk_iff.1 h).2 k (by omega) hlt (by omega) (by simpa using hm)
theorem NoDiv.good {p : Int} {k : Nat} (h : NoDiv p k) (hlt : ¬ (k : Int) < p) : inB p 2 101 = fieldOk p := by
  cases hb : inB p 2 101
  · simp [fieldOk, hb]
  · refine (fieldOk_iff.2 ⟨inB_iff.1 hb, fun d h1 h2 _ => h d h1 (by omega)⟩).symm
theorem large_no {p : Int} {k : Nat} (hk : ¬ k ≤ 101) (hlt : (k : Int) < p) : inB p 2 101 = fieldOk p := by
  have hb : inB p 2 101 = false := inB_no.2 (by omega)
  simp [fieldOk, hb]
theorem NoDiv.sqrt {p : Int} {k : Nat} (h2 : 2 ≤ p) (h1 : p ≤ 101) (h : NoDiv p k) (hq : ¬ (k : Int) * (k : Int) ≤ p) : fieldOk p = true :=
  small_divisor h2 h1 fun d hd hdd => h d hd (by
    rcases Int.lt_or_le d (k : Int) with hh | hh
    · exact hh
    · have := Int.mul_le_mul hh hh (by omega) (by omega)
      omega)
theorem sq_small {p : Int} {k : Nat} (h1 : p ≤ 101) (hq : (k : Int) * (k : Int) ≤ p) : k ≤ 10 := by
  rcases Nat.lt_or_ge 10 k with hh | hh
  · have : (11 : Int) * 11 ≤ (k : Int) * (k : Int) := Int.mul_le_mul (by omega) (by omega) (by omega) (by omega)
    omega
  · exact hh
theorem sq_le {k : Nat} (hk : k ≤ 11) : 0 ≤ (k : Int) * (k : Int) ∧ (k : Int) * (k : Int) ≤ 121 :=
  ⟨Int.mul_nonneg (by omega) (by omega), by
    have := Int.mul_le_mul (show (k : Int) ≤ 11 by omega) (show (k : Int) ≤ 11 by omega) (by omega) (by omega)
    omega⟩

set_option maxHeartbeats 400000 in
theorem c_impl_FieldOk (p : Int) (w : World) :
    Calls Try.prog 69 #[.int .i64 p] w fun e w' => e = .returned (.bool (fieldOk p)) ∧ w = w' := by
  go_enter Try.func69, Try.ntmps69
  go_wp2_with fail
  go_loop [3] (fun d => ∃ k : Nat, 2 ≤ k ∧ k ≤ 102 ∧ d = .int .i64 k ∧ NoDiv p k) (fun d => 102 - (intOf d).toNat)
  case atStart => exact ⟨2, by omega, by omega, rfl, NoDiv.two p⟩
  case round =>
    obtain ⟨k, h2, hk, rfl, hn⟩ := hrel
    by_cases hlt : (k : Int) < p
    · by_cases h1 : k ≤ 101
      · cases hm : (p % (k : Int) == 0)
        · have hs := hn.step hm
          go_wp2_with fail
          go_round
          case rel => exact ⟨k + 1, by omega, by omega, by go_num, hs⟩
          case measure => simp [intOf]; omega
        · have hfin := Lib.hid (NoDiv.bad h2 h1 hlt hm)
          go_wp2_with fail
          go_ret
          exact ⟨ret_bool hfin.out.symm, rfl⟩
      · have hfin := Lib.hid (large_no h1 hlt)
        go_wp2_with (go_at_call 51; (with_reducible refine (c_impl_within _ _ _ _).mono ?_); rintro e w' ⟨rfl, rfl⟩)
        go_ret
        exact ⟨ret_bool hfin.out, rfl⟩
    · have hfin := Lib.hid (hn.good hlt)
      go_wp2_with (go_at_call 51; (with_reducible refine (c_impl_within _ _ _ _).mono ?_); rintro e w' ⟨rfl, rfl⟩)
      go_ret
      exact ⟨ret_bool hfin.out, rfl⟩
set_option maxHeartbeats 400000 in
theorem c_spec_FieldOk (p : Int) (w : World) :
    Calls Try.prog 68 #[.int .i64 p] w fun e w' => e = .returned (.bool (fieldOk p)) ∧ w = w' := by
  cases hb : inB p 2 101
  · go_enter Try.func68, Try.ntmps68
    go_wp2_with (go_at_call 50; (with_reducible refine (c_spec_l01In _ _ _ _).mono ?_); rintro e w' ⟨rfl, rfl⟩)
    go_ret
    exact ⟨ret_bool (by simp [fieldOk, hb]), rfl⟩
  · have hr := inB_iff.1 hb
    have hr1 := hr.1
    have hr2 := hr.2
    clear hr
    go_enter Try.func68, Try.ntmps68
    go_wp2_with (go_at_call 50; (with_reducible refine (c_spec_l01In _ _ _ _).mono ?_); rintro e w' ⟨rfl, rfl⟩)
    go_loop [3] (fun d => ∃ k : Nat, 2 ≤ k ∧ k ≤ 11 ∧ d = .int .i64 k ∧ NoDiv p k) (fun d => 11 - (intOf d).toNat)
    case atStart => exact ⟨2, by omega, by omega, rfl, NoDiv.two p⟩
    case round =>
      obtain ⟨k, h2, hk, rfl, hn⟩ := hrel
      have hs := sq_le hk
      have hs1 := hs.1
      have hs2 := hs.2
      clear hs
      by_cases hq : (k : Int) * (k : Int) ≤ p
      · have h10 := sq_small hr2 hq
        cases hm : (p % (k : Int) == 0)
        · have hs := hn.step hm
          go_wp2_with fail
          go_round
          case rel => exact ⟨k + 1, by omega, by omega, by go_num, hs⟩
          case measure => simp [intOf]; omega
        · have hkp : (k : Int) < p := by
            have := Int.mul_le_mul (a := 2) (b := (k : Int)) (c := (k : Int)) (d := (k : Int)) (by omega) (by omega) (by omega) (by omega)
            omega
          have hfin := Lib.hid (NoDiv.bad h2 (by omega) hkp hm)
          go_wp2_with fail
          go_ret
          exact ⟨ret_bool hfin.out.symm, rfl⟩
      · have hfin := Lib.hid (hn.sqrt hr1 hr2 hq)
        go_wp2_with fail
        go_ret
        exact ⟨ret_bool hfin.out.symm, rfl⟩
set_option maxHeartbeats 400000 in
theorem c_impl_IsElement (p a : Int) (w : World) :
    Calls Try.prog 49 #[.int .i64 p, .int .i64 a] w fun e w' => e = .returned (.bool (isEl p a)) ∧ w = w' := by
  cases h1 : fieldOk p
  · go_enter Try.func49, Try.ntmps49
    go_wp2_with (go_at_call 69; (with_reducible refine (c_impl_FieldOk _ _).mono ?_); rintro e w' ⟨rfl, rfl⟩)
    go_ret
    exact ⟨ret_bool (by simp [isEl, h1]), rfl⟩
  · have hr := fieldOk_range h1
    go_enter Try.func49, Try.ntmps49
    go_wp2_with (first | (go_at_call 69; (with_reducible refine (c_impl_FieldOk _ _).mono ?_); rintro e w' ⟨rfl, rfl⟩) | (go_at_call 51; (with_reducible refine (c_impl_within _ _ _ _).mono ?_); rintro e w' ⟨rfl, rfl⟩))
    go_ret
    exact ⟨ret_bool (by simp [isEl, h1]), rfl⟩
set_option maxHeartbeats 400000 in
theorem c_spec_IsElement (p a : Int) (w : World) :
    Calls Try.prog 47 #[.int .i64 p, .int .i64 a] w fun e w' => e = .returned (.bool (isEl p a)) ∧ w = w' := by
  cases h1 : fieldOk p
  · go_enter Try.func47, Try.ntmps47
    go_wp2_with (go_at_call 68; (with_reducible refine (c_spec_FieldOk _ _).mono ?_); rintro e w' ⟨rfl, rfl⟩)
    go_ret
    exact ⟨ret_bool (by simp [isEl, h1]), rfl⟩
  · have hr := fieldOk_range h1
    go_enter Try.func47, Try.ntmps47
    go_wp2_with (first | (go_at_call 68; (with_reducible refine (c_spec_FieldOk _ _).mono ?_); rintro e w' ⟨rfl, rfl⟩) | (go_at_call 50; (with_reducible refine (c_spec_l01In _ _ _ _).mono ?_); rintro e w' ⟨rfl, rfl⟩))
    go_ret
    exact ⟨ret_bool (by simp [isEl, h1]), rfl⟩
set_option maxHeartbeats 400000 in
theorem c_spec_l03Both (p a b : Int) (w : World) :
    Calls Try.prog 70 #[.int .i64 p, .int .i64 a, .int .i64 b] w fun e w' => e = .returned (.bool (isEl p a && isEl p b)) ∧ w = w' := by
  cases h1 : isEl p a
  · go_enter Try.func70, Try.ntmps70
    go_wp2_with (go_at_call 47; (with_reducible refine (c_spec_IsElement _ _ _).mono ?_); rintro e w' ⟨rfl, rfl⟩)
    go_ret
    exact ⟨rfl, rfl⟩
  · go_enter Try.func70, Try.ntmps70
    go_wp2_with (go_at_call 47; (with_reducible refine (c_spec_IsElement _ _ _).mono ?_); rintro e w' ⟨rfl, rfl⟩)
    go_ret
    exact ⟨rfl, rfl⟩
theorem allIn_take {p : Int} {xs : List Int} {k : Nat} (hk : k < xs.length) (h : allIn p (xs.take k) = true) (hb : inB (xs.getD k 0) 0 (p - 1) = true) : allIn p (xs.take (k + 1)) = true := by
  rw [List.take_succ_eq_append_getElem hk, allIn, List.all_append, ← allIn, h]
  rw [List.getD_eq_getElem?_getD, List.getElem?_eq_getElem hk] at hb
  simpa using hb
theorem allEl_bad {p : Int} {xs : List Int} {k : Nat} (hk : k < xs.length) (hb : inB (xs.getD k 0) 0 (p - 1) = false) : allEl p xs = false := by
  rw [Bool.eq_false_iff]
  intro h
  rw [List.getD_eq_getElem?_getD, List.getElem?_eq_getElem hk] at hb
  have h2 := (allEl_iff.1 h).2 xs[k] (List.getElem_mem hk)
  exact (inB_no.1 hb) (by simpa using h2)
set_option maxHeartbeats 1000000 in
theorem c_impl_areElements (p : Int) (A : Option Addr) (n c B : Nat) (xs : List Int) (w : World) (hx : SliceI w B A n xs) (hmax : n ≤ maxLen) :
    Calls Try.prog 46 #[.int .i64 p, .slice A n c] w fun e w' => e = .returned (.bool (allEl p xs)) ∧ w = w' := by
  unfold maxLen at hmax
  have HX := Lib.hid hx
  have hl := Lib.hid hx.len
  clear hx
  cases h1 : fieldOk p
  · have hfin := Lib.hid (show allEl p xs = false by simp [allEl, h1])
    go_enter Try.func46, Try.ntmps46
    go_wp2_with fail
    go_loop [6, 9] (fun a i => ∃ k : Nat, k ≤ n ∧ i = .int .i64 k) (fun _ i => n - (intOf i).toNat)
    case atStart => exact ⟨0, by omega, rfl⟩
    case round =>
      obtain ⟨k, hk, rfl⟩ := hrel
      by_cases hlt : k < n
      · obtain ⟨b, off, rfl, hbB, hc⟩ := HX.out.at_ hlt
        generalize xs.getD k 0 = x at hc
        cases hb : inB x 0 (wrap64 (p - 1))
        · go_wp2_with (go_at_call 51; (with_reducible refine (c_impl_within _ _ _ _).mono ?_); rintro e w' ⟨rfl, rfl⟩)
          go_ret
          exact ⟨ret_bool hfin.out.symm, rfl⟩
        · go_wp2_with (go_at_call 51; (with_reducible refine (c_impl_within _ _ _ _).mono ?_); rintro e w' ⟨rfl, rfl⟩)
          go_round
          case rel => exact ⟨k + 1, by omega, by go_num⟩
          case measure => simp [intOf]; omega
      · go_wp2_with (go_at_call 69; (with_reducible refine (c_impl_FieldOk _ _).mono ?_); rintro e w' ⟨rfl, rfl⟩)
        go_ret
        exact ⟨ret_bool hfin.out.symm, rfl⟩
  · have hr := fieldOk_range h1
    have hr1 := hr.1
    have hr2 := hr.2
    clear hr
    go_enter Try.func46, Try.ntmps46
    go_wp2_with fail
    go_loop [6, 9] (fun a i => ∃ k : Nat, k ≤ n ∧ i = .int .i64 k ∧ allIn p (xs.take k) = true) (fun _ i => n - (intOf i).toNat)
    case atStart => exact ⟨0, by omega, rfl, rfl⟩
    case round =>
      obtain ⟨k, hk, rfl, hin⟩ := hrel
      have HIN := Lib.hid hin
      clear hin
      by_cases hlt : k < n
      · obtain ⟨b, off, rfl, hbB, hc⟩ := HX.out.at_ hlt
        have hgood := fun hb => Lib.hid (allIn_take (p := p) (xs := xs) (k := k) (by rw [hl.out]; exact hlt) HIN.out hb)
        have hbad := fun hb => Lib.hid (allEl_bad (p := p) (xs := xs) (k := k) (by rw [hl.out]; exact hlt) hb)
        generalize xs.getD k 0 = x at hc hgood hbad
        cases hb : inB x 0 (p - 1)
        · have hfin := hbad hb
          clear hbad hgood
          go_wp2_with (go_at_call 51; (with_reducible refine (c_impl_within _ _ _ _).mono ?_); rintro e w' ⟨rfl, rfl⟩)
          go_ret
          exact ⟨ret_bool hfin.out.symm, rfl⟩
        · have hfin := hgood hb
          clear hbad hgood
          go_wp2_with (go_at_call 51; (with_reducible refine (c_impl_within _ _ _ _).mono ?_); rintro e w' ⟨rfl, rfl⟩)
          go_round
          case rel => exact ⟨k + 1, by omega, by go_num, hfin.out⟩
          case measure => simp [intOf]; omega
      · have hfin := Lib.hid (show true = allEl p xs by
          have e := HIN.out
          rw [List.take_of_length_le (by rw [hl.out]; omega)] at e
          simp [allEl, h1, e])
        go_wp2_with (go_at_call 69; (with_reducible refine (c_impl_FieldOk _ _).mono ?_); rintro e w' ⟨rfl, rfl⟩)
        go_ret
        exact ⟨ret_bool hfin.out, rfl⟩

theorem allEl_two (p a b : Int) : allEl p [a, b] = (isEl p a && isEl p b) := by
  simp only [allEl, allIn, isEl, List.all_cons, List.all_nil, Bool.and_true]
  cases fieldOk p <;> simp
theorem both_bounds {p a b : Int} (h : (isEl p a && isEl p b) = true) : 2 ≤ p ∧ p ≤ 101 ∧ 0 ≤ a ∧ a ≤ p - 1 ∧ 0 ≤ b ∧ b ≤ p - 1 ∧ 0 ≤ a * b ∧ a * b ≤ 10000 := by
  simp only [Bool.and_eq_true, isEl_iff] at h
  obtain ⟨⟨hf, h1, h2⟩, _, h3, h4⟩ := h
  obtain ⟨h5, h6⟩ := fieldOk_range hf
  exact ⟨h5, h6, h1, h2, h3, h4, mul_bounds h6 h1 h2 h3 h4⟩
theorem fadd_no {p a b : Int} (h : (isEl p a && isEl p b) = false) : fadd p a b = -1 := by
  unfold fadd; rw [if_neg]; simpa using h
theorem fsub_no {p a b : Int} (h : (isEl p a && isEl p b) = false) : fsub p a b = -1 := by
  unfold fsub; rw [if_neg]; simpa using h
theorem fmul_no {p a b : Int} (h : (isEl p a && isEl p b) = false) : fmul p a b = -1 := by
  unfold fmul; rw [if_neg]; simpa using h
theorem fadd_yes {p a b : Int} (h : (isEl p a && isEl p b) = true) : fadd p a b = (a + b) % p := by
  unfold fadd; rw [if_pos]; simpa using h
theorem fsub_yes {p a b : Int} (h : (isEl p a && isEl p b) = true) : fsub p a b = (a - b + p) % p := by
  unfold fsub; rw [if_pos]; simpa using h
theorem fmul_yes {p a b : Int} (h : (isEl p a && isEl p b) = true) : fmul p a b = a * b % p := by
  unfold fmul; rw [if_pos]; simpa using h
theorem fadd_yes' {p a b : Int} (h : (isEl p a && isEl p b) = true) : fadd p a b = (a + b) % p := fadd_yes h
theorem fsub_yes' {p a b : Int} (h : (isEl p a && isEl p b) = true) : fsub p a b = (a + p - b) % p := by
  rw [fsub_yes h, show a - b + p = a + p - b by omega]
theorem fmul_yes' {p a b : Int} (h : (isEl p a && isEl p b) = true) : fmul p a b = a * b % p := fmul_yes h

set_option maxHeartbeats 400000 in
theorem c_spec_FAdd (p a b : Int) (w : World) :
    Calls Try.prog 54 #[.int .i64 p, .int .i64 a, .int .i64 b] w fun e w' => e = .returned (.int .i64 (fadd p a b)) ∧ w = w' := by
  cases hb : (isEl p a && isEl p b)
  · have hfin := Lib.hid (show fadd p a b = -1 from fadd_no hb)
    go_enter Try.func54, Try.ntmps54
    go_wp2_with (go_at_call 70; (with_reducible refine (c_spec_l03Both _ _ _ _).mono ?_); rintro e w' ⟨rfl, rfl⟩)
    go_ret
    exact ⟨ret_int hfin.out.symm, rfl⟩
  · obtain ⟨hp2, hp1, ha0, ha1, hb0, hb1, hm0, hm1⟩ := both_bounds hb
    have hfin := Lib.hid (show fadd p a b = (a + b) % p from fadd_yes' hb)
    go_enter Try.func54, Try.ntmps54
    go_wp2_with (go_at_call 70; (with_reducible refine (c_spec_l03Both _ _ _ _).mono ?_); rintro e w' ⟨rfl, rfl⟩)
    go_ret
    exact ⟨ret_int hfin.out.symm, rfl⟩
set_option maxHeartbeats 400000 in
theorem c_impl_FAdd (p a b : Int) (w : World) :
    Calls Try.prog 56 #[.int .i64 p, .int .i64 a, .int .i64 b] w fun e w' => e = .returned (.int .i64 (fadd p a b)) ∧ Below w.heap.size w w' := by
  have hs := SliceI.two w a b 3
  have hall := allEl_two p a b
  cases hb : allEl p [a, b]
  · have hfin := Lib.hid (show fadd p a b = -1 from fadd_no (hall.symm.trans hb))
    clear hall
    go_enter Try.func56, Try.ntmps56
    go_wp2_with (go_at_call 46; (with_reducible refine (c_impl_areElements _ _ _ _ _ _ _ hs (by unfold maxLen; omega)).mono ?_); rintro e w' ⟨rfl, rfl⟩)
    go_ret
    exact ⟨ret_int hfin.out.symm, (Below.refl _ _).alloc (Nat.le_refl _) _⟩
  · obtain ⟨hp2, hp1, ha0, ha1, hb0, hb1, hm0, hm1⟩ := both_bounds (hall.symm.trans hb)
    have hfin := Lib.hid (show fadd p a b = (a + b) % p from fadd_yes (hall.symm.trans hb))
    clear hall
    go_enter Try.func56, Try.ntmps56
    go_wp2_with (go_at_call 46; (with_reducible refine (c_impl_areElements _ _ _ _ _ _ _ hs (by unfold maxLen; omega)).mono ?_); rintro e w' ⟨rfl, rfl⟩)
    go_ret
    exact ⟨ret_int hfin.out.symm, (Below.refl _ _).alloc (Nat.le_refl _) _⟩
set_option maxHeartbeats 400000 in
theorem c_spec_FSub (p a b : Int) (w : World) :
    Calls Try.prog 58 #[.int .i64 p, .int .i64 a, .int .i64 b] w fun e w' => e = .returned (.int .i64 (fsub p a b)) ∧ w = w' := by
  cases hb : (isEl p a && isEl p b)
  · have hfin := Lib.hid (show fsub p a b = -1 from fsub_no hb)
    go_enter Try.func58, Try.ntmps58
    go_wp2_with (go_at_call 70; (with_reducible refine (c_spec_l03Both _ _ _ _).mono ?_); rintro e w' ⟨rfl, rfl⟩)
    go_ret
    exact ⟨ret_int hfin.out.symm, rfl⟩
  · obtain ⟨hp2, hp1, ha0, ha1, hb0, hb1, hm0, hm1⟩ := both_bounds hb
    have hfin := Lib.hid (show fsub p a b = (a + p - b) % p from fsub_yes' hb)
    go_enter Try.func58, Try.ntmps58
    go_wp2_with (go_at_call 70; (with_reducible refine (c_spec_l03Both _ _ _ _).mono ?_); rintro e w' ⟨rfl, rfl⟩)
    go_ret
    exact ⟨ret_int hfin.out.symm, rfl⟩
set_option maxHeartbeats 400000 in
theorem c_impl_FSub (p a b : Int) (w : World) :
    Calls Try.prog 67 #[.int .i64 p, .int .i64 a, .int .i64 b] w fun e w' => e = .returned (.int .i64 (fsub p a b)) ∧ Below w.heap.size w w' := by
  have hs := SliceI.two w a b 3
  have hall := allEl_two p a b
  cases hb : allEl p [a, b]
  · have hfin := Lib.hid (show fsub p a b = -1 from fsub_no (hall.symm.trans hb))
    clear hall
    go_enter Try.func67, Try.ntmps67
    go_wp2_with (go_at_call 46; (with_reducible refine (c_impl_areElements _ _ _ _ _ _ _ hs (by unfold maxLen; omega)).mono ?_); rintro e w' ⟨rfl, rfl⟩)
    go_ret
    exact ⟨ret_int hfin.out.symm, (Below.refl _ _).alloc (Nat.le_refl _) _⟩
  · obtain ⟨hp2, hp1, ha0, ha1, hb0, hb1, hm0, hm1⟩ := both_bounds (hall.symm.trans hb)
    have hfin := Lib.hid (show fsub p a b = (a - b + p) % p from fsub_yes (hall.symm.trans hb))
    clear hall
    go_enter Try.func67, Try.ntmps67
    go_wp2_with (go_at_call 46; (with_reducible refine (c_impl_areElements _ _ _ _ _ _ _ hs (by unfold maxLen; omega)).mono ?_); rintro e w' ⟨rfl, rfl⟩)
    go_ret
    exact ⟨ret_int hfin.out.symm, (Below.refl _ _).alloc (Nat.le_refl _) _⟩
set_option maxHeartbeats 400000 in
theorem c_spec_FMul (p a b : Int) (w : World) :
    Calls Try.prog 52 #[.int .i64 p, .int .i64 a, .int .i64 b] w fun e w' => e = .returned (.int .i64 (fmul p a b)) ∧ w = w' := by
  cases hb : (isEl p a && isEl p b)
  · have hfin := Lib.hid (show fmul p a b = -1 from fmul_no hb)
    go_enter Try.func52, Try.ntmps52
    go_wp2_with (go_at_call 70; (with_reducible refine (c_spec_l03Both _ _ _ _).mono ?_); rintro e w' ⟨rfl, rfl⟩)
    go_ret
    exact ⟨ret_int hfin.out.symm, rfl⟩
  · obtain ⟨hp2, hp1, ha0, ha1, hb0, hb1, hm0, hm1⟩ := both_bounds hb
    have hfin := Lib.hid (show fmul p a b = a * b % p from fmul_yes' hb)
    go_enter Try.func52, Try.ntmps52
    go_wp2_with (go_at_call 70; (with_reducible refine (c_spec_l03Both _ _ _ _).mono ?_); rintro e w' ⟨rfl, rfl⟩)
    go_ret
    exact ⟨ret_int hfin.out.symm, rfl⟩
set_option maxHeartbeats 400000 in
theorem c_impl_FMul (p a b : Int) (w : World) :
    Calls Try.prog 53 #[.int .i64 p, .int .i64 a, .int .i64 b] w fun e w' => e = .returned (.int .i64 (fmul p a b)) ∧ Below w.heap.size w w' := by
  have hs := SliceI.two w a b 3
  have hall := allEl_two p a b
  cases hb : allEl p [a, b]
  · have hfin := Lib.hid (show fmul p a b = -1 from fmul_no (hall.symm.trans hb))
    clear hall
    go_enter Try.func53, Try.ntmps53
    go_wp2_with (go_at_call 46; (with_reducible refine (c_impl_areElements _ _ _ _ _ _ _ hs (by unfold maxLen; omega)).mono ?_); rintro e w' ⟨rfl, rfl⟩)
    go_ret
    exact ⟨ret_int hfin.out.symm, (Below.refl _ _).alloc (Nat.le_refl _) _⟩
  · obtain ⟨hp2, hp1, ha0, ha1, hb0, hb1, hm0, hm1⟩ := both_bounds (hall.symm.trans hb)
    have hfin := Lib.hid (show fmul p a b = a * b % p from fmul_yes (hall.symm.trans hb))
    clear hall
    go_enter Try.func53, Try.ntmps53
    go_wp2_with (go_at_call 46; (with_reducible refine (c_impl_areElements _ _ _ _ _ _ _ hs (by unfold maxLen; omega)).mono ?_); rintro e w' ⟨rfl, rfl⟩)
    go_ret
    exact ⟨ret_int hfin.out.symm, (Below.refl _ _).alloc (Nat.le_refl _) _⟩
/-- what is still to be searched from k on -/
def InvRel (p a : Int) (k : Nat) : Prop := finvGo p a 101 1 = finvGo p a (102 - k) k
theorem InvRel.one (p a : Int) : InvRel p a 1 := rfl
theorem InvRel.step {p a : Int} {k : Nat} (h : InvRel p a k) (hlt : (k : Int) < p) (hk : k < 102) (hm : (a * (k : Int) % p == 1) = false) : InvRel p a (k + 1) := by
  unfold InvRel at h ⊢
  rw [h, show 102 - k = (102 - (k + 1)) + 1 by omega, finvGo, if_pos hlt, if_neg (by simpa using hm)]
  rfl
theorem InvRel.found {p a : Int} {k : Nat} (h : InvRel p a k) (hlt : (k : Int) < p) (hk : k < 102) (hm : (a * (k : Int) % p == 1) = true) : finvGo p a 101 1 = k := by
  unfold InvRel at h
  rw [h, show 102 - k = (102 - (k + 1)) + 1 by omega, finvGo, if_pos hlt, if_pos (by simpa using hm)]
theorem InvRel.none_ {p a : Int} {k : Nat} (h : InvRel p a k) (hlt : ¬ (k : Int) < p) (hk : k < 102) : finvGo p a 101 1 = -1 := by
  unfold InvRel at h
  rw [h, show 102 - k = (102 - (k + 1)) + 1 by omega, finvGo, if_neg hlt]

set_option maxHeartbeats 400000 in
theorem c_impl_FInv (p a : Int) (w : World) :
    Calls Try.prog 72 #[.int .i64 p, .int .i64 a] w fun e w' => e = .returned (.int .i64 (finv p a)) ∧ w = w' := by
  cases hb : isEl p a
  · have hfin := Lib.hid (show finv p a = -1 by simp [finv, hb])
    by_cases hp : 1 < p
    · go_enter Try.func72, Try.ntmps72
      go_wp2_with fail
      refine wp_loop_rounds 1 ?_
      rw [rounds_succ]
      go_wp2_with (go_at_call 49; (with_reducible refine (c_impl_IsElement _ _ _).mono ?_); rintro e w' ⟨rfl, rfl⟩)
      go_ret
      exact ⟨ret_int hfin.out.symm, rfl⟩
    · go_enter Try.func72, Try.ntmps72
      go_wp2_with fail
      refine wp_loop_rounds 1 ?_
      rw [rounds_succ]
      go_wp2_with (go_at_call 49; (with_reducible refine (c_impl_IsElement _ _ _).mono ?_); rintro e w' ⟨rfl, rfl⟩)
      go_ret
      exact ⟨ret_int hfin.out.symm, rfl⟩
  · have hf := fieldOk_range (isEl_iff.1 hb).1
    have hp2 := hf.1
    have hp1 := hf.2
    have ha0 := (isEl_iff.1 hb).2.1
    have ha1 := (isEl_iff.1 hb).2.2
    have hfin := Lib.hid (show finv p a = finvGo p a 101 1 by simp [finv, hb])
    clear hf
    go_enter Try.func72, Try.ntmps72
    go_wp2_with fail
    go_loop [5] (fun i => ∃ k : Nat, 1 ≤ k ∧ (k : Int) ≤ p ∧ i = .int .i64 k ∧ InvRel p a k) (fun i => 101 - (intOf i).toNat)
    case atStart => exact ⟨1, by omega, by omega, rfl, InvRel.one p a⟩
    case round =>
      obtain ⟨k, hk1, hkp, rfl, hr⟩ := hrel
      have HR := Lib.hid hr
      clear hr
      by_cases hlt : (k : Int) < p
      · obtain ⟨hm0, hm1⟩ := mul_bounds hp1 ha0 ha1 (show 0 ≤ (k : Int) by omega) (show (k : Int) ≤ p - 1 by omega)
        cases hm : (a * (k : Int) % p == 1)
        · have hs := HR.out.step hlt (by omega) hm
          go_wp2_with (go_at_call 49; (with_reducible refine (c_impl_IsElement _ _ _).mono ?_); rintro e w' ⟨rfl, rfl⟩)
          go_round
          case rel => exact ⟨k + 1, by omega, by omega, by go_num, hs⟩
          case measure => simp [intOf]; omega
        · have hs := Lib.hid (HR.out.found hlt (by omega) hm)
          go_wp2_with (go_at_call 49; (with_reducible refine (c_impl_IsElement _ _ _).mono ?_); rintro e w' ⟨rfl, rfl⟩)
          go_ret
          exact ⟨ret_int (by rw [hfin.out, hs.out]), rfl⟩
      · have hs := Lib.hid (HR.out.none_ hlt (by omega))
        go_wp2_with (go_at_call 49; (with_reducible refine (c_impl_IsElement _ _ _).mono ?_); rintro e w' ⟨rfl, rfl⟩)
        go_ret
        exact ⟨ret_int (by rw [hfin.out, hs.out]), rfl⟩
set_option maxHeartbeats 400000 in
theorem c_spec_FInv (p a : Int) (w : World) :
    Calls Try.prog 71 #[.int .i64 p, .int .i64 a] w fun e w' => e = .returned (.int .i64 (finv p a)) ∧ w = w' := by
  cases hb : isEl p a
  · have hfin := Lib.hid (show finv p a = -1 by simp [finv, hb])
    by_cases hp : 1 < p
    · go_enter Try.func71, Try.ntmps71
      go_wp2_with fail
      refine wp_loop_rounds 1 ?_
      rw [rounds_succ]
      go_wp2_with (go_at_call 47; (with_reducible refine (c_spec_IsElement _ _ _).mono ?_); rintro e w' ⟨rfl, rfl⟩)
      go_ret
      exact ⟨ret_int hfin.out.symm, rfl⟩
    · go_enter Try.func71, Try.ntmps71
      go_wp2_with fail
      refine wp_loop_rounds 1 ?_
      rw [rounds_succ]
      go_wp2_with (go_at_call 47; (with_reducible refine (c_spec_IsElement _ _ _).mono ?_); rintro e w' ⟨rfl, rfl⟩)
      go_ret
      exact ⟨ret_int hfin.out.symm, rfl⟩
  · have hf := fieldOk_range (isEl_iff.1 hb).1
    have hp2 := hf.1
    have hp1 := hf.2
    have ha0 := (isEl_iff.1 hb).2.1
    have ha1 := (isEl_iff.1 hb).2.2
    have hfin := Lib.hid (show finv p a = finvGo p a 101 1 by simp [finv, hb])
    clear hf
    go_enter Try.func71, Try.ntmps71
    go_wp2_with fail
    go_loop [5] (fun i => ∃ k : Nat, 1 ≤ k ∧ (k : Int) ≤ p ∧ i = .int .i64 k ∧ InvRel p a k) (fun i => 101 - (intOf i).toNat)
    case atStart => exact ⟨1, by omega, by omega, rfl, InvRel.one p a⟩
    case round =>
      obtain ⟨k, hk1, hkp, rfl, hr⟩ := hrel
      have HR := Lib.hid hr
      clear hr
      by_cases hlt : (k : Int) < p
      · obtain ⟨hm0, hm1⟩ := mul_bounds hp1 ha0 ha1 (show 0 ≤ (k : Int) by omega) (show (k : Int) ≤ p - 1 by omega)
        cases hm : (a * (k : Int) % p == 1)
        · have hs := HR.out.step hlt (by omega) hm
          go_wp2_with (go_at_call 47; (with_reducible refine (c_spec_IsElement _ _ _).mono ?_); rintro e w' ⟨rfl, rfl⟩)
          go_round
          case rel => exact ⟨k + 1, by omega, by omega, by go_num, hs⟩
          case measure => simp [intOf]; omega
        · have hs := Lib.hid (HR.out.found hlt (by omega) hm)
          go_wp2_with (go_at_call 47; (with_reducible refine (c_spec_IsElement _ _ _).mono ?_); rintro e w' ⟨rfl, rfl⟩)
          go_ret
          exact ⟨ret_int (by rw [hfin.out, hs.out]), rfl⟩
      · have hs := Lib.hid (HR.out.none_ hlt (by omega))
        go_wp2_with (go_at_call 47; (with_reducible refine (c_spec_IsElement _ _ _).mono ?_); rintro e w' ⟨rfl, rfl⟩)
        go_ret
        exact ⟨ret_int (by rw [hfin.out, hs.out]), rfl⟩

end Go.Proofs.Ytagocjdodgolkaa
