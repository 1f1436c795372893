/- The walks of the functions on one statement of the language: what each call returns; what was there is kept. -/
import Derived.Test.YtjgnodmfklpcgaaRows
import Derived.Test.YtjgnodmfklpcgaaPlain
import Derived.Test.YtjgnodmfklpcgaaMem
import Derived.Test.YtjgnodmfklpcgaaWords
import Derived.WalkKit
import Derived.WalkSpells
import Derived.WalkLawsBesides
import Derived.Handy
import Derived.RegionTactic
import Derived.Deep.RegionHeld3
import Derived.Lib.Hide
namespace Go.Proofs.Ytjgnodmfklpcgaa
open Go.RowKit
def regs (xs : List Int) : Bool := xs.all fun x => inB x 0 7
theorem regs_take {xs : List Int} {k : Nat} (hk : k < xs.length) (h : regs (xs.take k) = true) (hb : inB (xs.getD k 0) 0 7 = true) : regs (xs.take (k + 1)) = true := by
  rw [List.take_succ_eq_append_getElem hk, regs, List.all_append, ← regs, h]
  rw [List.getD_eq_getElem?_getD, List.getElem?_eq_getElem hk] at hb
  simpa using hb
theorem regs_bad {xs : List Int} {k : Nat} (hk : k < xs.length) (hb : inB (xs.getD k 0) 0 7 = false) : regs xs = false := by
  rw [Bool.eq_false_iff]
  intro h
  rw [List.getD_eq_getElem?_getD, List.getElem?_eq_getElem hk] at hb
  have h2 := List.all_eq_true.1 h xs[k] (List.getElem_mem hk)
  rw [show ((some xs[k]).getD 0) = xs[k] from rfl] at hb
  rw [hb] at h2
  cases h2
set_option maxHeartbeats 1000000 in
theorem c_impl_isReg (A : Option Addr) (n c B : Nat) (xs : List Int) (w : World) (hx : SliceI w B A n xs) (hmax : n ≤ maxLen) :
    Calls Try.prog 59 #[.slice A n c] w fun e w' => e = .returned (.bool (regs xs)) ∧ w = w' := by
  unfold maxLen at hmax
  have HX := Lib.hid hx
  have hl := Lib.hid hx.len
  clear hx
  go_enter Try.func59, Try.ntmps59
  go_wp2_with fail
  go_loop [4, 7] (fun a i => ∃ k : Nat, k ≤ n ∧ i = .int .i64 k ∧ regs (xs.take k) = true) (fun _ i => n - (intOf i).toNat)
  case atStart => exact ⟨0, by omega, rfl, rfl⟩
  case round =>
    obtain ⟨k, hk, rfl, hin⟩ := hrel
    have HIN := Lib.hid hin
    clear hin
    by_cases hlt : k < n
    · obtain ⟨b, off, rfl, hbB, hc⟩ := HX.out.at_ hlt
      have hgood := fun hb => Lib.hid (regs_take (xs := xs) (k := k) (by rw [hl.out]; exact hlt) HIN.out hb)
      have hbad := fun hb => Lib.hid (regs_bad (xs := xs) (k := k) (by rw [hl.out]; exact hlt) hb)
      generalize xs.getD k 0 = x at hc hgood hbad
      cases hb : inB x 0 7
      · have hfin := hbad hb
        clear hbad hgood
        go_wp2_with (go_at_call 51; (with_reducible refine (c_impl_within _ _ _ _).mono ?_); rintro e w' ⟨rfl, rfl⟩)
        go_ret
        exact ⟨ret_bool hfin.out.symm, rfl⟩
      · have hfin := hgood hb
        clear hbad hgood
        go_wp2_with (go_at_call 51; (with_reducible refine (c_impl_within _ _ _ _).mono ?_); rintro e w' ⟨rfl, rfl⟩)
        go_round
        case rel => exact ⟨k + 1, by omega, by go_num, hfin.out⟩
        case measure => simp [intOf]; omega
    · have hfin := Lib.hid (show true = regs xs by
        have e := HIN.out
        rw [List.take_of_length_le (by rw [hl.out]; omega)] at e
        exact e.symm)
      go_wp2_with fail
      go_ret
      exact ⟨ret_bool hfin.out, rfl⟩
set_option maxHeartbeats 400000 in
theorem c_impl_isBinary (o : Int) (w : World) :
    Calls Try.prog 60 #[.int .i64 o] w fun e w' => e = .returned (.bool (inB o 3 9)) ∧ w = w' := by
  go_enter Try.func60, Try.ntmps60
  go_wp2_with (go_at_call 51; (with_reducible refine (c_impl_within _ _ _ _).mono ?_); rintro e w' ⟨rfl, rfl⟩)
  go_ret
  exact ⟨rfl, rfl⟩

def stmtOk (o d a b c n : Int) : Bool :=
  if o = 1 then a == 0 && b == 0 && c == 0 && regs [d] && inB n 0 15
  else if o = 2 then b == 0 && c == 0 && regs [d] && inB a 0 4 && inB n 0 3
  else if inB o 3 9 then c == 0 && n == 0 && regs [d, a, b]
  else if o = 10 then n == 0 && regs [d, a, b, c]
  else if o = 11 then d == 0 && b == 0 && c == 0 && n == 0 && regs [a]
  else if o = 12 then d == 0 && a == 0 && b == 0 && c == 0 && inB n 1 8
  else o == 13 && d == 0 && a == 0 && b == 0 && c == 0 && n == 0

set_option maxHeartbeats 1000000 in
theorem impl_stmt_1 (d a b c n : Int) (w : World) :
    Calls Try.prog 33 #[.agg #[.int .i64 1, .int .i64 d, .int .i64 a, .int .i64 b, .int .i64 c, .int .i64 n]] w fun e w' => e = .returned (.bool (a == 0 && b == 0 && c == 0 && regs [d] && inB n 0 15)) ∧ Below w.heap.size w w' := by
  go_enter Try.func33, Try.ntmps33
  go_wp2_with (first | (go_at_call 59; (with_reducible refine (c_impl_isReg _ _ _ _ [d] _ (by simpa using SliceI.one (w.alloc _) d 3) (by unfold maxLen; omega)).mono ?_); rintro e w' ⟨rfl, rfl⟩) | (go_at_call 51; (with_reducible refine (c_impl_within _ _ _ _).mono ?_); rintro e w' ⟨rfl, rfl⟩))
  all_goals
    go_ret
    refine ⟨ret_bool (by simp [*]), ?_⟩
    go_grown
set_option maxHeartbeats 1000000 in
theorem impl_stmt_2 (d a b c n : Int) (w : World) :
    Calls Try.prog 33 #[.agg #[.int .i64 2, .int .i64 d, .int .i64 a, .int .i64 b, .int .i64 c, .int .i64 n]] w fun e w' => e = .returned (.bool (b == 0 && c == 0 && regs [d] && inB a 0 4 && inB n 0 3)) ∧ Below w.heap.size w w' := by
  go_enter Try.func33, Try.ntmps33
  go_wp2_with (first | (go_at_call 59; (with_reducible refine (c_impl_isReg _ _ _ _ [d] _ (by simpa using SliceI.one (w.alloc _) d 3) (by unfold maxLen; omega)).mono ?_); rintro e w' ⟨rfl, rfl⟩) | (go_at_call 51; (with_reducible refine (c_impl_within _ _ _ _).mono ?_); rintro e w' ⟨rfl, rfl⟩))
  all_goals
    go_ret
    refine ⟨ret_bool (by simp [*]), ?_⟩
    go_grown
set_option maxHeartbeats 1000000 in
theorem impl_stmt_3 (o d a b c n : Int) (hb : inB o 3 9 = true) (w : World) :
    Calls Try.prog 33 #[.agg #[.int .i64 o, .int .i64 d, .int .i64 a, .int .i64 b, .int .i64 c, .int .i64 n]] w fun e w' => e = .returned (.bool (c == 0 && n == 0 && regs [d, a, b])) ∧ Below w.heap.size w w' := by
  have hr := inB_iff.1 hb
  have hr1 := hr.1
  have hr2 := hr.2
  clear hr
  go_enter Try.func33, Try.ntmps33
  go_wp2_with (first | (go_at_call 60; (with_reducible refine (c_impl_isBinary _ _).mono ?_); rintro e w' ⟨rfl, rfl⟩) | (go_at_call 59; (with_reducible refine (c_impl_isReg _ _ _ _ [d, a, b] _ (by simpa using SliceI.three (w.alloc _) d a b 3) (by unfold maxLen; omega)).mono ?_); rintro e w' ⟨rfl, rfl⟩))
  all_goals
    go_ret
    refine ⟨ret_bool (by simp [*]), ?_⟩
    go_grown
set_option maxHeartbeats 1000000 in
theorem impl_stmt_10 (d a b c n : Int) (w : World) :
    Calls Try.prog 33 #[.agg #[.int .i64 10, .int .i64 d, .int .i64 a, .int .i64 b, .int .i64 c, .int .i64 n]] w fun e w' => e = .returned (.bool (n == 0 && regs [d, a, b, c])) ∧ Below w.heap.size w w' := by
  have h9 : inB 10 3 9 = false := rfl
  go_enter Try.func33, Try.ntmps33
  go_wp2_with (first | (go_at_call 60; (with_reducible refine (c_impl_isBinary _ _).mono ?_); rintro e w' ⟨rfl, rfl⟩) | (go_at_call 59; (with_reducible refine (c_impl_isReg _ _ _ _ [d, a, b, c] _ (by simpa using SliceI.four (w.alloc _) d a b c 3) (by unfold maxLen; omega)).mono ?_); rintro e w' ⟨rfl, rfl⟩))
  all_goals
    go_ret
    refine ⟨ret_bool (by simp [*]), ?_⟩
    go_grown
set_option maxHeartbeats 1000000 in
theorem impl_stmt_11 (d a b c n : Int) (w : World) :
    Calls Try.prog 33 #[.agg #[.int .i64 11, .int .i64 d, .int .i64 a, .int .i64 b, .int .i64 c, .int .i64 n]] w fun e w' => e = .returned (.bool (d == 0 && b == 0 && c == 0 && n == 0 && regs [a])) ∧ Below w.heap.size w w' := by
  have h9 : inB 11 3 9 = false := rfl
  go_enter Try.func33, Try.ntmps33
  go_wp2_with (first | (go_at_call 60; (with_reducible refine (c_impl_isBinary _ _).mono ?_); rintro e w' ⟨rfl, rfl⟩) | (go_at_call 59; (with_reducible refine (c_impl_isReg _ _ _ _ [a] _ (by simpa using SliceI.one (w.alloc _) a 3) (by unfold maxLen; omega)).mono ?_); rintro e w' ⟨rfl, rfl⟩))
  all_goals
    go_ret
    refine ⟨ret_bool (by simp [*]), ?_⟩
    go_grown
set_option maxHeartbeats 1000000 in
theorem impl_stmt_12 (d a b c n : Int) (w : World) :
    Calls Try.prog 33 #[.agg #[.int .i64 12, .int .i64 d, .int .i64 a, .int .i64 b, .int .i64 c, .int .i64 n]] w fun e w' => e = .returned (.bool (d == 0 && a == 0 && b == 0 && c == 0 && inB n 1 8)) ∧ Below w.heap.size w w' := by
  have h9 : inB 12 3 9 = false := rfl
  go_enter Try.func33, Try.ntmps33
  go_wp2_with (first | (go_at_call 60; (with_reducible refine (c_impl_isBinary _ _).mono ?_); rintro e w' ⟨rfl, rfl⟩) | (go_at_call 51; (with_reducible refine (c_impl_within _ _ _ _).mono ?_); rintro e w' ⟨rfl, rfl⟩))
  all_goals
    go_ret
    refine ⟨ret_bool (by simp [*]), ?_⟩
    go_grown
set_option maxHeartbeats 1000000 in
theorem impl_stmt_13 (o d a b c n : Int) (h1 : (o == 1) = false) (h2 : (o == 2) = false) (h3 : inB o 3 9 = false) (h4 : (o == 10) = false) (h5 : (o == 11) = false) (h6 : (o == 12) = false) (w : World) :
    Calls Try.prog 33 #[.agg #[.int .i64 o, .int .i64 d, .int .i64 a, .int .i64 b, .int .i64 c, .int .i64 n]] w fun e w' => e = .returned (.bool (o == 13 && d == 0 && a == 0 && b == 0 && c == 0 && n == 0)) ∧ Below w.heap.size w w' := by
  go_enter Try.func33, Try.ntmps33
  go_wp2_with (first | (go_at_call 60; (with_reducible refine (c_impl_isBinary _ _).mono ?_); rintro e w' ⟨rfl, rfl⟩))
  all_goals
    go_ret
    refine ⟨ret_bool (by simp [*]), ?_⟩
    go_grown
theorem c_impl_StmtOk (o d a b c n : Int) (w : World) :
    Calls Try.prog 33 #[.agg #[.int .i64 o, .int .i64 d, .int .i64 a, .int .i64 b, .int .i64 c, .int .i64 n]] w fun e w' => e = .returned (.bool (stmtOk o d a b c n)) ∧ Below w.heap.size w w' := by
  by_cases h1 : o = 1
  · subst h1; exact impl_stmt_1 d a b c n w
  by_cases h2 : o = 2
  · subst h2; exact impl_stmt_2 d a b c n w
  cases h3 : inB o 3 9
  · by_cases h4 : o = 10
    · subst h4; exact impl_stmt_10 d a b c n w
    by_cases h5 : o = 11
    · subst h5; exact impl_stmt_11 d a b c n w
    by_cases h6 : o = 12
    · subst h6; exact impl_stmt_12 d a b c n w
    refine (impl_stmt_13 o d a b c n (by simpa using h1) (by simpa using h2) h3 (by simpa using h4) (by simpa using h5) (by simpa using h6) w).mono fun e w' h => ⟨h.1.trans (ret_bool ?_), h.2⟩
    simp [stmtOk, h1, h2, h3, h4, h5, h6]
  · refine (impl_stmt_3 o d a b c n h3 w).mono fun e w' h => ⟨h.1.trans (ret_bool ?_), h.2⟩
    simp [stmtOk, h1, h2, h3]
set_option maxHeartbeats 400000 in
theorem c_spec_l08Reg (x : Int) (w : World) :
    Calls Try.prog 58 #[.int .i64 x] w fun e w' => e = .returned (.bool (inB x 0 7)) ∧ w = w' := by
  go_enter Try.func58, Try.ntmps58
  go_wp2_with (go_at_call 49; (with_reducible refine (c_spec_l01In _ _ _ _).mono ?_); rintro e w' ⟨rfl, rfl⟩)
  go_ret
  exact ⟨rfl, rfl⟩
def plD (o d : Int) : Int := if 1 ≤ o ∧ o ≤ 10 then d else 0
def plA (o a : Int) : Int := if 2 ≤ o ∧ o ≤ 11 then a else 0
def plB (o b : Int) : Int := if 3 ≤ o ∧ o ≤ 10 then b else 0
def plC (o c : Int) : Int := if o = 10 then c else 0
def plN (o n : Int) : Int := if o = 1 ∨ o = 2 ∨ o = 12 then n else 0

set_option maxHeartbeats 1000000 in
theorem spec_plain_1 (d a b c n : Int) (w : World) :
    Calls Try.prog 57 #[.agg #[.int .i64 1, .int .i64 d, .int .i64 a, .int .i64 b, .int .i64 c, .int .i64 n]] w fun e w' => e = .returned (.agg #[.int .i64 1, .int .i64 d, .int .i64 0, .int .i64 0, .int .i64 0, .int .i64 n]) ∧ Below w.heap.size w w' := by
  go_enter Try.func57, Try.ntmps57
  go_wp2_with (go_at_call 49; (with_reducible refine (c_spec_l01In _ _ _ _).mono ?_); rintro e w' ⟨rfl, rfl⟩)
  go_returns
  refine ⟨rfl, ?_⟩
  go_grown
set_option maxHeartbeats 1000000 in
theorem spec_plain_2 (d a b c n : Int) (w : World) :
    Calls Try.prog 57 #[.agg #[.int .i64 2, .int .i64 d, .int .i64 a, .int .i64 b, .int .i64 c, .int .i64 n]] w fun e w' => e = .returned (.agg #[.int .i64 2, .int .i64 d, .int .i64 a, .int .i64 0, .int .i64 0, .int .i64 n]) ∧ Below w.heap.size w w' := by
  go_enter Try.func57, Try.ntmps57
  go_wp2_with (go_at_call 49; (with_reducible refine (c_spec_l01In _ _ _ _).mono ?_); rintro e w' ⟨rfl, rfl⟩)
  go_returns
  refine ⟨rfl, ?_⟩
  go_grown
set_option maxHeartbeats 1000000 in
theorem spec_plain_3 (o d a b c n : Int) (hb : inB o 3 9 = true) (w : World) :
    Calls Try.prog 57 #[.agg #[.int .i64 o, .int .i64 d, .int .i64 a, .int .i64 b, .int .i64 c, .int .i64 n]] w fun e w' => e = .returned (.agg #[.int .i64 o, .int .i64 d, .int .i64 a, .int .i64 b, .int .i64 0, .int .i64 0]) ∧ Below w.heap.size w w' := by
  have hr := inB_iff.1 hb
  have hr1 := hr.1
  have hr2 := hr.2
  clear hr
  go_enter Try.func57, Try.ntmps57
  go_wp2_with (go_at_call 49; (with_reducible refine (c_spec_l01In _ _ _ _).mono ?_); rintro e w' ⟨rfl, rfl⟩)
  go_returns
  refine ⟨rfl, ?_⟩
  go_grown
set_option maxHeartbeats 1000000 in
theorem spec_plain_10 (d a b c n : Int) (w : World) :
    Calls Try.prog 57 #[.agg #[.int .i64 10, .int .i64 d, .int .i64 a, .int .i64 b, .int .i64 c, .int .i64 n]] w fun e w' => e = .returned (.agg #[.int .i64 10, .int .i64 d, .int .i64 a, .int .i64 b, .int .i64 c, .int .i64 0]) ∧ Below w.heap.size w w' := by
  have h9 : inB 10 3 9 = false := rfl
  go_enter Try.func57, Try.ntmps57
  go_wp2_with (go_at_call 49; (with_reducible refine (c_spec_l01In _ _ _ _).mono ?_); rintro e w' ⟨rfl, rfl⟩)
  go_returns
  refine ⟨rfl, ?_⟩
  go_grown
set_option maxHeartbeats 1000000 in
theorem spec_plain_11 (d a b c n : Int) (w : World) :
    Calls Try.prog 57 #[.agg #[.int .i64 11, .int .i64 d, .int .i64 a, .int .i64 b, .int .i64 c, .int .i64 n]] w fun e w' => e = .returned (.agg #[.int .i64 11, .int .i64 0, .int .i64 a, .int .i64 0, .int .i64 0, .int .i64 0]) ∧ Below w.heap.size w w' := by
  have h9 : inB 11 3 9 = false := rfl
  go_enter Try.func57, Try.ntmps57
  go_wp2_with (go_at_call 49; (with_reducible refine (c_spec_l01In _ _ _ _).mono ?_); rintro e w' ⟨rfl, rfl⟩)
  go_returns
  refine ⟨rfl, ?_⟩
  go_grown
set_option maxHeartbeats 1000000 in
theorem spec_plain_12 (d a b c n : Int) (w : World) :
    Calls Try.prog 57 #[.agg #[.int .i64 12, .int .i64 d, .int .i64 a, .int .i64 b, .int .i64 c, .int .i64 n]] w fun e w' => e = .returned (.agg #[.int .i64 12, .int .i64 0, .int .i64 0, .int .i64 0, .int .i64 0, .int .i64 n]) ∧ Below w.heap.size w w' := by
  have h9 : inB 12 3 9 = false := rfl
  go_enter Try.func57, Try.ntmps57
  go_wp2_with (go_at_call 49; (with_reducible refine (c_spec_l01In _ _ _ _).mono ?_); rintro e w' ⟨rfl, rfl⟩)
  go_returns
  refine ⟨rfl, ?_⟩
  go_grown
set_option maxHeartbeats 1000000 in
theorem spec_plain_13 (o d a b c n : Int) (h1 : (o == 1) = false) (h2 : (o == 2) = false) (h3 : inB o 3 9 = false) (h4 : (o == 10) = false) (h5 : (o == 11) = false) (h6 : (o == 12) = false) (w : World) :
    Calls Try.prog 57 #[.agg #[.int .i64 o, .int .i64 d, .int .i64 a, .int .i64 b, .int .i64 c, .int .i64 n]] w fun e w' => e = .returned (.agg #[.int .i64 o, .int .i64 0, .int .i64 0, .int .i64 0, .int .i64 0, .int .i64 0]) ∧ Below w.heap.size w w' := by
  go_enter Try.func57, Try.ntmps57
  go_wp2_with (go_at_call 49; (with_reducible refine (c_spec_l01In _ _ _ _).mono ?_); rintro e w' ⟨rfl, rfl⟩)
  go_returns
  refine ⟨rfl, ?_⟩
  go_grown
theorem c_spec_l08Plain (o d a b c n : Int) (w : World) :
    Calls Try.prog 57 #[.agg #[.int .i64 o, .int .i64 d, .int .i64 a, .int .i64 b, .int .i64 c, .int .i64 n]] w fun e w' => e = .returned (.agg #[.int .i64 o, .int .i64 (plD o d), .int .i64 (plA o a), .int .i64 (plB o b), .int .i64 (plC o c), .int .i64 (plN o n)]) ∧ Below w.heap.size w w' := by
  by_cases h1 : o = 1
  · subst h1; exact spec_plain_1 d a b c n w
  by_cases h2 : o = 2
  · subst h2; exact spec_plain_2 d a b c n w
  cases h3 : inB o 3 9
  · by_cases h4 : o = 10
    · subst h4; exact spec_plain_10 d a b c n w
    by_cases h5 : o = 11
    · subst h5; exact spec_plain_11 d a b c n w
    by_cases h6 : o = 12
    · subst h6; exact spec_plain_12 d a b c n w
    have h7 := inB_no.1 h3
    have e1 : plD o d = 0 := if_neg (by omega)
    have e2 : plA o a = 0 := if_neg (by omega)
    have e3 : plB o b = 0 := if_neg (by omega)
    have e4 : plC o c = 0 := if_neg (by omega)
    have e5 : plN o n = 0 := if_neg (by omega)
    rw [e1, e2, e3, e4, e5]
    exact spec_plain_13 o d a b c n (by simpa using h1) (by simpa using h2) h3 (by simpa using h4) (by simpa using h5) (by simpa using h6) w
  · have h7 := inB_iff.1 h3
    have e1 : plD o d = d := if_pos (by omega)
    have e2 : plA o a = a := if_pos (by omega)
    have e3 : plB o b = b := if_pos (by omega)
    have e4 : plC o c = 0 := if_neg (by omega)
    have e5 : plN o n = 0 := if_neg (by omega)
    rw [e1, e2, e3, e4, e5]
    exact spec_plain_3 o d a b c n h3 w
end Go.Proofs.Ytjgnodmfklpcgaa
