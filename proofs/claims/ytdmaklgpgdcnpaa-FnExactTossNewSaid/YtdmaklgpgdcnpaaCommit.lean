/- The walks of the commitments: what each call returns; the world stays as it was. -/
import Derived.Test.YtdmaklgpgdcnpaaRows
import Derived.Test.YtdmaklgpgdcnpaaPlain
import Derived.Test.YtdmaklgpgdcnpaaMem
import Derived.Test.YtdmaklgpgdcnpaaWords
import Derived.WalkKit
import Derived.WalkSpells
import Derived.WalkLawsBesides
import Derived.Lib.Hide
namespace Go.Proofs.Ytdmaklgpgdcnpaa
open Go.RowKit

def pairOk (v n : Int) : Bool := isWord v && inB n 0 65535
def commitF (v n : Int) : Int := if pairOk v n then keyed n 21 v else 0
def openF (c v n : Int) : Bool := pairOk v n && (commitF v n == c)
set_option maxHeartbeats 400000 in
theorem c_spec_l05Pair (v n : Int) (w : World) :
    Calls Try.prog 54 #[.int .i64 v, .int .i64 n] w fun e w' => e = .returned (.bool (pairOk v n)) ∧ w = w' := by
  cases h1 : isWord v
  · go_enter Try.func54, Try.ntmps54
    go_wp2_with (first | (go_at_call 69; (with_reducible refine (c_spec_IsWord _ _).mono ?_); rintro e w' ⟨rfl, rfl⟩) | (go_at_call 53; (with_reducible refine (c_spec_l01In _ _ _ _).mono ?_); rintro e w' ⟨rfl, rfl⟩))
    go_ret
    exact ⟨ret_bool (by simp [pairOk, h1]), rfl⟩
  · go_enter Try.func54, Try.ntmps54
    go_wp2_with (first | (go_at_call 69; (with_reducible refine (c_spec_IsWord _ _).mono ?_); rintro e w' ⟨rfl, rfl⟩) | (go_at_call 53; (with_reducible refine (c_spec_l01In _ _ _ _).mono ?_); rintro e w' ⟨rfl, rfl⟩))
    go_ret
    exact ⟨ret_bool (by simp [pairOk, h1]), rfl⟩
set_option maxHeartbeats 400000 in
theorem c_spec_Commit (v n : Int) (w : World) :
    Calls Try.prog 55 #[.int .i64 v, .int .i64 n] w fun e w' => e = .returned (.int .i64 (commitF v n)) ∧ w = w' := by
  cases h1 : pairOk v n
  · go_enter Try.func55, Try.ntmps55
    go_wp2_with (go_at_call 54; (with_reducible refine (c_spec_l05Pair _ _ _).mono ?_); rintro e w' ⟨rfl, rfl⟩)
    go_ret
    exact ⟨ret_int (by simp [commitF, h1]), rfl⟩
  · go_enter Try.func55, Try.ntmps55
    go_wp2_with (first | (go_at_call 54; (with_reducible refine (c_spec_l05Pair _ _ _).mono ?_); rintro e w' ⟨rfl, rfl⟩) | (go_at_call 70; (with_reducible refine (c_spec_Keyed _ _ _ _).mono ?_); rintro e w' ⟨rfl, rfl⟩))
    go_ret
    exact ⟨ret_int (by simp [commitF, h1]), rfl⟩
set_option maxHeartbeats 400000 in
theorem c_impl_Commit (v n : Int) (w : World) :
    Calls Try.prog 37 #[.int .i64 v, .int .i64 n] w fun e w' => e = .returned (.int .i64 (commitF v n)) ∧ w = w' := by
  cases h1 : isWord v
  · go_enter Try.func37, Try.ntmps37
    go_wp2_with (go_at_call 35; (with_reducible refine (c_impl_IsWord _ _).mono ?_); rintro e w' ⟨rfl, rfl⟩)
    go_ret
    exact ⟨ret_int (by simp [commitF, pairOk, h1]), rfl⟩
  · cases h2 : inB n 0 65535
    · go_enter Try.func37, Try.ntmps37
      go_wp2_with (first | (go_at_call 35; (with_reducible refine (c_impl_IsWord _ _).mono ?_); rintro e w' ⟨rfl, rfl⟩) | (go_at_call 56; (with_reducible refine (c_impl_within _ _ _ _).mono ?_); rintro e w' ⟨rfl, rfl⟩))
      go_ret
      exact ⟨ret_int (by simp [commitF, pairOk, h2]), rfl⟩
    · go_enter Try.func37, Try.ntmps37
      go_wp2_with (first | (go_at_call 35; (with_reducible refine (c_impl_IsWord _ _).mono ?_); rintro e w' ⟨rfl, rfl⟩) | (go_at_call 56; (with_reducible refine (c_impl_within _ _ _ _).mono ?_); rintro e w' ⟨rfl, rfl⟩) | (go_at_call 34; (with_reducible refine (c_impl_Keyed _ _ _ _).mono ?_); rintro e w' ⟨rfl, rfl⟩))
      go_ret
      exact ⟨ret_int (by simp [commitF, pairOk, h1, h2]), rfl⟩
set_option maxHeartbeats 400000 in
theorem c_spec_OpenOk (c v n : Int) (w : World) :
    Calls Try.prog 51 #[.int .i64 c, .int .i64 v, .int .i64 n] w fun e w' => e = .returned (.bool (openF c v n)) ∧ w = w' := by
  cases h1 : pairOk v n
  · go_enter Try.func51, Try.ntmps51
    go_wp2_with (go_at_call 54; (with_reducible refine (c_spec_l05Pair _ _ _).mono ?_); rintro e w' ⟨rfl, rfl⟩)
    go_ret
    exact ⟨ret_bool (by simp [openF, h1]), rfl⟩
  · cases h2 : (commitF v n == c)
    · go_enter Try.func51, Try.ntmps51
      go_wp2_with (first | (go_at_call 54; (with_reducible refine (c_spec_l05Pair _ _ _).mono ?_); rintro e w' ⟨rfl, rfl⟩) | (go_at_call 55; (with_reducible refine (c_spec_Commit _ _ _).mono ?_); rintro e w' ⟨rfl, rfl⟩))
      go_ret
      exact ⟨ret_bool (by simp [openF, h1, h2]), rfl⟩
    · go_enter Try.func51, Try.ntmps51
      go_wp2_with (first | (go_at_call 54; (with_reducible refine (c_spec_l05Pair _ _ _).mono ?_); rintro e w' ⟨rfl, rfl⟩) | (go_at_call 55; (with_reducible refine (c_spec_Commit _ _ _).mono ?_); rintro e w' ⟨rfl, rfl⟩))
      go_ret
      exact ⟨ret_bool (by simp [openF, h1, h2]), rfl⟩
set_option maxHeartbeats 400000 in
theorem c_impl_OpenOk (c v n : Int) (w : World) :
    Calls Try.prog 38 #[.int .i64 c, .int .i64 v, .int .i64 n] w fun e w' => e = .returned (.bool (openF c v n)) ∧ w = w' := by
  cases h1 : isWord v
  · go_enter Try.func38, Try.ntmps38
    go_wp2_with (go_at_call 35; (with_reducible refine (c_impl_IsWord _ _).mono ?_); rintro e w' ⟨rfl, rfl⟩)
    go_ret
    exact ⟨ret_bool (by simp [openF, pairOk, h1]), rfl⟩
  · cases h2 : inB n 0 65535
    · go_enter Try.func38, Try.ntmps38
      go_wp2_with (first | (go_at_call 35; (with_reducible refine (c_impl_IsWord _ _).mono ?_); rintro e w' ⟨rfl, rfl⟩) | (go_at_call 56; (with_reducible refine (c_impl_within _ _ _ _).mono ?_); rintro e w' ⟨rfl, rfl⟩))
      go_ret
      exact ⟨ret_bool (by simp [openF, pairOk, h2]), rfl⟩
    · cases h3 : (commitF v n == c)
      · go_enter Try.func38, Try.ntmps38
        go_wp2_with (first | (go_at_call 35; (with_reducible refine (c_impl_IsWord _ _).mono ?_); rintro e w' ⟨rfl, rfl⟩) | (go_at_call 56; (with_reducible refine (c_impl_within _ _ _ _).mono ?_); rintro e w' ⟨rfl, rfl⟩) | (go_at_call 37; (with_reducible refine (c_impl_Commit _ _ _).mono ?_); rintro e w' ⟨rfl, rfl⟩))
        go_ret
        exact ⟨ret_bool (by simp [openF, h3]), rfl⟩
      · go_enter Try.func38, Try.ntmps38
        go_wp2_with (first | (go_at_call 35; (with_reducible refine (c_impl_IsWord _ _).mono ?_); rintro e w' ⟨rfl, rfl⟩) | (go_at_call 56; (with_reducible refine (c_impl_within _ _ _ _).mono ?_); rintro e w' ⟨rfl, rfl⟩) | (go_at_call 37; (with_reducible refine (c_impl_Commit _ _ _).mono ?_); rintro e w' ⟨rfl, rfl⟩))
        go_ret
        exact ⟨ret_bool (by simp [openF, pairOk, h1, h2, h3]), rfl⟩
end Go.Proofs.Ytdmaklgpgdcnpaa
