/- The walks of the commitments: what each call returns; the world stays as it was. -/
import Derived.Test.YtknepofclgjmiaaRows
import Derived.Test.YtknepofclgjmiaaPlain
import Derived.Test.YtknepofclgjmiaaMem
import Derived.Test.YtknepofclgjmiaaWords
import Derived.WalkKit
import Derived.WalkSpells
import Derived.WalkLawsBesides
import Derived.Lib.Hide
namespace Go.Proofs.Ytknepofclgjmiaa
open Go.RowKit

def pairOk (v n : Int) : Bool := isWord v && inB n 0 65535
def commitF (v n : Int) : Int := if pairOk v n then keyed n 21 v else 0
def openF (c v n : Int) : Bool := pairOk v n && (commitF v n == c)
set_option maxHeartbeats 400000 in
theorem c_impl_Commit (v n : Int) (w : World) :
    Calls Try.prog 43 #[.int .i64 v, .int .i64 n] w fun e w' => e = .returned (.int .i64 (commitF v n)) ∧ w = w' := by
  cases h1 : isWord v
  · go_enter Try.func43, Try.ntmps43
    go_wp2_with (go_at_call 41; (with_reducible refine (c_impl_IsWord _ _).mono ?_); rintro e w' ⟨rfl, rfl⟩)
    go_ret
    exact ⟨ret_int (by simp [commitF, pairOk, h1]), rfl⟩
  · cases h2 : inB n 0 65535
    · go_enter Try.func43, Try.ntmps43
      go_wp2_with (first | (go_at_call 41; (with_reducible refine (c_impl_IsWord _ _).mono ?_); rintro e w' ⟨rfl, rfl⟩) | (go_at_call 36; (with_reducible refine (c_impl_within _ _ _ _).mono ?_); rintro e w' ⟨rfl, rfl⟩))
      go_ret
      exact ⟨ret_int (by simp [commitF, pairOk, h2]), rfl⟩
    · go_enter Try.func43, Try.ntmps43
      go_wp2_with (first | (go_at_call 41; (with_reducible refine (c_impl_IsWord _ _).mono ?_); rintro e w' ⟨rfl, rfl⟩) | (go_at_call 36; (with_reducible refine (c_impl_within _ _ _ _).mono ?_); rintro e w' ⟨rfl, rfl⟩) | (go_at_call 56; (with_reducible refine (c_impl_Keyed _ _ _ _).mono ?_); rintro e w' ⟨rfl, rfl⟩))
      go_ret
      exact ⟨ret_int (by simp [commitF, pairOk, h1, h2]), rfl⟩
set_option maxHeartbeats 400000 in
theorem c_impl_OpenOk (c v n : Int) (w : World) :
    Calls Try.prog 45 #[.int .i64 c, .int .i64 v, .int .i64 n] w fun e w' => e = .returned (.bool (openF c v n)) ∧ w = w' := by
  cases h1 : isWord v
  · go_enter Try.func45, Try.ntmps45
    go_wp2_with (go_at_call 41; (with_reducible refine (c_impl_IsWord _ _).mono ?_); rintro e w' ⟨rfl, rfl⟩)
    go_ret
    exact ⟨ret_bool (by simp [openF, pairOk, h1]), rfl⟩
  · cases h2 : inB n 0 65535
    · go_enter Try.func45, Try.ntmps45
      go_wp2_with (first | (go_at_call 41; (with_reducible refine (c_impl_IsWord _ _).mono ?_); rintro e w' ⟨rfl, rfl⟩) | (go_at_call 36; (with_reducible refine (c_impl_within _ _ _ _).mono ?_); rintro e w' ⟨rfl, rfl⟩))
      go_ret
      exact ⟨ret_bool (by simp [openF, pairOk, h2]), rfl⟩
    · cases h3 : (commitF v n == c)
      · go_enter Try.func45, Try.ntmps45
        go_wp2_with (first | (go_at_call 41; (with_reducible refine (c_impl_IsWord _ _).mono ?_); rintro e w' ⟨rfl, rfl⟩) | (go_at_call 36; (with_reducible refine (c_impl_within _ _ _ _).mono ?_); rintro e w' ⟨rfl, rfl⟩) | (go_at_call 43; (with_reducible refine (c_impl_Commit _ _ _).mono ?_); rintro e w' ⟨rfl, rfl⟩))
        go_ret
        exact ⟨ret_bool (by simp [openF, h3]), rfl⟩
      · go_enter Try.func45, Try.ntmps45
        go_wp2_with (first | (go_at_call 41; (with_reducible refine (c_impl_IsWord _ _).mono ?_); rintro e w' ⟨rfl, rfl⟩) | (go_at_call 36; (with_reducible refine (c_impl_within _ _ _ _).mono ?_); rintro e w' ⟨rfl, rfl⟩) | (go_at_call 43; (with_reducible refine (c_impl_Commit _ _ _).mono ?_); rintro e w' ⟨rfl, rfl⟩))
        go_ret
        exact ⟨ret_bool (by simp [openF, pairOk, h1, h2, h3]), rfl⟩
end Go.Proofs.Ytknepofclgjmiaa
