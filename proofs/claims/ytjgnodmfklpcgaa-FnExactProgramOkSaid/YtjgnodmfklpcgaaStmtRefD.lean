/- The reference's StmtOk: some of the ways through its drawn test. -/
import Derived.Test.YtjgnodmfklpcgaaStmtRef
namespace Go.Proofs.Ytjgnodmfklpcgaa
open Go.RowKit
set_option maxHeartbeats 2000000 in
theorem spec_stmt_yes2 (o d a b c n : Int) (w : World) (HP : ∀ W : World, Calls Try.prog 57 #[.agg #[.int .i64 o, .int .i64 d, .int .i64 a, .int .i64 b, .int .i64 c, .int .i64 n]] W fun e w' => e = .returned (.agg #[.int .i64 o, .int .i64 d, .int .i64 a, .int .i64 b, .int .i64 c, .int .i64 n]) ∧ Below W.heap.size W w') (r0 : inB d 0 7 = true) (r1 : inB a 0 7 = true) (r2 : inB b 0 7 = true) (r3 : inB c 0 7 = true) (h1 : (o == 1) = false) (h2 : (o == 2) = true) :
    Calls Try.prog 31 #[.agg #[.int .i64 o, .int .i64 d, .int .i64 a, .int .i64 b, .int .i64 c, .int .i64 n]] w fun e w' => e = .returned (.bool (decide (a < 5) && inB n 0 3)) ∧ Below w.heap.size w w' := by
  go_enter Try.func31, Try.ntmps31
  go_wp2_with fail
  first
    | go_region_with (first | (go_at_call 57; refine (HP _).mono ?_; rintro e w1 ⟨rfl, hb⟩; obtain ⟨bel, b1⟩ := start1d hb; have c1 := b1.cell; clear hb) | (go_at_call 58; refine (c_spec_l08Reg _ _).mono ?_; rintro e w' ⟨rfl, rfl⟩))
    | fail
  all_goals
    go_wp2_with (go_at_call 49; (with_reducible refine (c_spec_l01In _ _ _ _).mono ?_); rintro e w' ⟨rfl, rfl⟩)
    all_goals (go_ret; exact ⟨ret_bool (by first | (simp [*]; done) | (simp; intro h; omega)), by go_grown⟩)
end Go.Proofs.Ytjgnodmfklpcgaa
