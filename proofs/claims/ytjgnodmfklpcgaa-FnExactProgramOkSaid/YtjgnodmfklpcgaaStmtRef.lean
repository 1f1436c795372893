/- The walk of the reference's StmtOk: the same value as the program's. -/
import Derived.Test.YtjgnodmfklpcgaaRows
import Derived.Test.YtjgnodmfklpcgaaPlain
import Derived.Test.YtjgnodmfklpcgaaMem
import Derived.Test.YtjgnodmfklpcgaaWords
import Derived.Test.YtjgnodmfklpcgaaStmt
import Derived.WalkKit
import Derived.WalkSpells
import Derived.WalkLawsBesides
import Derived.Handy
import Derived.RegionTactic
import Derived.Deep.RegionHeld3
import Derived.Lib.Hide
namespace Go.Proofs.Ytjgnodmfklpcgaa
open Go.RowKit

def plainEq (o d a b c n : Int) : Bool := plD o d == d && plA o a == a && plB o b == b && plC o c == c && plN o n == n
theorem stmtOk_plain (o d a b c n : Int) : stmtOk o d a b c n = (plainEq o d a b c n && (inB d 0 7 && inB a 0 7 && inB b 0 7 && inB c 0 7) && (if o = 1 then inB n 0 15 else if o = 2 then decide (a < 5) && inB n 0 3 else if o = 12 then inB n 1 8 else inB o 3 13)) := by
  rw [Bool.eq_iff_iff]
  unfold stmtOk plainEq plD plA plB plC plN
  by_cases h1 : o = 1
  · subst h1
    simp [regs, inB_iff]
    omega
  by_cases h2 : o = 2
  · subst h2
    simp [regs, inB_iff]
    omega
  by_cases h3 : inB o 3 9 = true
  · have h4 := inB_iff.1 h3
    have e10 : ¬ o = 10 := by omega
    have e12 : ¬ o = 12 := by omega
    have e1 : 1 ≤ o ∧ o ≤ 10 := by omega
    have e2 : 2 ≤ o ∧ o ≤ 11 := by omega
    have e3 : 3 ≤ o ∧ o ≤ 10 := by omega
    have e4 : ¬ (o = 1 ∨ o = 2 ∨ o = 12) := by omega
    simp only [if_neg h1, if_neg h2, if_pos h3, if_neg e10, if_neg e12, if_pos e1, if_pos e2, if_pos e3, if_neg e4]
    simp [regs, inB_iff]
    omega
  by_cases h4 : o = 10
  · subst h4
    simp [regs, inB]
    omega
  by_cases h5 : o = 11
  · subst h5
    simp [regs, inB]
    omega
  by_cases h6 : o = 12
  · subst h6
    simp [inB]
    omega
  have h7 : ¬ (3 ≤ o ∧ o ≤ 9) := fun h => h3 (inB_iff.2 h)
  have e1 : ¬ (1 ≤ o ∧ o ≤ 10) := by omega
  have e2 : ¬ (2 ≤ o ∧ o ≤ 11) := by omega
  have e3 : ¬ (3 ≤ o ∧ o ≤ 10) := by omega
  have e4 : ¬ (o = 1 ∨ o = 2 ∨ o = 12) := by omega
  simp only [if_neg h1, if_neg h2, if_neg h3, if_neg h4, if_neg h5, if_neg h6, if_neg e1, if_neg e2, if_neg e3, if_neg e4]
  simp [inB_iff]
  omega

theorem start1d {w w1 : World} {c1 : Array Value} {t1 : TypeId} (hb : Below (w.alloc (.cells c1 t1)).drew.heap.size (w.alloc (.cells c1 t1)).drew w1) : Below w.heap.size w w1 ∧ Box w1 w.heap.size t1 c1 :=
  start1 (((Below.refl (w.alloc (.cells c1 t1)).heap.size (w.alloc (.cells c1 t1))).drew).trans hb)

set_option maxHeartbeats 2000000 in
theorem spec_stmt_neq0 (o d a b c n D A B C N : Int) (w : World) (HP : ∀ W : World, Calls Try.prog 57 #[.agg #[.int .i64 o, .int .i64 d, .int .i64 a, .int .i64 b, .int .i64 c, .int .i64 n]] W fun e w' => e = .returned (.agg #[.int .i64 o, .int .i64 D, .int .i64 A, .int .i64 B, .int .i64 C, .int .i64 N]) ∧ Below W.heap.size W w') (hne : (d == D) = false) :
    Calls Try.prog 31 #[.agg #[.int .i64 o, .int .i64 d, .int .i64 a, .int .i64 b, .int .i64 c, .int .i64 n]] w fun e w' => e = .returned (.bool false) ∧ Below w.heap.size w w' := by
  have hne' : ¬ d = D := by simpa using hne
  go_enter Try.func31, Try.ntmps31
  go_wp2_with fail
  first
    | go_region_with (first | (go_at_call 57; refine (HP _).mono ?_; rintro e w1 ⟨rfl, hb⟩; obtain ⟨bel, b1⟩ := start1d hb; have c1 := b1.cell; clear hb) | (go_at_call 58; refine (c_spec_l08Reg _ _).mono ?_; rintro e w' ⟨rfl, rfl⟩))
    | fail
  all_goals
    go_wp2_with fail
    go_ret
    exact ⟨rfl, by go_grown⟩
end Go.Proofs.Ytjgnodmfklpcgaa
