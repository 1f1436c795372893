/- The reference's StmtOk: the whole. -/
import Derived.Test.YtjgnodmfklpcgaaStmtRefA
import Derived.Test.YtjgnodmfklpcgaaStmtRefB
import Derived.Test.YtjgnodmfklpcgaaStmtRefC
import Derived.Test.YtjgnodmfklpcgaaStmtRefD
namespace Go.Proofs.Ytjgnodmfklpcgaa
open Go.RowKit
theorem c_spec_StmtOk (o d a b c n : Int) (w : World) :
    Calls Try.prog 31 #[.agg #[.int .i64 o, .int .i64 d, .int .i64 a, .int .i64 b, .int .i64 c, .int .i64 n]] w fun e w' => e = .returned (.bool (stmtOk o d a b c n)) ∧ Below w.heap.size w w' := by
  have HP := c_spec_l08Plain o d a b c n
  rw [stmtOk_plain]
  unfold plainEq
  cases e0 : (plD o d == d)
  · exact spec_stmt_neq0 o d a b c n _ _ _ _ _ w HP (by rw [← e0]; exact Bool.beq_comm)
  rw [eq_of_beq e0] at HP
  cases e1 : (plA o a == a)
  · exact spec_stmt_neq1 o d a b c n _ _ _ _ w HP (by rw [← e1]; exact Bool.beq_comm)
  rw [eq_of_beq e1] at HP
  cases e2 : (plB o b == b)
  · exact spec_stmt_neq2 o d a b c n _ _ _ w HP (by rw [← e2]; exact Bool.beq_comm)
  rw [eq_of_beq e2] at HP
  cases e3 : (plC o c == c)
  · exact spec_stmt_neq3 o d a b c n _ _ w HP (by rw [← e3]; exact Bool.beq_comm)
  rw [eq_of_beq e3] at HP
  cases e4 : (plN o n == n)
  · exact spec_stmt_neq4 o d a b c n _ w HP (by rw [← e4]; exact Bool.beq_comm)
  rw [eq_of_beq e4] at HP
  cases r0 : inB d 0 7
  · exact spec_stmt_reg0 o d a b c n w HP r0
  cases r1 : inB a 0 7
  · exact spec_stmt_reg1 o d a b c n w HP r0 r1
  cases r2 : inB b 0 7
  · exact spec_stmt_reg2 o d a b c n w HP r0 r1 r2
  cases r3 : inB c 0 7
  · exact spec_stmt_reg3 o d a b c n w HP r0 r1 r2 r3
  simp only [Bool.and_true, Bool.true_and]
  by_cases h1 : o = 1
  · rw [if_pos h1]; exact spec_stmt_yes1 o d a b c n w HP r0 r1 r2 r3 (by simpa using h1)
  rw [if_neg h1]
  by_cases h2 : o = 2
  · rw [if_pos h2]; exact spec_stmt_yes2 o d a b c n w HP r0 r1 r2 r3 (by simpa using h1) (by simpa using h2)
  rw [if_neg h2]
  by_cases h3 : o = 12
  · rw [if_pos h3]; exact spec_stmt_yes3 o d a b c n w HP r0 r1 r2 r3 (by simpa using h1) (by simpa using h2) (by simpa using h3)
  rw [if_neg h3]
  exact spec_stmt_yes4 o d a b c n w HP r0 r1 r2 r3 (by simpa using h1) (by simpa using h2) (by simpa using h3)
end Go.Proofs.Ytjgnodmfklpcgaa
