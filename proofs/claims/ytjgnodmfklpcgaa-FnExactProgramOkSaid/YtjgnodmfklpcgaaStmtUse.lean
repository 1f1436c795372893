/- The walks of the functions that use a statement of the language: what it writes, what it reads. -/
import Derived.Test.YtjgnodmfklpcgaaRows
import Derived.Test.YtjgnodmfklpcgaaPlain
import Derived.Test.YtjgnodmfklpcgaaMem
import Derived.Test.YtjgnodmfklpcgaaWords
import Derived.Test.YtjgnodmfklpcgaaList
import Derived.Test.YtjgnodmfklpcgaaStmt
import Derived.Test.YtjgnodmfklpcgaaStmtRefZ
import Derived.WalkKit
import Derived.WalkSpells
import Derived.WalkLawsBesides
import Derived.Handy
import Derived.RegionTactic
import Derived.Deep.RegionHeld3
import Derived.Deep.Onto
import Derived.Lib.Hide
namespace Go.Proofs.Ytjgnodmfklpcgaa
open Go.RowKit
def writesF (o d a b c n : Int) : Int := if stmtOk o d a b c n && decide (o ≤ 10) then d else -1
theorem stmtOk_range {o d a b c n : Int} (h : stmtOk o d a b c n = true) : 1 ≤ o ∧ o ≤ 13 := by
  unfold stmtOk at h
  by_cases h1 : o = 1
  · omega
  rw [if_neg h1] at h
  by_cases h2 : o = 2
  · omega
  rw [if_neg h2] at h
  by_cases h3 : inB o 3 9 = true
  · have := inB_iff.1 h3; omega
  rw [if_neg h3] at h
  by_cases h4 : o = 10
  · omega
  rw [if_neg h4] at h
  by_cases h5 : o = 11
  · omega
  rw [if_neg h5] at h
  by_cases h6 : o = 12
  · omega
  rw [if_neg h6] at h
  simp at h
  omega
theorem inB10 : inB 10 3 9 = false := rfl
theorem inB11 : inB 11 3 9 = false := rfl
def readsF (o d a b c n : Int) : List Int := if stmtOk o d a b c n then (if inB o 3 9 then [a, b] else if o = 10 then [a, b, c] else if o = 11 then [a] else []) else []
theorem OwnI.litAt {lo : Nat} (w : World) (xs : List Int) (hm : xs.length ≤ maxLen) (hl : lo ≤ w.heap.size) : OwnI (w.alloc (.cells (vals xs).toArray 3)) lo (some ⟨w.heap.size, 0, none⟩) xs.length xs.length xs := World.ownsRow.mono (OwnI.lit w xs hm) hl
theorem GivesI.litAt {w w1 : World} (xs : List Int) (hm : xs.length ≤ maxLen) (hb : Below w.heap.size w w1) : GivesI w xs (.returned (.slice (some ⟨w1.heap.size, 0, none⟩) xs.length xs.length)) (w1.alloc (.cells (vals xs).toArray 3)) :=
  ⟨_, _, rfl, OwnI.litAt w1 xs hm hb.size, hb.alloc hb.size _⟩
theorem GivesI.nilAt {w w1 : World} (hb : Below w.heap.size w w1) : GivesI w [] (.returned (.slice none 0 0)) w1 := ⟨none, 0, rfl, World.ownsRow_nil _ _ _ _, hb⟩
set_option maxHeartbeats 1000000 in
theorem c_laws_toStmt (o d a b c n : Int) (w : World) :
    Calls Try.prog 32 #[.agg #[.int .i64 o, .int .i64 d, .int .i64 a, .int .i64 b, .int .i64 c, .int .i64 n]] w fun e w' => e = .returned (.agg #[.int .i64 o, .int .i64 d, .int .i64 a, .int .i64 b, .int .i64 c, .int .i64 n]) ∧ Below w.heap.size w w' := by
  go_enter Try.func32, Try.ntmps32
  go_wp2
  go_returns
  refine ⟨rfl, ?_⟩
  go_grown
set_option maxHeartbeats 1000000 in
theorem c_impl_WritesOf (o d a b c n : Int) (w : World) :
    Calls Try.prog 35 #[.agg #[.int .i64 o, .int .i64 d, .int .i64 a, .int .i64 b, .int .i64 c, .int .i64 n]] w fun e w' => e = .returned (.int .i64 (writesF o d a b c n)) ∧ Below w.heap.size w w' := by
  cases h1 : stmtOk o d a b c n
  · go_enter Try.func35, Try.ntmps35
    go_wp2_with (go_at_call 33; (with_reducible refine (c_impl_StmtOk _ _ _ _ _ _ _).mono ?_); rintro e w1 ⟨rfl, hb⟩; obtain ⟨bel, b1⟩ := start1 hb; have c1 := b1.cell; have f1 := b1.free; have z1 := b1.lt; clear hb)
    go_ret
    exact ⟨ret_int (by simp [writesF, h1]), by go_grown⟩
  · by_cases h2 : o ≤ 10
    · have hfin := Lib.hid (show writesF o d a b c n = d by simp [writesF, h1, h2])
      have h3 : ¬ 10 < o := by omega
      have h4 : ¬ 11 ≤ o := by omega
      have h5 : o < 11 := by omega
      go_enter Try.func35, Try.ntmps35
      go_wp2_with (go_at_call 33; (with_reducible refine (c_impl_StmtOk _ _ _ _ _ _ _).mono ?_); rintro e w1 ⟨rfl, hb⟩; obtain ⟨bel, b1⟩ := start1 hb; have c1 := b1.cell; have f1 := b1.free; have z1 := b1.lt; clear hb)
      go_ret
      exact ⟨ret_int hfin.out.symm, by go_grown⟩
    · have hfin := Lib.hid (show writesF o d a b c n = -1 by simp [writesF, h2])
      have h3 : 10 < o := by omega
      have h4 : 11 ≤ o := by omega
      go_enter Try.func35, Try.ntmps35
      go_wp2_with (go_at_call 33; (with_reducible refine (c_impl_StmtOk _ _ _ _ _ _ _).mono ?_); rintro e w1 ⟨rfl, hb⟩; obtain ⟨bel, b1⟩ := start1 hb; have c1 := b1.cell; have f1 := b1.free; have z1 := b1.lt; clear hb)
      go_ret
      exact ⟨ret_int hfin.out.symm, by go_grown⟩
set_option maxHeartbeats 2000000 in
theorem c_impl_ReadsOf (o d a b c n : Int) (w : World) :
    Calls Try.prog 37 #[.agg #[.int .i64 o, .int .i64 d, .int .i64 a, .int .i64 b, .int .i64 c, .int .i64 n]] w (GivesI w (readsF o d a b c n)) := by
  cases h1 : stmtOk o d a b c n
  · have hfin := Lib.hid (show readsF o d a b c n = [] by simp [readsF, h1])
    go_enter Try.func37, Try.ntmps37
    go_wp2_with (first | (go_at_call 33; (with_reducible refine (c_impl_StmtOk _ _ _ _ _ _ _).mono ?_); rintro e w1 ⟨rfl, hb⟩; obtain ⟨bel, b1⟩ := start1 hb; have c1 := b1.cell; have f1 := b1.free; have z1 := b1.lt; clear hb) | (go_at_call 60; (with_reducible refine (c_impl_isBinary _ _).mono ?_); rintro e w' ⟨rfl, rfl⟩))
    go_ret
    rw [hfin.out]; exact GivesI.nilAt (by go_grown)
  cases h2 : inB o 3 9
  · by_cases h3 : o = 10
    · have hfin := Lib.hid (show readsF o d a b c n = [a, b, c] by subst h3; simp [readsF, h1, h2])
      subst h3
      go_enter Try.func37, Try.ntmps37
      go_wp2_with (first | (go_at_call 33; (with_reducible refine (c_impl_StmtOk _ _ _ _ _ _ _).mono ?_); rintro e w1 ⟨rfl, hb⟩; obtain ⟨bel, b1⟩ := start1 hb; have c1 := b1.cell; have f1 := b1.free; have z1 := b1.lt; clear hb) | (go_at_call 60; (with_reducible refine (c_impl_isBinary _ _).mono ?_); rintro e w' ⟨rfl, rfl⟩))
      go_ret
      rw [hfin.out]; exact GivesI.litAt [a, b, c] (by simp [maxLen]) (by go_grown)
    by_cases h4 : o = 11
    · have hfin := Lib.hid (show readsF o d a b c n = [a] by subst h4; simp [readsF, h1, h2])
      subst h4
      go_enter Try.func37, Try.ntmps37
      go_wp2_with (first | (go_at_call 33; (with_reducible refine (c_impl_StmtOk _ _ _ _ _ _ _).mono ?_); rintro e w1 ⟨rfl, hb⟩; obtain ⟨bel, b1⟩ := start1 hb; have c1 := b1.cell; have f1 := b1.free; have z1 := b1.lt; clear hb) | (go_at_call 60; (with_reducible refine (c_impl_isBinary _ _).mono ?_); rintro e w' ⟨rfl, rfl⟩))
      go_ret
      rw [hfin.out]; exact GivesI.litAt [a] (by simp [maxLen]) (by go_grown)
    · have hfin := Lib.hid (show readsF o d a b c n = [] by simp [readsF, h1, h2, h3, h4])
      have h3' : (o == 10) = false := by simpa using h3
      have h4' : (o == 11) = false := by simpa using h4
      go_enter Try.func37, Try.ntmps37
      go_wp2_with (first | (go_at_call 33; (with_reducible refine (c_impl_StmtOk _ _ _ _ _ _ _).mono ?_); rintro e w1 ⟨rfl, hb⟩; obtain ⟨bel, b1⟩ := start1 hb; have c1 := b1.cell; have f1 := b1.free; have z1 := b1.lt; clear hb) | (go_at_call 60; (with_reducible refine (c_impl_isBinary _ _).mono ?_); rintro e w' ⟨rfl, rfl⟩))
      go_ret
      rw [hfin.out]; exact GivesI.nilAt (by go_grown)
  · have hfin := Lib.hid (show readsF o d a b c n = [a, b] by simp [readsF, h1, h2])
    go_enter Try.func37, Try.ntmps37
    go_wp2_with (first | (go_at_call 33; (with_reducible refine (c_impl_StmtOk _ _ _ _ _ _ _).mono ?_); rintro e w1 ⟨rfl, hb⟩; obtain ⟨bel, b1⟩ := start1 hb; have c1 := b1.cell; have f1 := b1.free; have z1 := b1.lt; clear hb) | (go_at_call 60; (with_reducible refine (c_impl_isBinary _ _).mono ?_); rintro e w' ⟨rfl, rfl⟩))
    go_ret
    rw [hfin.out]; exact GivesI.litAt [a, b] (by simp [maxLen]) (by go_grown)
set_option maxHeartbeats 1000000 in
theorem c_spec_WritesOf (o d a b c n : Int) (w : World) :
    Calls Try.prog 34 #[.agg #[.int .i64 o, .int .i64 d, .int .i64 a, .int .i64 b, .int .i64 c, .int .i64 n]] w fun e w' => e = .returned (.int .i64 (writesF o d a b c n)) ∧ Below w.heap.size w w' := by
  cases h1 : stmtOk o d a b c n
  · go_enter Try.func34, Try.ntmps34
    go_wp2_with (go_at_call 31; (with_reducible refine (c_spec_StmtOk _ _ _ _ _ _ _).mono ?_); rintro e w1 ⟨rfl, hb⟩; obtain ⟨bel, b1⟩ := start1 hb; have c1 := b1.cell; have f1 := b1.free; have z1 := b1.lt; clear hb)
    go_ret
    exact ⟨ret_int (by simp [writesF, h1]), by go_grown⟩
  · by_cases h2 : o ≤ 10
    · have hfin := Lib.hid (show writesF o d a b c n = d by simp [writesF, h1, h2])
      have h3 : ¬ 10 < o := by omega
      have h4 : ¬ 11 ≤ o := by omega
      have h5 : o < 11 := by omega
      go_enter Try.func34, Try.ntmps34
      go_wp2_with (go_at_call 31; (with_reducible refine (c_spec_StmtOk _ _ _ _ _ _ _).mono ?_); rintro e w1 ⟨rfl, hb⟩; obtain ⟨bel, b1⟩ := start1 hb; have c1 := b1.cell; have f1 := b1.free; have z1 := b1.lt; clear hb)
      go_ret
      exact ⟨ret_int hfin.out.symm, by go_grown⟩
    · have hfin := Lib.hid (show writesF o d a b c n = -1 by simp [writesF, h2])
      have h3 : 10 < o := by omega
      have h4 : 11 ≤ o := by omega
      go_enter Try.func34, Try.ntmps34
      go_wp2_with (go_at_call 31; (with_reducible refine (c_spec_StmtOk _ _ _ _ _ _ _).mono ?_); rintro e w1 ⟨rfl, hb⟩; obtain ⟨bel, b1⟩ := start1 hb; have c1 := b1.cell; have f1 := b1.free; have z1 := b1.lt; clear hb)
      go_ret
      exact ⟨ret_int hfin.out.symm, by go_grown⟩
set_option maxHeartbeats 2000000 in
theorem c_spec_ReadsOf (o d a b c n : Int) (w : World) :
    Calls Try.prog 36 #[.agg #[.int .i64 o, .int .i64 d, .int .i64 a, .int .i64 b, .int .i64 c, .int .i64 n]] w (GivesI w (readsF o d a b c n)) := by
  cases h1 : stmtOk o d a b c n
  · have hfin := Lib.hid (show readsF o d a b c n = [] by simp [readsF, h1])
    go_enter Try.func36, Try.ntmps36
    go_wp2_with (first | (go_at_call 31; (with_reducible refine (c_spec_StmtOk _ _ _ _ _ _ _).mono ?_); rintro e w1 ⟨rfl, hb⟩; obtain ⟨bel, b1⟩ := start1 hb; have c1 := b1.cell; have f1 := b1.free; have z1 := b1.lt; clear hb) | (go_at_call 49; (with_reducible refine (c_spec_l01In _ _ _ _).mono ?_); rintro e w' ⟨rfl, rfl⟩))
    go_ret
    rw [hfin.out]; exact GivesI.litAt [] (by simp [maxLen]) (by go_grown)
  cases h2 : inB o 3 9
  · by_cases h3 : o = 10
    · have hfin := Lib.hid (show readsF o d a b c n = [a, b, c] by subst h3; simp [readsF, h1, h2])
      subst h3
      go_enter Try.func36, Try.ntmps36
      go_wp2_with (first | (go_at_call 31; (with_reducible refine (c_spec_StmtOk _ _ _ _ _ _ _).mono ?_); rintro e w1 ⟨rfl, hb⟩; obtain ⟨bel, b1⟩ := start1 hb; have c1 := b1.cell; have f1 := b1.free; have z1 := b1.lt; clear hb) | (go_at_call 49; (with_reducible refine (c_spec_l01In _ _ _ _).mono ?_); rintro e w' ⟨rfl, rfl⟩))
      go_ret
      rw [hfin.out]; exact GivesI.litAt [a, b, c] (by simp [maxLen]) (by go_grown)
    by_cases h4 : o = 11
    · have hfin := Lib.hid (show readsF o d a b c n = [a] by subst h4; simp [readsF, h1, h2])
      subst h4
      go_enter Try.func36, Try.ntmps36
      go_wp2_with (first | (go_at_call 31; (with_reducible refine (c_spec_StmtOk _ _ _ _ _ _ _).mono ?_); rintro e w1 ⟨rfl, hb⟩; obtain ⟨bel, b1⟩ := start1 hb; have c1 := b1.cell; have f1 := b1.free; have z1 := b1.lt; clear hb) | (go_at_call 49; (with_reducible refine (c_spec_l01In _ _ _ _).mono ?_); rintro e w' ⟨rfl, rfl⟩))
      go_ret
      rw [hfin.out]; exact GivesI.litAt [a] (by simp [maxLen]) (by go_grown)
    · have hfin := Lib.hid (show readsF o d a b c n = [] by simp [readsF, h1, h2, h3, h4])
      have h3' : (o == 10) = false := by simpa using h3
      have h4' : (o == 11) = false := by simpa using h4
      go_enter Try.func36, Try.ntmps36
      go_wp2_with (first | (go_at_call 31; (with_reducible refine (c_spec_StmtOk _ _ _ _ _ _ _).mono ?_); rintro e w1 ⟨rfl, hb⟩; obtain ⟨bel, b1⟩ := start1 hb; have c1 := b1.cell; have f1 := b1.free; have z1 := b1.lt; clear hb) | (go_at_call 49; (with_reducible refine (c_spec_l01In _ _ _ _).mono ?_); rintro e w' ⟨rfl, rfl⟩))
      go_ret
      rw [hfin.out]; exact GivesI.litAt [] (by simp [maxLen]) (by go_grown)
  · have hfin := Lib.hid (show readsF o d a b c n = [a, b] by simp [readsF, h1, h2])
    go_enter Try.func36, Try.ntmps36
    go_wp2_with (first | (go_at_call 31; (with_reducible refine (c_spec_StmtOk _ _ _ _ _ _ _).mono ?_); rintro e w1 ⟨rfl, hb⟩; obtain ⟨bel, b1⟩ := start1 hb; have c1 := b1.cell; have f1 := b1.free; have z1 := b1.lt; clear hb) | (go_at_call 49; (with_reducible refine (c_spec_l01In _ _ _ _).mono ?_); rintro e w' ⟨rfl, rfl⟩))
    go_ret
    rw [hfin.out]; exact GivesI.litAt [a, b] (by simp [maxLen]) (by go_grown)
end Go.Proofs.Ytjgnodmfklpcgaa
