/- The walks of ProgramOk: what each call returns; what was there is kept. -/
import Derived.Test.YtjgnodmfklpcgaaRows
import Derived.Test.YtjgnodmfklpcgaaPlain
import Derived.Test.YtjgnodmfklpcgaaMem
import Derived.Test.YtjgnodmfklpcgaaWords
import Derived.Test.YtjgnodmfklpcgaaList
import Derived.Test.YtjgnodmfklpcgaaStmt
import Derived.Test.YtjgnodmfklpcgaaStmtRefZ
import Derived.Test.YtjgnodmfklpcgaaStmtUse
import Derived.WalkKit
import Derived.WalkSpells
import Derived.WalkLawsBesides
import Derived.OwnWalk
import Derived.Handy
import Derived.RegionTactic
import Derived.Deep.QuietTactic
import Derived.BigQuiet
import Derived.Deep.RegionWith
import Derived.Deep.RegionHeld3
import Derived.Deep.Onto
import Derived.Lib.Hide
import Derived.Test.YtjgnodmfklpcgaaStmtList
namespace Go.Proofs.Ytjgnodmfklpcgaa
open Go.RowKit
set_option maxHeartbeats 4000000 in
theorem c_impl_ProgramOk (A : Option Addr) (n c B : Nat) (xs : List Int) (w : World) (hx : SliceI w B A (n * 6) xs) (hB : B ≤ w.heap.size) (hmax : n ≤ 1048576) :
    Calls Try.prog 44 #[.slice A n c] w fun e w' => e = .returned (.bool (progOk xs n)) ∧ Below w.heap.size w w' := by
  have HX := Lib.hid hx
  clear hx
  by_cases hlong : 40 < n
  · have hfin := Lib.hid (progOk_long (xs := xs) hlong)
    have hl' : (40 : Int) < (n : Int) := by omega
    go_enter Try.func44, Try.ntmps44
    go_wp2_with fail
    go_ret
    exact ⟨ret_bool hfin.out.symm, Below.refl _ _⟩
  have hl' : (n : Int) ≤ 40 := by omega
  go_enter Try.func44, Try.ntmps44
  go_wp2_with fail
  go_loopw [3, 11] (fun d i wr => ∃ k : Nat, k ≤ n ∧ i = .int .i64 k ∧ d = .int .i64 (dep xs k) ∧ okTo xs k = true ∧ Below w.heap.size w wr) (fun _ i _ => n - (intOf i).toNat)
  case atStart => exact ⟨0, by omega, rfl, rfl, rfl, Below.refl _ _⟩
  case round =>
    obtain ⟨k, hk, rfl, rfl, hok, hbel⟩ := hrel
    obtain ⟨hd0, hd3⟩ := okTo_dep hok
    have hsz := hbel.size
    by_cases hlt : k < n
    · obtain ⟨b, off, rfl, hbB, hc⟩ := (HX.out.below_le hbel hB).six hlt
      have h0 := hc 0 (by omega)
      have h1 := hc 1 (by omega)
      have h2 := hc 2 (by omega)
      have h3 := hc 3 (by omega)
      have h4 := hc 4 (by omega)
      have h5 := hc 5 (by omega)
      have HOK := Lib.hid hok
      have hnext := Lib.hid (okTo_succ xs k)
      have hbad := Lib.hid (fun h => okTo_bad (xs := xs) hlt h)
      have hdep := Lib.hid (show dep xs (k + 1) = depStep (opAt xs k) (dep xs k) from rfl)
      clear hc hok
      simp only [Nat.add_zero] at h0
      unfold stAt opAt at hnext hbad
      unfold opAt at hdep
      generalize xs.getD (k * 6) 0 = z0 at h0 hnext hbad hdep
      generalize xs.getD (k * 6 + 1) 0 = z1 at h1 hnext hbad
      generalize xs.getD (k * 6 + 2) 0 = z2 at h2 hnext hbad
      generalize xs.getD (k * 6 + 3) 0 = z3 at h3 hnext hbad
      generalize xs.getD (k * 6 + 4) 0 = z4 at h4 hnext hbad
      generalize xs.getD (k * 6 + 5) 0 = z5 at h5 hnext hbad
      generalize dep xs k = d at hd0 hd3 hnext hbad hdep
      have hlt' : (k : Int) < (n : Int) := by omega
      cases hs : stmtOk z0 z1 z2 z3 z4 z5
      · have hfin := Lib.hid (hbad.out (by simp [hs]))
        clear hbad hnext hdep
        go_wp2_with (first | (go_at_call 33; (with_reducible refine (c_impl_StmtOk _ _ _ _ _ _ _).mono ?_); rintro e w1 ⟨rfl, hb⟩; obtain ⟨hbel2, b1⟩ := next1 hbel hb; have c1 := b1.cell; clear hb) | (go_at_call 51; (with_reducible refine (c_impl_within _ _ _ _).mono ?_); rintro e w' ⟨rfl, rfl⟩))
        go_ret
        exact ⟨ret_bool hfin.out.symm, by go_grown⟩
      · by_cases e12 : z0 = 12
        · subst e12
          have hds : depStep 12 d = d + 1 := rfl
          cases hr : inB (d + 1) 0 3
          · have hfin := Lib.hid (hbad.out (by rw [hs, hds, hr]; rfl))
            clear hbad hnext hdep hds
            go_wp2_with (first | (go_at_call 33; (with_reducible refine (c_impl_StmtOk _ _ _ _ _ _ _).mono ?_); rintro e w1 ⟨rfl, hb⟩; obtain ⟨hbel2, b1⟩ := next1 hbel hb; have c1 := b1.cell; clear hb) | (go_at_call 51; (with_reducible refine (c_impl_within _ _ _ _).mono ?_); rintro e w' ⟨rfl, rfl⟩))
            go_ret
            exact ⟨ret_bool hfin.out.symm, by go_grown⟩
          · have hok1 := Lib.hid (show okTo xs (k + 1) = true by rw [hnext.out, HOK.out, hs, hds, hr]; rfl)
            have hd1 := Lib.hid (show dep xs (k + 1) = d + 1 by rw [hdep.out, hds])
            clear hbad hnext hdep hds
            go_wp2_with (first | (go_at_call 33; (with_reducible refine (c_impl_StmtOk _ _ _ _ _ _ _).mono ?_); rintro e w1 ⟨rfl, hb⟩; obtain ⟨hbel2, b1⟩ := next1 hbel hb; have c1 := b1.cell; clear hb) | (go_at_call 51; (with_reducible refine (c_impl_within _ _ _ _).mono ?_); rintro e w' ⟨rfl, rfl⟩))
            go_roundw
            case rel => exact ⟨k + 1, by omega, by go_num, by rw [hd1.out], hok1.out, by go_grown⟩
            case measure => simp [intOf]; omega
        by_cases e13 : z0 = 13
        · subst e13
          have hds : depStep 13 d = d - 1 := rfl
          cases hr : inB (d - 1) 0 3
          · have hfin := Lib.hid (hbad.out (by rw [hs, hds, hr]; rfl))
            clear hbad hnext hdep hds
            go_wp2_with (first | (go_at_call 33; (with_reducible refine (c_impl_StmtOk _ _ _ _ _ _ _).mono ?_); rintro e w1 ⟨rfl, hb⟩; obtain ⟨hbel2, b1⟩ := next1 hbel hb; have c1 := b1.cell; clear hb) | (go_at_call 51; (with_reducible refine (c_impl_within _ _ _ _).mono ?_); rintro e w' ⟨rfl, rfl⟩))
            go_ret
            exact ⟨ret_bool hfin.out.symm, by go_grown⟩
          · have hok1 := Lib.hid (show okTo xs (k + 1) = true by rw [hnext.out, HOK.out, hs, hds, hr]; rfl)
            have hd1 := Lib.hid (show dep xs (k + 1) = d - 1 by rw [hdep.out, hds])
            clear hbad hnext hdep hds
            go_wp2_with (first | (go_at_call 33; (with_reducible refine (c_impl_StmtOk _ _ _ _ _ _ _).mono ?_); rintro e w1 ⟨rfl, hb⟩; obtain ⟨hbel2, b1⟩ := next1 hbel hb; have c1 := b1.cell; clear hb) | (go_at_call 51; (with_reducible refine (c_impl_within _ _ _ _).mono ?_); rintro e w' ⟨rfl, rfl⟩))
            go_roundw
            case rel => exact ⟨k + 1, by omega, by go_num, by rw [hd1.out], hok1.out, by go_grown⟩
            case measure => simp [intOf]; omega
        · have hds : depStep z0 d = d := by simp [depStep, e12, e13]
          have n12 : (z0 == 12) = false := by simpa using e12
          have n13 : (z0 == 13) = false := by simpa using e13
          cases hr : inB (d) 0 3
          · have hfin := Lib.hid (hbad.out (by rw [hs, hds, hr]; rfl))
            clear hbad hnext hdep hds
            go_wp2_with (first | (go_at_call 33; (with_reducible refine (c_impl_StmtOk _ _ _ _ _ _ _).mono ?_); rintro e w1 ⟨rfl, hb⟩; obtain ⟨hbel2, b1⟩ := next1 hbel hb; have c1 := b1.cell; clear hb) | (go_at_call 51; (with_reducible refine (c_impl_within _ _ _ _).mono ?_); rintro e w' ⟨rfl, rfl⟩))
            go_ret
            exact ⟨ret_bool hfin.out.symm, by go_grown⟩
          · have hok1 := Lib.hid (show okTo xs (k + 1) = true by rw [hnext.out, HOK.out, hs, hds, hr]; rfl)
            have hd1 := Lib.hid (show dep xs (k + 1) = d by rw [hdep.out, hds])
            clear hbad hnext hdep hds
            go_wp2_with (first | (go_at_call 33; (with_reducible refine (c_impl_StmtOk _ _ _ _ _ _ _).mono ?_); rintro e w1 ⟨rfl, hb⟩; obtain ⟨hbel2, b1⟩ := next1 hbel hb; have c1 := b1.cell; clear hb) | (go_at_call 51; (with_reducible refine (c_impl_within _ _ _ _).mono ?_); rintro e w' ⟨rfl, rfl⟩))
            go_roundw
            case rel => exact ⟨k + 1, by omega, by go_num, by rw [hd1.out], hok1.out, by go_grown⟩
            case measure => simp [intOf]; omega
    · obtain rfl : k = n := by omega
      have hend := Lib.hid (progOk_end hok (by omega))
      generalize dep xs k = d at hd0 hd3 hend
      clear hok
      go_wp2_with fail
      go_ret
      exact ⟨ret_bool hend.out.symm, hbel⟩
set_option maxHeartbeats 4000000 in
theorem c_spec_ProgramOk (A : Option Addr) (n c B : Nat) (xs : List Int) (w : World) (hx : SliceI w B A (n * 6) xs) (hB : B ≤ w.heap.size) (hmax : n ≤ 1048576) :
    Calls Try.prog 42 #[.slice A n c] w fun e w' => e = .returned (.bool (progOk xs n)) ∧ Below w.heap.size w w' := by
  have HX := Lib.hid hx
  clear hx
  go_enter Try.func42, Try.ntmps42
  go_wp2_with fail
  go_loopw [3, 4] (fun d i wr => ∃ k : Nat, k ≤ n ∧ i = .int .i64 k ∧ d = .int .i64 (dep xs k) ∧ okTo xs k = true ∧ Below w.heap.size w wr) (fun _ i _ => n - (intOf i).toNat)
  case atStart => exact ⟨0, by omega, rfl, rfl, rfl, Below.refl _ _⟩
  case round =>
    obtain ⟨k, hk, rfl, rfl, hok, hbel⟩ := hrel
    obtain ⟨hd0, hd3⟩ := okTo_dep hok
    have hsz := hbel.size
    by_cases hlt : k < n
    · obtain ⟨b, off, rfl, hbB, hc⟩ := (HX.out.below_le hbel hB).six hlt
      have h0 := hc 0 (by omega)
      have h1 := hc 1 (by omega)
      have h2 := hc 2 (by omega)
      have h3 := hc 3 (by omega)
      have h4 := hc 4 (by omega)
      have h5 := hc 5 (by omega)
      have HOK := Lib.hid hok
      have hnext := Lib.hid (okTo_succ xs k)
      have hbad := Lib.hid (fun h => okTo_bad (xs := xs) hlt h)
      have hdep := Lib.hid (show dep xs (k + 1) = depStep (opAt xs k) (dep xs k) from rfl)
      clear hc hok
      simp only [Nat.add_zero] at h0
      unfold stAt opAt at hnext hbad
      unfold opAt at hdep
      generalize xs.getD (k * 6) 0 = z0 at h0 hnext hbad hdep
      generalize xs.getD (k * 6 + 1) 0 = z1 at h1 hnext hbad
      generalize xs.getD (k * 6 + 2) 0 = z2 at h2 hnext hbad
      generalize xs.getD (k * 6 + 3) 0 = z3 at h3 hnext hbad
      generalize xs.getD (k * 6 + 4) 0 = z4 at h4 hnext hbad
      generalize xs.getD (k * 6 + 5) 0 = z5 at h5 hnext hbad
      generalize dep xs k = d at hd0 hd3 hnext hbad hdep
      have hlt' : (k : Int) < (n : Int) := by omega
      cases hs : stmtOk z0 z1 z2 z3 z4 z5
      · have hfin := Lib.hid (hbad.out (by simp [hs]))
        clear hbad hnext hdep
        go_wp2_with (first | (go_at_call 31; (with_reducible refine (c_spec_StmtOk _ _ _ _ _ _ _).mono ?_); rintro e w1 ⟨rfl, hb⟩; have hbel2 := below_next hbel hb; have h0' := (hb.cell (p := ⟨b, off + k * 6, none⟩) (show b < wr.heap.size by omega)).trans h0; clear hb) | (go_at_call 49; (with_reducible refine (c_spec_l01In _ _ _ _).mono ?_); rintro e w' ⟨rfl, rfl⟩))
        go_ret
        exact ⟨ret_bool hfin.out.symm, by go_grown⟩
      · by_cases e12 : z0 = 12
        · subst e12
          have hds : depStep 12 d = d + 1 := rfl
          cases hr : inB (d + 1) 0 3
          · have hfin := Lib.hid (hbad.out (by rw [hs, hds, hr]; rfl))
            clear hbad hnext hdep hds
            go_wp2_with (first | (go_at_call 31; (with_reducible refine (c_spec_StmtOk _ _ _ _ _ _ _).mono ?_); rintro e w1 ⟨rfl, hb⟩; have hbel2 := below_next hbel hb; have h0' := (hb.cell (p := ⟨b, off + k * 6, none⟩) (show b < wr.heap.size by omega)).trans h0; clear hb) | (go_at_call 49; (with_reducible refine (c_spec_l01In _ _ _ _).mono ?_); rintro e w' ⟨rfl, rfl⟩))
            go_ret
            exact ⟨ret_bool hfin.out.symm, by go_grown⟩
          · have hok1 := Lib.hid (show okTo xs (k + 1) = true by rw [hnext.out, HOK.out, hs, hds, hr]; rfl)
            have hd1 := Lib.hid (show dep xs (k + 1) = d + 1 by rw [hdep.out, hds])
            clear hbad hnext hdep hds
            go_wp2_with (first | (go_at_call 31; (with_reducible refine (c_spec_StmtOk _ _ _ _ _ _ _).mono ?_); rintro e w1 ⟨rfl, hb⟩; have hbel2 := below_next hbel hb; have h0' := (hb.cell (p := ⟨b, off + k * 6, none⟩) (show b < wr.heap.size by omega)).trans h0; clear hb) | (go_at_call 49; (with_reducible refine (c_spec_l01In _ _ _ _).mono ?_); rintro e w' ⟨rfl, rfl⟩))
            go_roundw
            case rel => exact ⟨k + 1, by omega, by go_num, by rw [hd1.out], hok1.out, by go_grown⟩
            case measure => simp [intOf]; omega
        by_cases e13 : z0 = 13
        · subst e13
          have hds : depStep 13 d = d - 1 := rfl
          cases hr : inB (d - 1) 0 3
          · have hfin := Lib.hid (hbad.out (by rw [hs, hds, hr]; rfl))
            clear hbad hnext hdep hds
            go_wp2_with (first | (go_at_call 31; (with_reducible refine (c_spec_StmtOk _ _ _ _ _ _ _).mono ?_); rintro e w1 ⟨rfl, hb⟩; have hbel2 := below_next hbel hb; have h0' := (hb.cell (p := ⟨b, off + k * 6, none⟩) (show b < wr.heap.size by omega)).trans h0; clear hb) | (go_at_call 49; (with_reducible refine (c_spec_l01In _ _ _ _).mono ?_); rintro e w' ⟨rfl, rfl⟩))
            go_ret
            exact ⟨ret_bool hfin.out.symm, by go_grown⟩
          · have hok1 := Lib.hid (show okTo xs (k + 1) = true by rw [hnext.out, HOK.out, hs, hds, hr]; rfl)
            have hd1 := Lib.hid (show dep xs (k + 1) = d - 1 by rw [hdep.out, hds])
            clear hbad hnext hdep hds
            go_wp2_with (first | (go_at_call 31; (with_reducible refine (c_spec_StmtOk _ _ _ _ _ _ _).mono ?_); rintro e w1 ⟨rfl, hb⟩; have hbel2 := below_next hbel hb; have h0' := (hb.cell (p := ⟨b, off + k * 6, none⟩) (show b < wr.heap.size by omega)).trans h0; clear hb) | (go_at_call 49; (with_reducible refine (c_spec_l01In _ _ _ _).mono ?_); rintro e w' ⟨rfl, rfl⟩))
            go_roundw
            case rel => exact ⟨k + 1, by omega, by go_num, by rw [hd1.out], hok1.out, by go_grown⟩
            case measure => simp [intOf]; omega
        · have hds : depStep z0 d = d := by simp [depStep, e12, e13]
          have n12 : (z0 == 12) = false := by simpa using e12
          have n13 : (z0 == 13) = false := by simpa using e13
          cases hr : inB (d) 0 3
          · have hfin := Lib.hid (hbad.out (by rw [hs, hds, hr]; rfl))
            clear hbad hnext hdep hds
            go_wp2_with (first | (go_at_call 31; (with_reducible refine (c_spec_StmtOk _ _ _ _ _ _ _).mono ?_); rintro e w1 ⟨rfl, hb⟩; have hbel2 := below_next hbel hb; have h0' := (hb.cell (p := ⟨b, off + k * 6, none⟩) (show b < wr.heap.size by omega)).trans h0; clear hb) | (go_at_call 49; (with_reducible refine (c_spec_l01In _ _ _ _).mono ?_); rintro e w' ⟨rfl, rfl⟩))
            go_ret
            exact ⟨ret_bool hfin.out.symm, by go_grown⟩
          · have hok1 := Lib.hid (show okTo xs (k + 1) = true by rw [hnext.out, HOK.out, hs, hds, hr]; rfl)
            have hd1 := Lib.hid (show dep xs (k + 1) = d by rw [hdep.out, hds])
            clear hbad hnext hdep hds
            go_wp2_with (first | (go_at_call 31; (with_reducible refine (c_spec_StmtOk _ _ _ _ _ _ _).mono ?_); rintro e w1 ⟨rfl, hb⟩; have hbel2 := below_next hbel hb; have h0' := (hb.cell (p := ⟨b, off + k * 6, none⟩) (show b < wr.heap.size by omega)).trans h0; clear hb) | (go_at_call 49; (with_reducible refine (c_spec_l01In _ _ _ _).mono ?_); rintro e w' ⟨rfl, rfl⟩))
            go_roundw
            case rel => exact ⟨k + 1, by omega, by go_num, by rw [hd1.out], hok1.out, by go_grown⟩
            case measure => simp [intOf]; omega
    · obtain rfl : k = n := by omega
      cases hz : (dep xs k == 0)
      · have hfin := Lib.hid (progOk_zero hz)
        generalize dep xs k = d at hd0 hd3 hz
        clear hok
        go_wp2_with fail
        go_ret
        exact ⟨ret_bool hfin.out.symm, hbel⟩
      by_cases hlong : 40 < k
      · have hfin := Lib.hid (progOk_long (xs := xs) hlong)
        generalize dep xs k = d at hd0 hd3 hz
        have hl' : ¬ (k : Int) ≤ 40 := by omega
        clear hok
        go_wp2_with fail
        go_ret
        exact ⟨ret_bool hfin.out.symm, hbel⟩
      · have hend := Lib.hid ((progOk_end hok (by omega)).trans hz)
        generalize dep xs k = d at hd0 hd3 hz
        have hl' : (k : Int) ≤ 40 := by omega
        clear hok
        go_wp2_with fail
        go_ret
        exact ⟨ret_bool hend.out.symm, hbel⟩
end Go.Proofs.Ytjgnodmfklpcgaa
