/- The walks of the reference's interpolation over a small prime field, and its test of the points. -/
import Derived.Test.YtagocjdodgolkaaPoly
namespace Go.Proofs.Ytagocjdodgolkaa
open Go.RowKit

set_option maxHeartbeats 8000000 in
theorem c_spec_l07Through (p t : Int) (A A' : Option Addr) (n c c' B B' : Nat) (pts vs : List Int) (w : World) (hx : SliceI w B A n pts) (hy : SliceI w B' A' n vs) (hB : B ≤ w.heap.size) (hB' : B' ≤ w.heap.size) (hn : n ≤ 5) (hap : Apart p pts) (hv : allEl p vs = true) (ht : isEl p t = true) :
    Calls Try.prog 61 #[.int .i64 p, .slice A n c, .slice A' n c', .int .i64 t] w fun e w' => e = .returned (.int .i64 (lagAt p t pts vs)) ∧ Below w.heap.size w w' := by
  have HX := Lib.hid hx
  have HY := Lib.hid hy
  have hl := Lib.hid hx.len
  have hl' := Lib.hid hy.len
  have HAP := Lib.hid hap
  have HV := Lib.hid hv
  have HT := Lib.hid ht
  clear hx hy hap hv ht
  go_enter Try.func61, Try.ntmps61
  go_wp2_with fail
  go_loopw [9, 10] (fun s i wr => ∃ k : Nat, k ≤ n ∧ i = .int .i64 k ∧ s = .int .i64 (lagS p t pts vs k) ∧ Below w.heap.size w wr) (fun _ i _ => n - (intOf i).toNat)
  case atStart => exact ⟨0, by omega, rfl, rfl, Below.refl _ _⟩
  case round =>
    obtain ⟨k, hk, rfl, rfl, hbel⟩ := hrel
    by_cases hlt : k < n
    · obtain ⟨b', off', rfl, hbB', hc'⟩ := (HY.out.below_le hbel hB').at_ hlt
      have HYE := Lib.hid (allEl_at HV.out (show k < vs.length by rw [hl'.out]; exact hlt))
      have hst := Lib.hid (lagS_step (t := t) (pts := pts) (el_field HT.out) HYE.out)
      rw [hl.out] at hst
      generalize lagS p t pts vs k = s at hst
      generalize vs.getD k 0 = y0 at hc' HYE hst
      have hlt' : (k : Int) < (n : Int) := by omega
      go_wp2_with fail
      go_loopw [11, 12] (fun y j wr2 => ∃ m : Nat, m ≤ n ∧ j = .int .i64 m ∧ y = .int .i64 (lagY p t pts k y0 m) ∧ Below w.heap.size w wr2) (fun _ j _ => n - (intOf j).toNat)
      case atStart => exact ⟨0, by omega, rfl, rfl, hbel⟩
      case round =>
        obtain ⟨m, hm, rfl, rfl, hbel2⟩ := hrel
        have HYM := Lib.hid (lagY_el (t := t) (pts := pts) (i := k) HYE.out m)
        by_cases hlm : m < n
        · by_cases hmk : m = k
          · have hsk := Lib.hid (show lagY p t pts k y0 (m + 1) = lagY p t pts k y0 m by rw [hmk]; exact lagY_skip)
            have hmk' : ((m : Int) != (k : Int)) = false := by simp [hmk]
            generalize lagY p t pts k y0 m = u at hsk
            have hlm' : (m : Int) < (n : Int) := by omega
            subst hmk
            go_wp2_with fail
            go_roundw
            case rel => exact ⟨m + 1, by omega, by go_num, by rw [hsk.out], hbel2⟩
            case measure => simp [intOf]; omega
          · obtain ⟨b, off, rfl, hbB, hc⟩ := (HX.out.below_le hbel2 hB).at_ hlm
            obtain ⟨b2, off2, e2, _, hcq⟩ := (HX.out.below_le hbel2 hB).at_ hlt
            simp only [Option.some.injEq, Addr.mk.injEq, and_true] at e2
            obtain ⟨rfl, rfl⟩ := e2
            have hin := HAP.out.inv (i := k) (k := m) (by rw [hl.out]; exact hlt) (by rw [hl.out]; exact hlm) hmk
            have hEL1 := el_fsub HT.out (allEl_at HAP.out.1 (show m < pts.length by rw [hl.out]; exact hlm))
            have hsk := Lib.hid ((lagY_step (p := p) (t := t) (pts := pts) (y := y0) hmk).trans (lag_ref HYM.out hEL1 hin.2).symm)
            clear hin hEL1
            generalize lagY p t pts k y0 m = u at hsk HYM
            generalize pts.getD m 0 = x at hc hsk
            generalize pts.getD k 0 = q at hcq hsk
            have hmk' : ((m : Int) != (k : Int)) = true := by simp; omega
            have hmk2 : ¬ (m : Int) = (k : Int) := by omega
            have hlm' : (m : Int) < (n : Int) := by omega
            have hk0 : (0 : Int) ≤ (k : Int) := by omega
            have hm0 : (0 : Int) ≤ (m : Int) := by omega
            go_wp2_with fail
            go_quiet ((first | (go_at_call 58; exact Calls.quiet_of_same ((c_spec_FSub _ _ _ _).mono fun _ _ h => ⟨h.1, h.2.symm⟩)) | (go_at_call 52; exact Calls.quiet_of_same ((c_spec_FMul _ _ _ _).mono fun _ _ h => ⟨h.1, h.2.symm⟩)) | (go_at_call 71; exact Calls.quiet_of_same ((c_spec_FInv _ _ _).mono fun _ _ h => ⟨h.1, h.2.symm⟩))))
            go_wp2_with fail
            go_roundw
            case rel => exact ⟨m + 1, by omega, by go_num, by rw [hsk.out], below_drewN hbel2 _⟩
            case measure => simp [intOf]; omega
        · obtain rfl : m = n := by omega
          generalize lagY p t pts k y0 m = u at hst HYM
          go_wp2_with (go_at_call 54; (with_reducible refine (c_spec_FAdd _ _ _ _).mono ?_); rintro e w' ⟨rfl, rfl⟩)
          go_roundw
          case rel => exact ⟨k + 1, by omega, by go_num, by rw [hst.out], hbel2⟩
          case measure => simp [intOf]; omega
    · obtain rfl : k = n := by omega
      have hfin := Lib.hid (show lagAt p t pts vs = lagS p t pts vs k by unfold lagAt; rw [hl'.out])
      generalize lagS p t pts vs k = s at hfin
      go_wp2_with fail
      go_ret
      exact ⟨ret_int hfin.out.symm, hbel⟩
end Go.Proofs.Ytagocjdodgolkaa
