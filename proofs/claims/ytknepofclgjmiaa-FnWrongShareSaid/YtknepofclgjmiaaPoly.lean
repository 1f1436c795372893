/- The walks of the interpolation over a small prime field: what each call returns; what was there is kept. -/
import Derived.Test.YtknepofclgjmiaaRows
import Derived.Test.YtknepofclgjmiaaPlain
import Derived.Test.YtknepofclgjmiaaAlg
import Derived.Test.YtknepofclgjmiaaLag
import Derived.Test.YtknepofclgjmiaaMem
import Derived.Test.YtknepofclgjmiaaWords
import Derived.Test.YtknepofclgjmiaaField
import Derived.Test.YtknepofclgjmiaaSums
import Derived.WalkKit
import Derived.WalkSpells
import Derived.WalkLawsBesides
import Derived.Handy
import Derived.RegionTactic
import Derived.Deep.QuietTactic
import Derived.BigQuiet
import Derived.Deep.RegionWith
import Derived.Deep.RegionHeld3
import Derived.IntWalk
import Derived.Lib.Hide
namespace Go.Proofs.Ytknepofclgjmiaa
open Go.RowKit

theorem el_lo {p a : Int} (h : isEl p a = true) : 0 ≤ a := (isEl_iff.1 h).2.1
theorem el_hi {p a : Int} (h : isEl p a = true) : a ≤ p - 1 := (isEl_iff.1 h).2.2
theorem el_mul {p a b : Int} (ha : isEl p a = true) (hb : isEl p b = true) : 0 ≤ a * b ∧ a * b ≤ 10000 := mul_bounds (fieldOk_range (el_field ha)).2 (el_lo ha) (el_hi ha) (el_lo hb) (el_hi hb)

set_option maxHeartbeats 8000000 in
theorem c_impl_lagrange (p t : Int) (A A' : Option Addr) (n c c' B B' : Nat) (pts vs : List Int) (w : World) (hx : SliceI w B A n pts) (hy : SliceI w B' A' n vs) (hB : B ≤ w.heap.size) (hB' : B' ≤ w.heap.size) (hn : n ≤ 5) (hap : Apart p pts) (hv : allEl p vs = true) (ht : isEl p t = true) :
    Calls Try.prog 46 #[.int .i64 p, .slice A n c, .slice A' n c', .int .i64 t] w fun e w' => e = .returned (.int .i64 (lagAt p t pts vs)) ∧ Below w.heap.size w w' := by
  have HX := Lib.hid hx
  have HY := Lib.hid hy
  have hl := Lib.hid hx.len
  have hl' := Lib.hid hy.len
  have HAP := Lib.hid hap
  have HV := Lib.hid hv
  have HT := Lib.hid ht
  have hr := fieldOk_range (el_field ht)
  have hp2 := hr.1
  have hp1 := hr.2
  clear hr hx hy hap hv ht
  have hp0 : (p == 0) = false := by rw [beq_eq_false_iff_ne]; omega
  go_enter Try.func46, Try.ntmps46
  go_wp2_with fail
  go_loopw [9, 16] (fun s i wr => ∃ k : Nat, k ≤ n ∧ i = .int .i64 k ∧ s = .int .i64 (lagS p t pts vs k) ∧ Below w.heap.size w wr) (fun _ i _ => n - (intOf i).toNat)
  case atStart => exact ⟨0, by omega, rfl, rfl, Below.refl _ _⟩
  case round =>
    obtain ⟨k, hk, rfl, rfl, hbel⟩ := hrel
    have hsz := hbel.size
    have hSE := lagS_el (t := t) (pts := pts) (vs := vs) (el_field HT.out) k
    have hs0 := el_lo hSE
    have hs1 := el_hi hSE
    clear hSE
    by_cases hlt : k < n
    · obtain ⟨b', off', rfl, hbB', hc'⟩ := (HY.out.below_le hbel hB').at_ hlt
      have HYE := Lib.hid (allEl_at HV.out (show k < vs.length by rw [hl'.out]; exact hlt))
      have hst := Lib.hid (show lagS p t pts vs (k + 1) = (lagS p t pts vs k + lagY p t pts k (vs.getD k 0) n) % p by rw [← hl.out]; rfl)
      generalize lagS p t pts vs k = s at hs0 hs1 hst
      generalize vs.getD k 0 = y0 at hc' HYE hst
      have hlt' : (k : Int) < (n : Int) := by omega
      go_wp2_with fail
      go_loopw [11, 23] (fun y j wr2 => ∃ m : Nat, m ≤ n ∧ j = .int .i64 m ∧ y = .int .i64 (lagY p t pts k y0 m) ∧ Below w.heap.size w wr2) (fun _ j _ => n - (intOf j).toNat)
      case atStart => exact ⟨0, by omega, rfl, rfl, hbel⟩
      case round =>
        obtain ⟨m, hm, rfl, rfl, hbel2⟩ := hrel
        have hsz2 := hbel2.size
        have HYM := Lib.hid (lagY_el (t := t) (pts := pts) (i := k) HYE.out m)
        by_cases hlm : m < n
        · obtain ⟨b, off, rfl, hbB, hc⟩ := (HX.out.below_le hbel2 hB).at_ hlm
          by_cases hmk : m = k
          · have hsk := Lib.hid (show lagY p t pts k y0 (m + 1) = lagY p t pts k y0 m by rw [hmk]; exact lagY_skip)
            have hmk' : ((m : Int) != (k : Int)) = false := by simp [hmk]
            generalize lagY p t pts k y0 m = u at hsk
            generalize pts.getD m 0 = x at hc
            have hlm' : (m : Int) < (n : Int) := by omega
            subst hmk
            go_wp2_with fail
            go_roundw
            case rel => exact ⟨m + 1, by omega, by go_num, by rw [hsk.out], hbel2⟩
            case measure => simp [intOf]; omega
          · obtain ⟨b2, off2, e2, _, hcq⟩ := (HX.out.below_le hbel2 hB).at_ hlt
            simp only [Option.some.injEq, Addr.mk.injEq, and_true] at e2
            obtain ⟨rfl, rfl⟩ := e2
            have hsk := Lib.hid (lagY_step (p := p) (t := t) (pts := pts) (y := y0) hmk)
            have hin := HAP.out.inv (i := k) (k := m) (by rw [hl.out]; exact hlt) (by rw [hl.out]; exact hlm) hmk
            have hEL1 := el_fsub HT.out (allEl_at HAP.out.1 (show m < pts.length by rw [hl.out]; exact hlm))
            generalize lagY p t pts k y0 m = u at hsk HYM
            generalize pts.getD m 0 = x at hc hsk hin hEL1
            generalize pts.getD k 0 = q at hcq hsk hin
            have hv2 := hin.2
            clear hin
            have HU1 := el_mul HYM.out hEL1
            have HU2 := el_mul (el_mod (el_field HT.out) (u * fsub p t x)) hv2
            have hbw2 : b < wr.heap.size := by omega
            have hmk2 : ¬ (m : Int) = (k : Int) := by omega
            have hlm' : (m : Int) < (n : Int) := by omega
            have hk0 : (0 : Int) ≤ (k : Int) := by omega
            have w1' : IntKind.i64.wrap (u * fsub p t x) = u * fsub p t x := IntWalk.i64_in _ ⟨by omega, by omega⟩
            have t1' : (u * fsub p t x).tmod p = u * fsub p t x % p := Int.tmod_eq_emod_of_nonneg HU1.1
            have w2' : IntKind.i64.wrap (u * fsub p t x % p * finv p (fsub p q x)) = u * fsub p t x % p * finv p (fsub p q x) := IntWalk.i64_in _ ⟨by omega, by omega⟩
            have t2' : (u * fsub p t x % p * finv p (fsub p q x)).tmod p = u * fsub p t x % p * finv p (fsub p q x) % p := Int.tmod_eq_emod_of_nonneg HU2.1
            have hmk' : ((m : Int) != (k : Int)) = true := by simp; omega
            clear hEL1 hv2 hs0 hs1
            have hp0' : ¬ p = 0 := by omega
            go_wp2_with fail
            go_region_held3 (fun W => Below w.heap.size w W ∧ wr.heap.size ≤ W.heap.size ∧ W.cell? ⟨b, off + k, none⟩ = some (.int .i64 q)) (first | exact ⟨hbel2.drew, Nat.le_refl _, hcq⟩ | exact ⟨hc2.2.1, hc2.2.2, hc2.1⟩) (first | (go_at_call 57; (with_reducible refine (c_impl_FInv _ _ _).mono ?_); rintro e w' ⟨rfl, rfl⟩) | (go_at_call 48; (with_reducible refine (c_impl_FSub _ _ _ _).mono ?_); rintro e w2 ⟨rfl, hb⟩; have hc3 : w2.cell? ⟨b, off + k, none⟩ = some (.int .i64 q) ∧ Below w.heap.size w w2 ∧ wr.heap.size ≤ w2.heap.size := (by first | exact ⟨(hb.cell (p := ⟨b, off + k, none⟩) (Nat.lt_of_lt_of_le hbw2 hc2.2.2)).trans hc2.1, below_next hc2.2.1 hb, Nat.le_trans hc2.2.2 hb.size⟩ | exact ⟨(hb.cell (p := ⟨b, off + k, none⟩) hbw2).trans hcq, below_next hbel2.drew hb, hb.size⟩); have hc2 := hc3; clear hc3))
            all_goals
              clear w1' t1' w2' t2'
              go_wp2_with fail
              go_roundw
              case rel => exact ⟨m + 1, by omega, by go_num, by rw [hsk.out], hc2.2.1⟩
              case measure => simp [intOf]; omega
        · obtain rfl : m = n := by omega
          generalize lagY p t pts k y0 m = u at hst HYM
          have hu0 := el_lo HYM.out
          have hu1 := el_hi HYM.out
          go_wp2_with fail
          go_roundw
          case rel => exact ⟨k + 1, by omega, by go_num, by rw [hst.out], hbel2⟩
          case measure => simp [intOf]; omega
    · obtain rfl : k = n := by omega
      have hfin := Lib.hid (show lagAt p t pts vs = lagS p t pts vs k by unfold lagAt; rw [hl'.out])
      generalize lagS p t pts vs k = s at hs0 hs1 hfin
      go_wp2_with fail
      go_ret
      exact ⟨ret_int hfin.out.symm, hbel⟩
end Go.Proofs.Ytknepofclgjmiaa
