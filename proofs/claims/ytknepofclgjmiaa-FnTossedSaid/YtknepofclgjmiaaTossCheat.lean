/- The walks of the test of the openings. -/
import Derived.Test.YtknepofclgjmiaaRows
import Derived.Test.YtknepofclgjmiaaPlain
import Derived.Test.YtknepofclgjmiaaMem
import Derived.Test.YtknepofclgjmiaaWords
import Derived.Test.YtknepofclgjmiaaList
import Derived.Test.YtknepofclgjmiaaCommit
import Derived.WalkKit
import Derived.WalkSpells
import Derived.WalkLawsBesides
import Derived.Handy
import Derived.RegionTactic
import Derived.BigQuiet
import Derived.Deep.QuietTactic
import Derived.Deep.RegionWith
import Derived.Deep.RegionHeld3
import Derived.Deep.Onto
import Derived.Lib.Hide
import Derived.Test.YtknepofclgjmiaaToss
namespace Go.Proofs.Ytknepofclgjmiaa
open Go.RowKit
set_option maxHeartbeats 1000000 in
theorem c_impl_isToss (A0 A1 A2 : Option Addr) (n0 n1 n2 c0 c1 c2 : Nat) (w : World) :
    Calls Try.prog 44 #[.agg #[.slice A0 n0 c0, .slice A1 n1 c1, .slice A2 n2 c2]] w fun e w' => e = .returned (.bool (sameT n0 n1 n2)) ∧ Below w.heap.size w w' := by
  by_cases h1 : n0 = n1
  case neg =>
    have h2 : ((n0 : Int) == (n1 : Int)) = false := by simp; omega
    have h3 : ¬ (n0 : Int) = (n1 : Int) := by omega
    have hfin := Lib.hid (show sameT n0 n1 n2 = false by simp [sameT]; omega)
    go_enter Try.func44, Try.ntmps44
    go_wp2_with fail
    go_ret
    exact ⟨ret_bool hfin.out.symm, by go_grown⟩
  subst h1
  by_cases h1 : n0 = n2
  case neg =>
    have h2 : ((n0 : Int) == (n2 : Int)) = false := by simp; omega
    have h3 : ¬ (n0 : Int) = (n2 : Int) := by omega
    have hfin := Lib.hid (show sameT n0 n0 n2 = false by simp [sameT]; omega)
    go_enter Try.func44, Try.ntmps44
    go_wp2_with fail
    go_ret
    exact ⟨ret_bool hfin.out.symm, by go_grown⟩
  subst h1
  have hfin := Lib.hid (show sameT n0 n0 n0 = true by simp [sameT])
  go_enter Try.func44, Try.ntmps44
  go_wp2_with fail
  go_ret
  exact ⟨ret_bool hfin.out.symm, by go_grown⟩
set_option maxHeartbeats 8000000 in
theorem c_impl_TossCheat (A0 A1 A2 : Option Addr) (c0 c1 c2 B : Nat) (vs ns cs : List Int) (w : World) (hx : SliceI w B A0 vs.length vs) (hy : SliceI w B A1 ns.length ns) (hz : SliceI w B A2 cs.length cs) (hB : B ≤ w.heap.size) (h0 : vs.length ≤ 1048576) (h1 : ns.length ≤ 1048576) (_h2 : cs.length ≤ 1048576) :
    Calls Try.prog 21 #[.agg #[.slice A0 vs.length c0, .slice A1 ns.length c1, .slice A2 cs.length c2]] w fun e w' => e = .returned (.int .i64 (cheatF vs ns cs)) ∧ Below w.heap.size w w' := by
  have HX := Lib.hid hx
  have HY := Lib.hid hy
  have HZ := Lib.hid hz
  clear hx hy hz
  cases hs : sameT vs.length ns.length cs.length
  · have hfin := Lib.hid (cheat_no hs)
    go_enter Try.func21, Try.ntmps21
    go_wp2_with (go_at_call 44; (with_reducible refine (c_impl_isToss _ _ _ _ _ _ _ _ _ _).mono ?_); rintro e w1 ⟨rfl, hb⟩; obtain ⟨bel, b1⟩ := start1 hb; have k1 := b1.cell; clear hb)
    go_ret
    exact ⟨ret_int hfin.out.symm, by go_grown⟩
  have hfin := Lib.hid (cheat_yes hs)
  have hn := hs
  simp only [sameT, Bool.and_eq_true, decide_eq_true_eq] at hn
  have hl1 : vs.length ≤ ns.length := by omega
  have hl2 : vs.length ≤ cs.length := by omega
  clear hn
  go_enter Try.func21, Try.ntmps21
  go_wp2_with (go_at_call 44; (with_reducible refine (c_impl_isToss _ _ _ _ _ _ _ _ _ _).mono ?_); rintro e w1 ⟨rfl, hb⟩; obtain ⟨bel, b1⟩ := start1 hb; have k1 := b1.cell; clear hb)
  have HX1 := Lib.hid (HX.out.below_le bel hB)
  have HY1 := Lib.hid (HY.out.below_le bel hB)
  have HZ1 := Lib.hid (HZ.out.below_le bel hB)
  have hB1 : B ≤ w1.heap.size := by have := bel.size; omega
  go_loopw [11] (fun i wr => ∃ k : Nat, k ≤ vs.length ∧ i = .int .i64 k ∧ CheatRel vs ns cs vs.length k ∧ Below w1.heap.size w1 wr) (fun i _ => vs.length - (intOf i).toNat)
  case atStart => exact ⟨0, by omega, rfl, CheatRel.zero _ _ _ _, Below.refl _ _⟩
  case round =>
    obtain ⟨k, hk, rfl, hcr, hbr⟩ := hrel
    have HCR := Lib.hid hcr
    have hszr := hbr.size
    clear hcr
    have b1r := b1.below hbr
    have k1r := b1r.cell
    by_cases hlt : k < vs.length
    · obtain ⟨a0, o0, rfl, hb0, e0⟩ := (HX1.out.below_le hbr hB1).at_ hlt
      obtain ⟨a1, o1, rfl, hb1, e1⟩ := (HY1.out.below_le hbr hB1).at_ (k := k) (by omega)
      obtain ⟨a2, o2, rfl, hb2, e2⟩ := (HZ1.out.below_le hbr hB1).at_ (k := k) (by omega)
      have hnext := Lib.hid (fun h => HCR.out.step hlt h)
      have hbad := Lib.hid (fun h => HCR.out.found hlt h)
      generalize vs.getD k 0 = v at e0 hnext hbad
      generalize ns.getD k 0 = n at e1 hnext hbad
      generalize cs.getD k 0 = c at e2 hnext hbad
      have i0 : (k : Int) < (vs.length : Int) := by omega
      have i1 : (k : Int) < (ns.length : Int) := by omega
      have i2 : (k : Int) < (cs.length : Int) := by omega
      have i3 : (0 : Int) ≤ (k : Int) := by omega
      cases ho : openF c v n
      · have hres := Lib.hid (hfin.out.trans (hbad.out ho))
        clear hbad hnext
        go_wp2_with fail
        go_quiet ((go_at_call 45; exact Calls.quiet_of_same ((c_impl_OpenOk _ _ _ _).mono fun _ _ h => ⟨h.1, h.2.symm⟩)))
        go_wp2_with fail
        go_ret
        exact ⟨ret_int hres.out.symm, below_next bel (below_drewN hbr _)⟩
      · have hres := Lib.hid (hnext.out ho)
        clear hbad hnext
        go_wp2_with fail
        go_quiet ((go_at_call 45; exact Calls.quiet_of_same ((c_impl_OpenOk _ _ _ _).mono fun _ _ h => ⟨h.1, h.2.symm⟩)))
        go_wp2_with fail
        go_roundw
        case rel => exact ⟨k + 1, by omega, by go_num, hres.out, below_drewN hbr _⟩
        case measure => simp [intOf]; omega
    · obtain rfl : k = vs.length := by omega
      have hres := Lib.hid (hfin.out.trans HCR.out.done)
      have i0 : ¬ (vs.length : Int) < (vs.length : Int) := by omega
      go_wp2_with fail
      go_ret
      exact ⟨ret_int hres.out.symm, below_next bel hbr⟩
end Go.Proofs.Ytknepofclgjmiaa
