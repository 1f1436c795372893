/- The walks of the coin. -/
import Derived.Test.YtknepofclgjmiaaRows
import Derived.Test.YtknepofclgjmiaaPlain
import Derived.Test.YtknepofclgjmiaaMem
import Derived.Test.YtknepofclgjmiaaWords
import Derived.Test.YtknepofclgjmiaaList
import Derived.Test.YtknepofclgjmiaaCommit
import Derived.WalkKit
import Derived.WalkSpells
import Derived.WalkLawsBesides
import Derived.Handy
import Derived.RegionTactic
import Derived.BigQuiet
import Derived.Deep.QuietTactic
import Derived.Deep.RegionWith
import Derived.Deep.RegionHeld3
import Derived.Deep.Onto
import Derived.Lib.Hide
import Derived.Test.YtknepofclgjmiaaTossCheat
namespace Go.Proofs.Ytknepofclgjmiaa
open Go.RowKit
def coinTo (vs : List Int) : Nat → Int
  | 0 => 0
  | k + 1 => xorN (coinTo vs k) (vs.getD k 0)
def coinOk (vs ns cs : List Int) : Bool := sameT vs.length ns.length cs.length && inB vs.length 1 5 && (cheatF vs ns cs == -1)
def coinF (vs ns cs : List Int) : Int := if coinOk vs ns cs then coinTo vs vs.length else 0
theorem coin_word {vs ns cs : List Int} (h : coinOk vs ns cs = true) : ∀ k, k < vs.length → 0 ≤ vs.getD k 0 ∧ vs.getD k 0 ≤ 4294967295 := by
  intro k hk
  simp only [coinOk, Bool.and_eq_true, beq_iff_eq] at h
  obtain ⟨⟨h1, _⟩, h3⟩ := h
  rw [cheat_yes h1] at h3
  have := cheatGo_open vs.length 0 h3 k (by omega) (by omega)
  simp only [openF, pairOk, Bool.and_eq_true] at this
  exact isWord_iff.1 this.1.1
theorem coinTo_bounds {vs : List Int} {n : Nat} (h : ∀ k, k < n → 0 ≤ vs.getD k 0 ∧ vs.getD k 0 ≤ 4294967295) : ∀ k, k ≤ n → 0 ≤ coinTo vs k ∧ coinTo vs k ≤ 4294967295
  | 0, _ => by simp [coinTo]
  | k + 1, hk => by
    have h1 := coinTo_bounds h k (by omega)
    have h2 := h k (by omega)
    exact xorN_bounds h1.1 h1.2 h2.1 h2.2
theorem coin_no {vs ns cs : List Int} (h : coinOk vs ns cs = false) : coinF vs ns cs = 0 := by simp [coinF, h]
theorem coin_yes {vs ns cs : List Int} (h : coinOk vs ns cs = true) : coinF vs ns cs = coinTo vs vs.length := by simp [coinF, h]
set_option maxHeartbeats 8000000 in
theorem c_impl_TossCoin (A0 A1 A2 : Option Addr) (c0 c1 c2 B : Nat) (vs ns cs : List Int) (w : World) (hx : SliceI w B A0 vs.length vs) (hy : SliceI w B A1 ns.length ns) (hz : SliceI w B A2 cs.length cs) (hB : B ≤ w.heap.size) (h0 : vs.length ≤ 1048576) (h1 : ns.length ≤ 1048576) (h2 : cs.length ≤ 1048576) :
    Calls Try.prog 20 #[.agg #[.slice A0 vs.length c0, .slice A1 ns.length c1, .slice A2 cs.length c2]] w fun e w' => e = .returned (.tuple #[.int .i64 (coinF vs ns cs), .bool (coinOk vs ns cs)]) ∧ Below w.heap.size w w' := by
  have HX := Lib.hid hx
  have HY := Lib.hid hy
  have HZ := Lib.hid hz
  clear hx hy hz
  cases hs : sameT vs.length ns.length cs.length
  · skip
    have hno : coinOk vs ns cs = false := by simp [coinOk, hs]
    have hfin := Lib.hid (coin_no hno)
    have hfo := Lib.hid hno
    clear hno
    go_enter Try.func20, Try.ntmps20
    go_wp2_with (first | (go_at_call 44; (with_reducible refine (c_impl_isToss _ _ _ _ _ _ _ _ _ _).mono ?_); rintro e w1 ⟨rfl, hb⟩; obtain ⟨bel, b1⟩ := start1 hb; have k1 := b1.cell; have HX1 := Lib.hid (HX.out.below_le bel hB); have HY1 := Lib.hid (HY.out.below_le bel hB); have HZ1 := Lib.hid (HZ.out.below_le bel hB); have hB1 := Nat.le_trans hB bel.size; clear hb) | (go_at_call 36; (with_reducible refine (c_impl_within _ _ _ _).mono ?_); rintro e w' ⟨rfl, rfl⟩) | (go_at_call 21; (with_reducible refine (c_impl_TossCheat _ _ _ _ _ _ _ _ _ _ _ HX1.out HY1.out HZ1.out hB1 h0 h1 h2).mono ?_); rintro e w2 ⟨rfl, hb⟩; have b2 := b1.below hb; have bel2 := below_next bel hb; clear hb k1; have k1 := b2.cell))
    go_ret2
    exact ⟨by rw [hfin.out, hfo.out]; rfl, by go_grown⟩
  cases hi : inB vs.length 1 5
  · skip
    have hno : coinOk vs ns cs = false := by simp [coinOk, hi]
    have hfin := Lib.hid (coin_no hno)
    have hfo := Lib.hid hno
    clear hno
    go_enter Try.func20, Try.ntmps20
    go_wp2_with (first | (go_at_call 44; (with_reducible refine (c_impl_isToss _ _ _ _ _ _ _ _ _ _).mono ?_); rintro e w1 ⟨rfl, hb⟩; obtain ⟨bel, b1⟩ := start1 hb; have k1 := b1.cell; have HX1 := Lib.hid (HX.out.below_le bel hB); have HY1 := Lib.hid (HY.out.below_le bel hB); have HZ1 := Lib.hid (HZ.out.below_le bel hB); have hB1 := Nat.le_trans hB bel.size; clear hb) | (go_at_call 36; (with_reducible refine (c_impl_within _ _ _ _).mono ?_); rintro e w' ⟨rfl, rfl⟩) | (go_at_call 21; (with_reducible refine (c_impl_TossCheat _ _ _ _ _ _ _ _ _ _ _ HX1.out HY1.out HZ1.out hB1 h0 h1 h2).mono ?_); rintro e w2 ⟨rfl, hb⟩; have b2 := b1.below hb; have bel2 := below_next bel hb; clear hb k1; have k1 := b2.cell))
    go_ret2
    exact ⟨by rw [hfin.out, hfo.out]; rfl, by go_grown⟩
  cases hc : (cheatF vs ns cs == -1)
  · have hc' : ¬ cheatF vs ns cs = -1 := by simpa using hc
    have hc2 : (cheatF vs ns cs != -1) = true := by simp [hc']
    have HC := Lib.hid hc
    clear hc
    have hno : coinOk vs ns cs = false := by simp [coinOk, HC.out]
    have hfin := Lib.hid (coin_no hno)
    have hfo := Lib.hid hno
    clear hno
    go_enter Try.func20, Try.ntmps20
    go_wp2_with (first | (go_at_call 44; (with_reducible refine (c_impl_isToss _ _ _ _ _ _ _ _ _ _).mono ?_); rintro e w1 ⟨rfl, hb⟩; obtain ⟨bel, b1⟩ := start1 hb; have k1 := b1.cell; have HX1 := Lib.hid (HX.out.below_le bel hB); have HY1 := Lib.hid (HY.out.below_le bel hB); have HZ1 := Lib.hid (HZ.out.below_le bel hB); have hB1 := Nat.le_trans hB bel.size; clear hb) | (go_at_call 36; (with_reducible refine (c_impl_within _ _ _ _).mono ?_); rintro e w' ⟨rfl, rfl⟩) | (go_at_call 21; (with_reducible refine (c_impl_TossCheat _ _ _ _ _ _ _ _ _ _ _ HX1.out HY1.out HZ1.out hB1 h0 h1 h2).mono ?_); rintro e w2 ⟨rfl, hb⟩; have b2 := b1.below hb; have bel2 := below_next bel hb; clear hb k1; have k1 := b2.cell))
    go_ret2
    exact ⟨by rw [hfin.out, hfo.out]; rfl, by go_grown⟩
  have hc' : cheatF vs ns cs = -1 := by simpa using hc
  have hyes : coinOk vs ns cs = true := by simp [coinOk, hs, hi, hc]
  have hfin := Lib.hid (coin_yes hyes)
  have hw := Lib.hid (coin_word hyes)
  have hbd := Lib.hid (coinTo_bounds hw.out)
  have HYES := Lib.hid hyes
  clear hyes hc
  go_enter Try.func20, Try.ntmps20
  go_wp2_with (first | (go_at_call 44; (with_reducible refine (c_impl_isToss _ _ _ _ _ _ _ _ _ _).mono ?_); rintro e w1 ⟨rfl, hb⟩; obtain ⟨bel, b1⟩ := start1 hb; have k1 := b1.cell; have HX1 := Lib.hid (HX.out.below_le bel hB); have HY1 := Lib.hid (HY.out.below_le bel hB); have HZ1 := Lib.hid (HZ.out.below_le bel hB); have hB1 := Nat.le_trans hB bel.size; clear hb) | (go_at_call 36; (with_reducible refine (c_impl_within _ _ _ _).mono ?_); rintro e w' ⟨rfl, rfl⟩) | (go_at_call 21; (with_reducible refine (c_impl_TossCheat _ _ _ _ _ _ _ _ _ _ _ HX1.out HY1.out HZ1.out hB1 h0 h1 h2).mono ?_); rintro e w2 ⟨rfl, hb⟩; have b2 := b1.below hb; have bel2 := below_next bel hb; clear hb k1; have k1 := b2.cell))
  have HX2 := Lib.hid (HX.out.below_le bel2 hB)
  have hB2 := Nat.le_trans hB bel2.size
  go_loop [4, 25] (fun s i => ∃ k : Nat, k ≤ vs.length ∧ i = .int .i64 k ∧ s = .int .i64 (coinTo vs k)) (fun _ i => vs.length - (intOf i).toNat)
  case atStart => exact ⟨0, by omega, rfl, rfl⟩
  case round =>
    obtain ⟨k, hk, rfl, rfl⟩ := hrel
    obtain ⟨s0, s1⟩ := hbd.out k hk
    by_cases hlt : k < vs.length
    · obtain ⟨a, o, rfl, _, hcell⟩ := HX2.out.at_ hlt
      obtain ⟨v0, v1⟩ := hw.out k hlt
      have hst := Lib.hid (show coinTo vs (k + 1) = xorN (coinTo vs k) (vs.getD k 0) from rfl)
      generalize coinTo vs k = s at s0 s1 hst
      generalize vs.getD k 0 = v at hcell v0 v1 hst
      have hx1 := bits_xor s0 s1 v0 v1
      have hlt' : (k : Int) < (vs.length : Int) := by omega
      go_wp2_with fail
      go_round
      case rel => exact ⟨k + 1, by omega, by go_num, by rw [hst.out]⟩
      case measure => simp [intOf]; omega
    · obtain rfl : k = vs.length := by omega
      generalize coinTo vs vs.length = s at s0 s1 hfin
      go_wp2_with fail
      go_ret2
      exact ⟨by rw [hfin.out, HYES.out]; rfl, by go_grown⟩
end Go.Proofs.Ytknepofclgjmiaa
