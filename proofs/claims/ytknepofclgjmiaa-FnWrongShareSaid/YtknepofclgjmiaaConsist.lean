/- The walk of PolyConsistent. -/
import Derived.Test.YtknepofclgjmiaaOpenPoly
import Derived.OwnWalk
import Derived.Deep.Onto
import Derived.Deep.RegionHeld3
import Derived.Maps.AppendAt
namespace Go.Proofs.Ytknepofclgjmiaa
open Go.RowKit
def ptsL (m : Nat) : List Int := (List.range m).map fun (i : Nat) => (i : Int) + 1
theorem ptsL_len (m : Nat) : (ptsL m).length = m := by simp [ptsL]
theorem ptsL_succ (m : Nat) : vals (ptsL m) ++ [.int .i64 ((m : Int) + 1)] = vals (ptsL (m + 1)) := by simp [ptsL, vals, List.range_succ]
theorem ptsL_get {m i : Nat} (h : i < m) : (ptsL m).getD i 0 = (i : Int) + 1 := by simp [ptsL, h]
theorem ptsL_apart {p : Int} {m : Nat} (hf : fieldOk p = true) (hm : (m : Int) < p) : Apart p (ptsL m) := by
  refine ⟨allEl_iff.2 ⟨hf, fun a ha => ?_⟩, fun i k hi hk hne => ?_⟩
  · simp only [ptsL, List.mem_map, List.mem_range] at ha
    obtain ⟨i, hi, rfl⟩ := ha
    omega
  · rw [ptsL_len] at hi hk
    rw [ptsL_get hi, ptsL_get hk]
    omega
def consOk (p : Int) (xs : List Int) (k : Int) : Bool := inB xs.length 1 5 && decide ((xs.length : Int) < p) && allEl p xs && decide (0 ≤ k)
def consTo (p : Int) (xs : List Int) (m j : Nat) : Bool := (List.range j).all fun i => decide (i < m) || (lagAt p ((i : Int) + 1) (ptsL m) (xs.take m) == xs.getD i 0)
def mOf (n : Nat) (k : Int) : Nat := if (n : Int) ≤ k then n else k.toNat + 1
def polyCons (p : Int) (xs : List Int) (k : Int) : Bool := consOk p xs k && consTo p xs (mOf xs.length k) xs.length
theorem consTo_skip (p : Int) (xs : List Int) {m j : Nat} (h : j ≤ m) : consTo p xs m j = true := by
  unfold consTo
  refine List.all_eq_true.2 fun i hi => ?_
  simp at hi ⊢
  exact .inl (by omega)
theorem consTo_succ (p : Int) (xs : List Int) {m j : Nat} (h : m ≤ j) : consTo p xs m (j + 1) = (consTo p xs m j && (lagAt p ((j : Int) + 1) (ptsL m) (xs.take m) == xs.getD j 0)) := by
  simp [consTo, List.range_succ, show ¬ j < m by omega]
theorem consTo_bad {p : Int} {xs : List Int} {k : Int} {m j : Nat} (hm : mOf xs.length k = m) (h1 : m ≤ j) (h2 : j < xs.length) (h : (lagAt p ((j : Int) + 1) (ptsL m) (xs.take m) == xs.getD j 0) = false) : polyCons p xs k = false := by
  have : consTo p xs m xs.length = false := by
    rw [Bool.eq_false_iff]
    intro h3
    have := List.all_eq_true.1 h3 j (by simpa using h2)
    simp only [show ¬ j < m by omega, decide_false, Bool.false_or] at this
    rw [h] at this; cases this
  simp [polyCons, hm, this]
theorem cons_no {p : Int} {xs : List Int} {k : Int} (h : consOk p xs k = false) : polyCons p xs k = false := by simp [polyCons, h]
theorem cons_end {p : Int} {xs : List Int} {k : Int} {m : Nat} (h : consOk p xs k = true) (hm : mOf xs.length k = m) (hc : consTo p xs m xs.length = true) : polyCons p xs k = true := by simp [polyCons, h, hm, hc]
theorem allEl_take {p : Int} {xs : List Int} (h : allEl p xs = true) (m : Nat) : allEl p (xs.take m) = true :=
  allEl_iff.2 ⟨(allEl_iff.1 h).1, fun a ha => (allEl_iff.1 h).2 a (List.mem_of_mem_take ha)⟩
set_option maxHeartbeats 8000000 in
theorem c_impl_PolyConsistent (p k : Int) (A : Option Addr) (c B : Nat) (xs : List Int) (w : World) (hx : SliceI w B A xs.length xs) (hB : B ≤ w.heap.size) (hmx : xs.length ≤ maxLen) (hcap : xs.length ≤ c) :
    Calls Try.prog 23 #[.int .i64 p, .slice A xs.length c, .int .i64 k] w fun e w' => e = .returned (.bool (polyCons p xs k)) ∧ Below w.heap.size w w' := by
  obtain ⟨i0, hi, hz0, hz1, hz2⟩ := info_parts int_info
  have HZ := Lib.hid (And.intro hz1 hz2)
  have HX := Lib.hid hx
  have HM := Lib.hid hmx
  unfold maxLen at hmx
  clear hz1 hz2 hx
  cases h1 : inB xs.length 1 5
  · skip
    have hfin := Lib.hid (cons_no (p := p) (xs := xs) (k := k) (by simp [consOk, h1]))
    go_enter Try.func23, Try.ntmps23
    go_wp2_with (first | (go_at_call 36; (with_reducible refine (c_impl_within _ _ _ _).mono ?_); rintro e w' ⟨rfl, rfl⟩) | (go_at_call 37; (with_reducible refine (c_impl_areElements _ _ _ _ _ _ _ HX.out HM.out).mono ?_); rintro e w' ⟨rfl, rfl⟩))
    go_ret
    exact ⟨ret_bool hfin.out.symm, Below.refl _ _⟩
  have hn := inB_iff.1 h1
  have hn1 : 1 ≤ xs.length := by omega
  have hn5 : xs.length ≤ 5 := by omega
  clear hn
  by_cases h2 : p ≤ (xs.length : Int)
  · skip
    have hfin := Lib.hid (cons_no (p := p) (xs := xs) (k := k) (by simp [consOk]; intros; omega))
    go_enter Try.func23, Try.ntmps23
    go_wp2_with (first | (go_at_call 36; (with_reducible refine (c_impl_within _ _ _ _).mono ?_); rintro e w' ⟨rfl, rfl⟩) | (go_at_call 37; (with_reducible refine (c_impl_areElements _ _ _ _ _ _ _ HX.out HM.out).mono ?_); rintro e w' ⟨rfl, rfl⟩))
    go_ret
    exact ⟨ret_bool hfin.out.symm, Below.refl _ _⟩
  have h2' : (xs.length : Int) < p := by omega
  cases h3 : allEl p xs
  · skip
    have hfin := Lib.hid (cons_no (p := p) (xs := xs) (k := k) (by simp [consOk, h3]))
    go_enter Try.func23, Try.ntmps23
    go_wp2_with (first | (go_at_call 36; (with_reducible refine (c_impl_within _ _ _ _).mono ?_); rintro e w' ⟨rfl, rfl⟩) | (go_at_call 37; (with_reducible refine (c_impl_areElements _ _ _ _ _ _ _ HX.out HM.out).mono ?_); rintro e w' ⟨rfl, rfl⟩))
    go_ret
    exact ⟨ret_bool hfin.out.symm, Below.refl _ _⟩
  by_cases h4 : k < 0
  · skip
    have hfin := Lib.hid (cons_no (p := p) (xs := xs) (k := k) (by simp [consOk]; intros; omega))
    go_enter Try.func23, Try.ntmps23
    go_wp2_with (first | (go_at_call 36; (with_reducible refine (c_impl_within _ _ _ _).mono ?_); rintro e w' ⟨rfl, rfl⟩) | (go_at_call 37; (with_reducible refine (c_impl_areElements _ _ _ _ _ _ _ HX.out HM.out).mono ?_); rintro e w' ⟨rfl, rfl⟩))
    go_ret
    exact ⟨ret_bool hfin.out.symm, Below.refl _ _⟩
  have hok := Lib.hid (show consOk p xs k = true by simp [consOk, h1, h3]; omega)
  have H3 := Lib.hid h3
  have HF := Lib.hid (allEl_iff.1 h3).1
  obtain ⟨q, rfl⟩ : ∃ q : Nat, k = (q : Int) := ⟨k.toNat, by omega⟩
  clear h4
  by_cases h5 : (xs.length : Int) ≤ (q : Int) + 1
  · have hfin := Lib.hid (cons_end (m := xs.length) hok.out (by unfold mOf; split <;> omega) (consTo_skip p xs (Nat.le_refl _)))
    by_cases h6 : (5 : Int) < (q : Int)
    · have h7 : (xs.length : Int) ≤ 5 + 1 := by omega
      go_enter Try.func23, Try.ntmps23
      go_wp2_with (first | (go_at_call 36; (with_reducible refine (c_impl_within _ _ _ _).mono ?_); rintro e w' ⟨rfl, rfl⟩) | (go_at_call 37; (with_reducible refine (c_impl_areElements _ _ _ _ _ _ _ HX.out HM.out).mono ?_); rintro e w' ⟨rfl, rfl⟩))
      go_ret
      exact ⟨ret_bool hfin.out.symm, Below.refl _ _⟩
    · have h7 : (xs.length : Int) ≤ (q : Int) + 1 := by omega
      go_enter Try.func23, Try.ntmps23
      go_wp2_with (first | (go_at_call 36; (with_reducible refine (c_impl_within _ _ _ _).mono ?_); rintro e w' ⟨rfl, rfl⟩) | (go_at_call 37; (with_reducible refine (c_impl_areElements _ _ _ _ _ _ _ HX.out HM.out).mono ?_); rintro e w' ⟨rfl, rfl⟩))
      go_ret
      exact ⟨ret_bool hfin.out.symm, Below.refl _ _⟩
  obtain ⟨m, hm⟩ : ∃ m : Nat, m = q + 1 := ⟨_, rfl⟩
  have hmo := Lib.hid (show mOf xs.length (q : Int) = m by unfold mOf; rw [if_neg (by omega)]; omega)
  have hq5 : ¬ (5 : Int) < (q : Int) := by omega
  have hmn : m ≤ xs.length := by omega
  have hm1 : 1 ≤ m := by omega
  have hq1 : (q : Int) + 1 = (m : Int) := by omega
  have hlong : (m : Int) < (xs.length : Int) := by omega
  have hnl : ¬ (xs.length : Int) ≤ (m : Int) := by omega
  have hnd : decide (xs.length ≤ m) = false := by rw [decide_eq_false_iff_not]; omega
  have hdp : decide (p ≤ (xs.length : Int)) = false := by rw [decide_eq_false_iff_not]; omega
  have hdq : decide ((q : Int) < 0) = false := by rw [decide_eq_false_iff_not]; omega
  have hma : m ≤ q + 1 := by omega
  have hmb : q + 1 ≤ m := by omega
  clear hm
  go_enter Try.func23, Try.ntmps23
  go_wp2_with (first | (go_at_call 36; (with_reducible refine (c_impl_within _ _ _ _).mono ?_); rintro e w' ⟨rfl, rfl⟩) | (go_at_call 37; (with_reducible refine (c_impl_areElements _ _ _ _ _ _ _ HX.out HM.out).mono ?_); rintro e w' ⟨rfl, rfl⟩))
  go_loopw [8, 9] (fun v i wr => ∃ j : Nat, j ≤ m ∧ i = .int .i64 ((j : Int) + 1) ∧ wr.ownsRow w.heap.size 3 1 v j (vals (ptsL j)) ∧ Below w.heap.size w wr) (fun _ i _ => (m + 1 - (intOf i).toNat))
  case atStart => exact ⟨0, by omega, by simp, World.ownsRow_lit w #[] 0 (Nat.le_refl _) (by simp [maxLen]) rfl, (Below.refl _ _).alloc (Nat.le_refl _) _⟩
  case round =>
    obtain ⟨j, hj, rfl, hown, hbel⟩ := hrel
    by_cases hlt : j < m
    · have HOWN := Lib.hid hown
      clear hown
      have hst := Lib.hid (ptsL_succ j)
      have hlt' : (j : Int) + 1 ≤ (m : Int) := by omega
      go_wp2_with (at_builtin; refine wpList_append_own _ rfl (.tmp 44) (.tmp 46) 24 rfl w.heap.size 3 i0 (.int .i64 0) 1 8 Try.underlying24 hi hz0 HZ.out.1 HZ.out.2 rfl (by decide) _ _ _ rfl (HOWN.out.alloc _) ⟨_, 0, none⟩ 1 1 [.int .i64 _] rfl rfl (cell_one_new _ _ _) (by simp [Value.oneCell']) (by unfold maxLen; omega) (by omega) (by have := hbel.size; simp; omega) ?_; intro v' w6 hown6 hgrow6 _)
      have hb3 := below_app hbel HOWN.out hgrow6
      go_roundw
      case rel => exact ⟨j + 1, by omega, by first | go_num | (congr 1), by rw [← hst.out]; exact hown6, hb3⟩
      case measure => simp [intOf]; omega
    · obtain rfl : j = m := by omega
      have hlt' : ¬ (j : Int) + 1 ≤ (j : Int) := by omega
      obtain ⟨gc, cc, rfl, hsc⟩ := own_sliceI hown (by omega)
      have HSC := Lib.hid hsc
      have hbel1 := hbel
      clear hsc hown hbel
      generalize hmj : j = m at *
      have HMJ := Lib.hid hmj
      clear hmj
      generalize hwr : wr = wr1 at *
      have HWR := Lib.hid hwr
      clear hwr
      go_wp2_with fail
      go_loopw [10] (fun i wr => ∃ j : Nat, m ≤ j ∧ j ≤ xs.length ∧ i = .int .i64 j ∧ consTo p xs m j = true ∧ Below wr1.heap.size wr1 wr) (fun i _ => xs.length - (intOf i).toNat)
      case atStart => exact ⟨m, Nat.le_refl _, hmn, rfl, consTo_skip p xs (Nat.le_refl _), Below.refl _ _⟩
      case round =>
        obtain ⟨j, hj, hjn, rfl, hct, hbr⟩ := hrel
        have HCT := Lib.hid hct
        clear hct
        by_cases hlt2 : j < xs.length
        · have hXW := HX.out.below_le (below_next hbel1 hbr) hB
          obtain ⟨b, off, rfl, hbB, hc⟩ := hXW.at_ hlt2
          have hsz1 := hbel1.size
          have hszr := hbr.size
          have HP := Lib.hid (SliceI.keep (w' := wr.drew) (HSC.out.below hbr) (fun _ _ _ => rfl))
          have HV := Lib.hid (SliceI.keep (w' := wr.drew) (hXW.take hmn) (fun _ _ _ => rfl))
          clear hXW
          have hBP : wr1.heap.size ≤ wr.drew.heap.size := hbr.size
          have hBX : B ≤ wr.drew.heap.size := by show B ≤ wr.heap.size; omega
          have hbw : b < wr.drew.heap.size := by show b < wr.heap.size; omega
          have hap := Lib.hid (ptsL_apart HF.out (show (m : Int) < p by omega))
          have HTK := Lib.hid (allEl_take H3.out m)
          have HEJ := Lib.hid (show isEl p ((j : Int) + 1) = true from isEl_iff.2 ⟨HF.out, by omega, by omega⟩)
          have HL := Lib.hid (c_impl_lagrange p ((j : Int) + 1) _ _ m cc c _ _ _ _ _ HP.out HV.out hBP hBX (by omega) hap.out HTK.out HEJ.out)
          have hst := Lib.hid (consTo_succ p xs hj)
          have hbad := Lib.hid (fun h => consTo_bad (p := p) hmo.out hj hlt2 h)
          generalize lagAt p ((j : Int) + 1) (ptsL m) (xs.take m) = v at HL hst hbad
          generalize xs.getD j 0 = y at hc hst hbad
          clear HP HV hBP hBX hap HTK HEJ hsz1 hszr
          have hlt2' : (j : Int) < (xs.length : Int) := by omega
          have hj0 : (0 : Int) ≤ (j : Int) := by omega
          have hm0 : (0 : Int) ≤ (m : Int) := by omega
          have hmc : (m : Int) ≤ (c : Int) := by omega
          have w1' : IntKind.i64.wrap ((j : Int) + 1) = (j : Int) + 1 := IntWalk.i64_in _ ⟨by omega, by omega⟩
          cases hvy : (v == y)
          · have hfin := Lib.hid (hbad.out hvy)
            have hvy' : ¬ v = y := by simpa using hvy
            have hvy2 : (v != y) = true := by simp [hvy']
            clear hbad hst
            go_wp2_with fail
            go_region_held3 (fun W => Below wr1.heap.size wr1 W ∧ W.cell? ⟨b, off + j, none⟩ = some (.int .i64 y)) (first | exact ⟨hbr.drew, hc⟩ | exact hc2) (first | (go_at_call 46; (with_reducible refine HL.out.mono ?_); rintro e w2 ⟨rfl, hb⟩; have hc2 : Below wr1.heap.size wr1 w2 ∧ w2.cell? ⟨b, off + j, none⟩ = some (.int .i64 y) := ⟨below_next hbr.drew hb, (hb.cell (p := ⟨b, off + j, none⟩) hbw).trans hc⟩))
            all_goals
              clear w1'
              go_wp2_with fail
              go_ret
              exact ⟨ret_bool hfin.out.symm, below_next hbel1 hc2.1⟩
          · have hok1 := Lib.hid (show consTo p xs m (j + 1) = true by rw [hst.out, HCT.out, hvy]; rfl)
            have hvy' : v = y := by simpa using hvy
            clear hbad hst hvy
            subst hvy'
            go_wp2_with fail
            go_region_held3 (fun W => Below wr1.heap.size wr1 W ∧ W.cell? ⟨b, off + j, none⟩ = some (.int .i64 v)) (first | exact ⟨hbr.drew, hc⟩ | exact hc2) (first | (go_at_call 46; (with_reducible refine HL.out.mono ?_); rintro e w2 ⟨rfl, hb⟩; have hc2 : Below wr1.heap.size wr1 w2 ∧ w2.cell? ⟨b, off + j, none⟩ = some (.int .i64 v) := ⟨below_next hbr.drew hb, (hb.cell (p := ⟨b, off + j, none⟩) hbw).trans hc⟩))
            all_goals
              clear w1'
              go_wp2_with fail
              go_roundw
              case rel => exact ⟨j + 1, by omega, by omega, by go_num, hok1.out, hc2.1⟩
              case measure => simp [intOf]; omega
        · obtain rfl : j = xs.length := by omega
          have hfin := Lib.hid (cons_end hok.out hmo.out HCT.out)
          go_wp2_with fail
          go_ret
          exact ⟨ret_bool hfin.out.symm, below_next hbel1 hbr⟩
end Go.Proofs.Ytknepofclgjmiaa
