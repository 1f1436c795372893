/- The walks of the functions on additive shares: each returns a list in new memory. -/
import Derived.Test.YtknepofclgjmiaaRows
import Derived.Test.YtknepofclgjmiaaPlain
import Derived.Test.YtknepofclgjmiaaMem
import Derived.Test.YtknepofclgjmiaaList
import Derived.Test.YtknepofclgjmiaaWords
import Derived.Test.YtknepofclgjmiaaField
import Derived.Test.YtknepofclgjmiaaSums
import Derived.WalkKit
import Derived.WalkSpells
import Derived.WalkLawsBesides
import Derived.OwnWalk
import Derived.Handy
import Derived.RegionTactic
import Derived.Deep.RegionLaw
import Derived.Deep.AppendLies
import Derived.Maps.AppendAt
import Derived.Lib.Hide
namespace Go.Proofs.Ytknepofclgjmiaa
open Go.RowKit

def scaleF (p : Int) (xs : List Int) (k : Int) : List Int := if isEl p k && allEl p xs then xs.map (fun x => fmul p x k) else []

set_option maxHeartbeats 1000000 in
theorem c_impl_ScaleShares (p k0 : Int) (A : Option Addr) (n c B : Nat) (xs : List Int) (w : World) (hx : SliceI w B A n xs) (hB : B ≤ w.heap.size) (hn : n ≤ 1048576) :
    Calls Try.prog 28 #[.int .i64 p, .slice A n c, .int .i64 k0] w (GivesI w (scaleF p xs k0)) := by
  obtain ⟨i0, hi, hz0, hz1, hz2⟩ := info_parts int_info
  have HZ := Lib.hid (And.intro hz1 hz2)
  have HX := Lib.hid hx
  have hl := Lib.hid hx.len
  have HM := Lib.hid (show n ≤ maxLen by unfold maxLen; omega)
  clear hz1 hz2 hx
  have HXc := HX.out

  cases h1 : isEl p k0
  · have hfin := Lib.hid (show scaleF p xs k0 = [] by simp [scaleF, h1])
    go_enter Try.func28, Try.ntmps28
    go_wp2_with (first | (go_at_call 35; (with_reducible refine (c_impl_IsElement _ _ _).mono ?_); rintro e w' ⟨rfl, rfl⟩) | (go_at_call 37; (with_reducible refine (c_impl_areElements _ _ _ _ _ _ _ HXc HM.out).mono ?_); rintro e w' ⟨rfl, rfl⟩) | (go_at_call 50; (with_reducible refine (c_impl_FMul _ _ _ _).mono ?_); rintro e w1 ⟨rfl, hb1⟩; have HOWN1 := Lib.hid (OwnV.below HOWN.out hb1); clear HOWN; have HOWN := HOWN1; clear HOWN1; replace hbel := below_next hbel hb1; clear hb1) | (at_builtin; refine wpList_append_own _ rfl (.tmp 27) (.tmp 32) 24 rfl w.heap.size 3 i0 (.int .i64 0) 1 8 Try.underlying24 hi hz0 HZ.out.1 HZ.out.2 rfl (by decide) _ _ _ rfl (HOWN.out.alloc _) ⟨_, 0, none⟩ 1 1 [.int .i64 _] rfl rfl (cell_one_new _ _ _) (by simp [Value.oneCell']) (by unfold maxLen; omega) (by omega) (by have := hbel.size; simp; omega) ?_; intro v' w2 hown2 hgrow2 _))
    go_ret
    exact hfin.out ▸ GivesI.nil _
  cases h2 : allEl p xs
  · have hfin := Lib.hid (show scaleF p xs k0 = [] by simp [scaleF, h2])
    go_enter Try.func28, Try.ntmps28
    go_wp2_with (first | (go_at_call 35; (with_reducible refine (c_impl_IsElement _ _ _).mono ?_); rintro e w' ⟨rfl, rfl⟩) | (go_at_call 37; (with_reducible refine (c_impl_areElements _ _ _ _ _ _ _ HXc HM.out).mono ?_); rintro e w' ⟨rfl, rfl⟩) | (go_at_call 50; (with_reducible refine (c_impl_FMul _ _ _ _).mono ?_); rintro e w1 ⟨rfl, hb1⟩; have HOWN1 := Lib.hid (OwnV.below HOWN.out hb1); clear HOWN; have HOWN := HOWN1; clear HOWN1; replace hbel := below_next hbel hb1; clear hb1) | (at_builtin; refine wpList_append_own _ rfl (.tmp 27) (.tmp 32) 24 rfl w.heap.size 3 i0 (.int .i64 0) 1 8 Try.underlying24 hi hz0 HZ.out.1 HZ.out.2 rfl (by decide) _ _ _ rfl (HOWN.out.alloc _) ⟨_, 0, none⟩ 1 1 [.int .i64 _] rfl rfl (cell_one_new _ _ _) (by simp [Value.oneCell']) (by unfold maxLen; omega) (by omega) (by have := hbel.size; simp; omega) ?_; intro v' w2 hown2 hgrow2 _))
    go_ret
    exact hfin.out ▸ GivesI.nil _
  have hfin := Lib.hid (show scaleF p xs k0 = xs.map (fun x => fmul p x k0) by simp [scaleF, h1, h2])
  clear HXc
  have HXc := HX.out
  go_enter Try.func28, Try.ntmps28
  go_wp2_with (first | (go_at_call 35; (with_reducible refine (c_impl_IsElement _ _ _).mono ?_); rintro e w' ⟨rfl, rfl⟩) | (go_at_call 37; (with_reducible refine (c_impl_areElements _ _ _ _ _ _ _ HXc HM.out).mono ?_); rintro e w' ⟨rfl, rfl⟩) | (go_at_call 50; (with_reducible refine (c_impl_FMul _ _ _ _).mono ?_); rintro e w1 ⟨rfl, hb1⟩; have HOWN1 := Lib.hid (OwnV.below HOWN.out hb1); clear HOWN; have HOWN := HOWN1; clear HOWN1; replace hbel := below_next hbel hb1; clear hb1) | (at_builtin; refine wpList_append_own _ rfl (.tmp 27) (.tmp 32) 24 rfl w.heap.size 3 i0 (.int .i64 0) 1 8 Try.underlying24 hi hz0 HZ.out.1 HZ.out.2 rfl (by decide) _ _ _ rfl (HOWN.out.alloc _) ⟨_, 0, none⟩ 1 1 [.int .i64 _] rfl rfl (cell_one_new _ _ _) (by simp [Value.oneCell']) (by unfold maxLen; omega) (by omega) (by have := hbel.size; simp; omega) ?_; intro v' w2 hown2 hgrow2 _))
  go_loopw [7, 9, 23] (fun v _ i wr => ∃ k : Nat, k ≤ n ∧ i = .int .i64 k ∧ wr.ownsRow w.heap.size 3 1 v k (vals ((xs.map (fun x => fmul p x k0)).take k)) ∧ Below w.heap.size w wr) (fun _ _ i _ => n - (intOf i).toNat)
  case atStart => exact ⟨0, by omega, rfl, World.ownsRow_lit w #[] 0 (Nat.le_refl _) (by simp [maxLen]) rfl, (Below.refl _ _).alloc (Nat.le_refl _) _⟩
  case round =>
    obtain ⟨k, hk, rfl, hown, hbel⟩ := hrel
    have HOWN := Lib.hid hown
    clear hown
    have hsz := hbel.size
    by_cases hlt : k < n
    · obtain ⟨b, off, rfl, hbB, hc⟩ := (HX.out.below_le hbel hB).at_ hlt
      have hst := Lib.hid (map_take (f := fun x => fmul p x k0) (xs := xs) (k := k) (by rw [hl.out]; exact hlt))
      generalize xs.getD k 0 = x at hc hst
      go_wp2_with (first | (go_at_call 35; (with_reducible refine (c_impl_IsElement _ _ _).mono ?_); rintro e w' ⟨rfl, rfl⟩) | (go_at_call 37; (with_reducible refine (c_impl_areElements _ _ _ _ _ _ _ HXc HM.out).mono ?_); rintro e w' ⟨rfl, rfl⟩) | (go_at_call 50; (with_reducible refine (c_impl_FMul _ _ _ _).mono ?_); rintro e w1 ⟨rfl, hb1⟩; have HOWN1 := Lib.hid (OwnV.below HOWN.out hb1); clear HOWN; have HOWN := HOWN1; clear HOWN1; replace hbel := below_next hbel hb1; clear hb1) | (at_builtin; refine wpList_append_own _ rfl (.tmp 27) (.tmp 32) 24 rfl w.heap.size 3 i0 (.int .i64 0) 1 8 Try.underlying24 hi hz0 HZ.out.1 HZ.out.2 rfl (by decide) _ _ _ rfl (HOWN.out.alloc _) ⟨_, 0, none⟩ 1 1 [.int .i64 _] rfl rfl (cell_one_new _ _ _) (by simp [Value.oneCell']) (by unfold maxLen; omega) (by omega) (by have := hbel.size; simp; omega) ?_; intro v' w2 hown2 hgrow2 _))
      have hb3 := below_app hbel HOWN.out hgrow2
      go_roundw
      case rel => exact ⟨k + 1, by omega, by go_num, by rw [← hst.out]; exact hown2, hb3⟩
      case measure => simp [intOf]; omega
    · obtain rfl : k = n := by omega
      go_wp2_with fail
      go_ret
      have h := HOWN.out
      rw [List.take_of_length_le (by simp [hl.out]), ← hfin.out] at h
      exact GivesI.of h hbel
theorem ones_vals (xs : List Int) : ∀ u ∈ vals xs, u.oneCell' = true := by simp [vals, Value.oneCell']
set_option maxHeartbeats 1000000 in
theorem c_impl_ints (A : Option Addr) (c B : Nat) (xs : List Int) (w : World) (hx : SliceI w B A xs.length xs) (hpos : 0 < xs.length) (hn : xs.length ≤ 1048576) :
    Calls Try.prog 42 #[.slice A xs.length c] w (GivesI w xs) := by
  obtain ⟨i0, hi, hz0, hz1, hz2⟩ := info_parts int_info
  have HZ := Lib.hid (And.intro hz1 hz2)
  obtain ⟨b, off, rfl, hbB, _⟩ := hx.at_ hpos
  have HN := Lib.hid (SliceI.news (SliceI.alloc0 (o := .cells #[] 3) hx))
  clear hz1 hz2 hx
  go_enter Try.func42, Try.ntmps42
  go_wp2_with (at_builtin; refine wpList_append_own _ rfl (.tmp 3) (.tmp 4) 24 rfl w.heap.size 3 i0 (.int .i64 0) 1 8 Try.underlying24 hi hz0 HZ.out.1 HZ.out.2 rfl (by decide) _ _ _ rfl (World.ownsRow_lit w #[] 0 (Nat.le_refl _) (by simp [maxLen]) rfl) ⟨b, off, none⟩ xs.length _ (vals xs) rfl (by simp [vals]) HN.out (by simp [vals, Value.oneCell']) (by unfold maxLen; omega) (by omega) (by simp) ?_; intro v' w2 hown2 hgrow2 _)
  go_ret
  refine GivesI.of (n := xs.length) (by simpa using hown2) ?_
  exact ((Below.refl _ _).alloc (Nat.le_refl _) _).grown hgrow2 (by simp) (fun k hk => by cases hk; exact Nat.le_refl _)
def addConstF (p : Int) (xs : List Int) (k : Int) : List Int := if !xs.isEmpty && isEl p k && allEl p xs then xs.set 0 (fadd p (xs.getD 0 0) k) else []

theorem vals_set {xs : List Int} {i : Nat} {a : Int} : (vals xs).set i (.int .i64 a) = vals (xs.set i a) := by simp [vals, List.map_set]
theorem addConst_no1 {p k : Int} {xs : List Int} (h : isEl p k = false) : addConstF p xs k = [] := by simp [addConstF, h]
theorem addConst_no2 {p k : Int} {xs : List Int} (h : allEl p xs = false) : addConstF p xs k = [] := by simp [addConstF, h]
theorem addConst_yes {p k : Int} {xs : List Int} (h0 : 0 < xs.length) (h1 : isEl p k = true) (h2 : allEl p xs = true) : addConstF p xs k = xs.set 0 (fadd p (xs.getD 0 0) k) := by
  have : xs.isEmpty = false := by cases xs with | nil => simp at h0 | cons a l => rfl
  simp [addConstF, h1, h2, this]

set_option maxHeartbeats 1000000 in
theorem c_impl_AddConstant (p k0 : Int) (A : Option Addr) (c B : Nat) (xs : List Int) (w : World) (hx : SliceI w B A xs.length xs) (_hB : B ≤ w.heap.size) (hn : xs.length ≤ 1048576) :
    Calls Try.prog 29 #[.int .i64 p, .slice A xs.length c, .int .i64 k0] w (GivesI w (addConstF p xs k0)) := by
  obtain ⟨i0, hi, hz0, hz1, hz2⟩ := info_parts int_info
  have HZ := Lib.hid (And.intro hz1 hz2)
  have HX := Lib.hid hx
  have HM := Lib.hid (show xs.length ≤ maxLen by unfold maxLen; omega)
  clear hz1 hz2 hx
  have HXc := HX.out
  rcases Nat.eq_zero_or_pos xs.length with h0 | hpos
  · obtain rfl : xs = [] := List.eq_nil_of_length_eq_zero h0
    clear h0
    go_enter Try.func29, Try.ntmps29
    go_wp2_with fail
    go_ret
    exact GivesI.nil _
  · have hne : ((xs.length : Int) == 0) = false := by rw [beq_eq_false_iff_ne]; omega
    cases h1 : isEl p k0
    · have hfin := Lib.hid (addConst_no1 (xs := xs) h1)
      cases h2 : allEl p xs
      · go_enter Try.func29, Try.ntmps29
        go_wp2_with (first | (go_at_call 35; (with_reducible refine (c_impl_IsElement _ _ _).mono ?_); rintro e w' ⟨rfl, rfl⟩) | (go_at_call 37; (with_reducible refine (c_impl_areElements _ _ _ _ _ _ _ HXc HM.out).mono ?_); rintro e w' ⟨rfl, rfl⟩))
        go_ret
        exact hfin.out ▸ GivesI.nil _
      · go_enter Try.func29, Try.ntmps29
        go_wp2_with (first | (go_at_call 35; (with_reducible refine (c_impl_IsElement _ _ _).mono ?_); rintro e w' ⟨rfl, rfl⟩) | (go_at_call 37; (with_reducible refine (c_impl_areElements _ _ _ _ _ _ _ HXc HM.out).mono ?_); rintro e w' ⟨rfl, rfl⟩))
        go_ret
        exact hfin.out ▸ GivesI.nil _
    cases h2 : allEl p xs
    · have hfin := Lib.hid (addConst_no2 (k := k0) h2)
      go_enter Try.func29, Try.ntmps29
      go_wp2_with (first | (go_at_call 35; (with_reducible refine (c_impl_IsElement _ _ _).mono ?_); rintro e w' ⟨rfl, rfl⟩) | (go_at_call 37; (with_reducible refine (c_impl_areElements _ _ _ _ _ _ _ HXc HM.out).mono ?_); rintro e w' ⟨rfl, rfl⟩))
      go_ret
      exact hfin.out ▸ GivesI.nil _
    have hfin := Lib.hid (addConst_yes hpos h1 h2)
    go_enter Try.func29, Try.ntmps29
    go_wp2_with (first | (go_at_call 35; (with_reducible refine (c_impl_IsElement _ _ _).mono ?_); rintro e w' ⟨rfl, rfl⟩) | (go_at_call 37; (with_reducible refine (c_impl_areElements _ _ _ _ _ _ _ HXc HM.out).mono ?_); rintro e w' ⟨rfl, rfl⟩))
    refine (c_impl_ints _ _ _ _ _ HX.out hpos hn).mono ?_
    rintro e w1 ⟨A1, c1, rfl, own1, hb1⟩
    obtain ⟨g1, rfl, hlo, _⟩ := own1.form hpos
    have hcell := (World.ownsRow.cellAt own1 0 (by omega)).trans (vals_get hpos)
    have hfree := World.ownsRow.frozenAt own1 0
    have O1 := Lib.hid own1
    generalize hx0 : xs.getD 0 0 = x0 at hcell
    have X0 := Lib.hid hx0
    clear own1 hx0
    go_wp2_with fail
    refine (c_impl_FAdd _ _ _ _).mono ?_
    rintro e w2 ⟨rfl, hb2⟩
    have own2 := O1.out.below hb2
    have hcell2 := (World.ownsRow.cellAt own2 0 (by omega)).trans (vals_get hpos)
    have hfree2 := World.ownsRow.frozenAt own2 0
    have O2 := Lib.hid own2
    have hbel := below_next hb1 hb2
    generalize xs.getD 0 0 = x1 at hcell2
    clear own2 O1 hcell hfree hb1 hb2
    go_wp2_with fail
    go_ret
    have h := (World.ownsRow.stored O2.out 0 (.int .i64 (fadd p x0 k0))).1
    have e : xs.set 0 (fadd p x0 k0) = addConstF p xs k0 := by rw [hfin.out, X0.out]
    rw [vals_set, e] at h
    exact GivesI.of h (hbel.setCell hlo _)
def addF (p : Int) (xs ys : List Int) : List Int := if xs.length = ys.length ∧ allEl p xs = true ∧ allEl p ys = true then List.zipWith (fadd p) xs ys else []
theorem addF_no {p : Int} {xs ys : List Int} (h : ¬ (xs.length = ys.length ∧ allEl p xs = true ∧ allEl p ys = true)) : addF p xs ys = [] := if_neg h
theorem addF_yes {p : Int} {xs ys : List Int} (h : xs.length = ys.length ∧ allEl p xs = true ∧ allEl p ys = true) : addF p xs ys = List.zipWith (fadd p) xs ys := if_pos h
theorem zip_take {f : Int → Int → Int} {xs ys : List Int} {k : Nat} (hk : k < xs.length) (hy : k < ys.length) : vals ((List.zipWith f xs ys).take k) ++ [.int .i64 (f (xs.getD k 0) (ys.getD k 0))] = vals ((List.zipWith f xs ys).take (k + 1)) := by
  rw [List.take_succ_eq_append_getElem (by simp; omega)]
  simp [vals, hk, hy]
theorem addF_len {p : Int} {xs ys : List Int} (h : xs.length ≤ 1048576) : (addF p xs ys).length ≤ 1048576 := by
  unfold addF; split
  · simp; omega
  · simp

set_option maxHeartbeats 2000000 in
theorem c_impl_AddShares (p : Int) (A A' : Option Addr) (c c' B B' : Nat) (xs ys : List Int) (w : World) (hx : SliceI w B A xs.length xs) (hy : SliceI w B' A' ys.length ys) (hB : B ≤ w.heap.size) (hB' : B' ≤ w.heap.size) (hn : xs.length ≤ 1048576) (hn' : ys.length ≤ 1048576) :
    Calls Try.prog 27 #[.int .i64 p, .slice A xs.length c, .slice A' ys.length c'] w (GivesI w (addF p xs ys)) := by
  obtain ⟨i0, hi, hz0, hz1, hz2⟩ := info_parts int_info
  have HZ := Lib.hid (And.intro hz1 hz2)
  have HX := Lib.hid hx
  have HY := Lib.hid hy
  have HM := Lib.hid (show xs.length ≤ maxLen by unfold maxLen; omega)
  have HN := Lib.hid (show ys.length ≤ maxLen by unfold maxLen; omega)
  clear hz1 hz2 hx hy
  have HXc := HX.out
  have HYc := HY.out
  by_cases hne : xs.length = ys.length
  case neg =>
    have hfin := Lib.hid (addF_no (p := p) (fun h => hne h.1))
    have hd : ((xs.length : Int) != (ys.length : Int)) = true := by rw [bne_iff_ne]; omega
    go_enter Try.func27, Try.ntmps27
    go_wp2_with fail
    go_ret
    exact hfin.out ▸ GivesI.nil _
  have hd : ((xs.length : Int) != (ys.length : Int)) = false := by rw [bne_eq_false_iff_eq]; omega
  have HNE := Lib.hid hne
  clear hne
  cases h1 : allEl p xs
  · have hfin := Lib.hid (addF_no (p := p) (xs := xs) (ys := ys) (fun h => by rw [h1] at h; exact absurd h.2.1 (by decide)))
    go_enter Try.func27, Try.ntmps27
    go_wp2_with fail
    refine (c_impl_areElements _ _ _ _ _ _ _ HXc HM.out).mono ?_
    rintro e w' ⟨rfl, rfl⟩
    go_wp2_with fail
    go_ret
    exact hfin.out ▸ GivesI.nil _
  cases h2 : allEl p ys
  · have hfin := Lib.hid (addF_no (p := p) (xs := xs) (ys := ys) (fun h => by rw [h2] at h; exact absurd h.2.2 (by decide)))
    go_enter Try.func27, Try.ntmps27
    go_wp2_with fail
    refine (c_impl_areElements _ _ _ _ _ _ _ HXc HM.out).mono ?_
    rintro e w' ⟨rfl, rfl⟩
    go_wp2_with fail
    refine (c_impl_areElements _ _ _ _ _ _ _ HYc HN.out).mono ?_
    rintro e w' ⟨rfl, rfl⟩
    go_wp2_with fail
    go_ret
    exact hfin.out ▸ GivesI.nil _
  have hfin := Lib.hid (addF_yes (p := p) (xs := xs) (ys := ys) ⟨HNE.out, h1, h2⟩)
  go_enter Try.func27, Try.ntmps27
  go_wp2_with fail
  refine (c_impl_areElements _ _ _ _ _ _ _ HXc HM.out).mono ?_
  rintro e w' ⟨rfl, rfl⟩
  go_wp2_with fail
  refine (c_impl_areElements _ _ _ _ _ _ _ HYc HN.out).mono ?_
  rintro e w' ⟨rfl, rfl⟩
  go_wp2_with fail
  go_loopw [7, 8, 29] (fun v _ i wr => ∃ k : Nat, k ≤ xs.length ∧ i = .int .i64 k ∧ wr.ownsRow w.heap.size 3 1 v k (vals ((List.zipWith (fadd p) xs ys).take k)) ∧ Below w.heap.size w wr) (fun _ _ i _ => xs.length - (intOf i).toNat)
  case atStart => exact ⟨0, by omega, rfl, World.ownsRow_lit w #[] 0 (Nat.le_refl _) (by simp [maxLen]) rfl, (Below.refl _ _).alloc (Nat.le_refl _) _⟩
  case round =>
    obtain ⟨k, hk, rfl, hown, hbel⟩ := hrel
    have HOWN := Lib.hid hown
    clear hown
    by_cases hlt : k < xs.length
    · have hlt2 : k < ys.length := by rw [← HNE.out]; exact hlt
      obtain ⟨b, off, rfl, hbB, hc⟩ := (HX.out.below_le hbel hB).at_ hlt
      obtain ⟨b', off', rfl, hbB', hc'⟩ := (HY.out.below_le hbel hB').at_ hlt2
      have hst := Lib.hid (zip_take (f := fadd p) (xs := xs) (ys := ys) hlt hlt2)
      generalize xs.getD k 0 = x at hc hst
      generalize ys.getD k 0 = y at hc' hst
      have hi1 : (k : Int) < (xs.length : Int) := by omega
      have hi2 : (k : Int) < (ys.length : Int) := by omega
      clear HXc HYc
      go_wp2_with fail
      go_region_law (first | (go_simp; go_at_call 49; (with_reducible refine (c_impl_FAdd _ _ _ _).mono ?_); rintro e w1 ⟨rfl, hb1⟩; have HOWN1 := Lib.hid (OwnV.below (World.ownsRow.drew HOWN.out) hb1); clear HOWN; have HOWN := HOWN1; clear HOWN1; replace hbel := below_next hbel.drew hb1; clear hb1) | (refine step_append_lies _ rfl (.tmp 32) (.tmp 43) 24 rfl w.heap.size 3 i0 (.int .i64 0) 1 8 Try.underlying24 hi hz0 HZ.out.1 HZ.out.2 rfl (by decide) _ k _ rfl (HOWN.out.alloc _) ⟨_, 0, none⟩ 1 1 [.int .i64 (fadd p x y)] rfl rfl (cell_one_new _ _ _) (by simp [Value.oneCell']) (by omega) (by unfold maxLen; omega) (by omega) (by have := hbel.size; simp; omega) _ rfl ?_; intro g2 cap2 w2 hown2 hgrow2 _ _))
      all_goals
        have hb3 := below_app hbel HOWN.out hgrow2
        go_wp2_with fail
        go_roundw
        case rel => exact ⟨k + 1, by omega, by go_num, by rw [← hst.out]; exact hown2, hb3⟩
        case measure => simp [intOf]; omega
    · obtain rfl : k = xs.length := by omega
      go_wp2_with fail
      go_ret
      have h := HOWN.out
      rw [List.take_of_length_le (by rw [List.length_zipWith]; omega), ← hfin.out] at h
      exact GivesI.of h hbel
set_option maxHeartbeats 2000000 in
theorem c_spec_AddShares (p : Int) (A A' : Option Addr) (c c' B B' : Nat) (xs ys : List Int) (w : World) (hx : SliceI w B A xs.length xs) (hy : SliceI w B' A' ys.length ys) (hB : B ≤ w.heap.size) (hB' : B' ≤ w.heap.size) (hn : xs.length ≤ 1048576) (hn' : ys.length ≤ 1048576) :
    Calls Try.prog 32 #[.int .i64 p, .slice A xs.length c, .slice A' ys.length c'] w (GivesI w (addF p xs ys)) := by
  obtain ⟨i0, hi, hz0, hz1, hz2⟩ := info_parts int_info
  have HZ := Lib.hid (And.intro hz1 hz2)
  have HX := Lib.hid hx
  have HY := Lib.hid hy
  have HM := Lib.hid (show xs.length ≤ maxLen by unfold maxLen; omega)
  have HN := Lib.hid (show ys.length ≤ maxLen by unfold maxLen; omega)
  clear hz1 hz2 hx hy
  have HXc := HX.out
  have HYc := HY.out
  have HXa := SliceI.alloc0 (o := .cells #[] 3) HXc
  have HYa := SliceI.alloc0 (o := .cells #[] 3) HYc
  by_cases hne : xs.length = ys.length
  case neg =>
    have hfin := Lib.hid (addF_no (p := p) (fun h => hne h.1))
    have hd : ((xs.length : Int) != (ys.length : Int)) = true := by rw [bne_iff_ne]; omega
    go_enter Try.func32, Try.ntmps32
    go_wp2_with fail
    go_ret
    exact hfin.out ▸ GivesI.lit0 _
  have hd : ((xs.length : Int) != (ys.length : Int)) = false := by rw [bne_eq_false_iff_eq]; omega
  have HNE := Lib.hid hne
  clear hne
  cases h1 : allEl p xs
  · have hfin := Lib.hid (addF_no (p := p) (xs := xs) (ys := ys) (fun h => by rw [h1] at h; exact absurd h.2.1 (by decide)))
    go_enter Try.func32, Try.ntmps32
    go_wp2_with fail
    refine (c_spec_l03All _ _ _ _ _ _ _ HXa HM.out).mono ?_
    rintro e w' ⟨rfl, rfl⟩
    go_wp2_with fail
    go_ret
    exact hfin.out ▸ GivesI.lit0 _
  cases h2 : allEl p ys
  · have hfin := Lib.hid (addF_no (p := p) (xs := xs) (ys := ys) (fun h => by rw [h2] at h; exact absurd h.2.2 (by decide)))
    go_enter Try.func32, Try.ntmps32
    go_wp2_with fail
    refine (c_spec_l03All _ _ _ _ _ _ _ HXa HM.out).mono ?_
    rintro e w' ⟨rfl, rfl⟩
    go_wp2_with fail
    refine (c_spec_l03All _ _ _ _ _ _ _ HYa HN.out).mono ?_
    rintro e w' ⟨rfl, rfl⟩
    go_wp2_with fail
    go_ret
    exact hfin.out ▸ GivesI.lit0 _
  have hfin := Lib.hid (addF_yes (p := p) (xs := xs) (ys := ys) ⟨HNE.out, h1, h2⟩)
  go_enter Try.func32, Try.ntmps32
  go_wp2_with fail
  refine (c_spec_l03All _ _ _ _ _ _ _ HXa HM.out).mono ?_
  rintro e w' ⟨rfl, rfl⟩
  go_wp2_with fail
  refine (c_spec_l03All _ _ _ _ _ _ _ HYa HN.out).mono ?_
  rintro e w' ⟨rfl, rfl⟩
  go_wp2_with fail
  go_loopw [7, 8] (fun v i wr => ∃ k : Nat, k ≤ xs.length ∧ i = .int .i64 k ∧ wr.ownsRow w.heap.size 3 1 v k (vals ((List.zipWith (fadd p) xs ys).take k)) ∧ Below w.heap.size w wr) (fun _ i _ => xs.length - (intOf i).toNat)
  case atStart => exact ⟨0, by omega, rfl, World.ownsRow_lit w #[] 0 (Nat.le_refl _) (by simp [maxLen]) rfl, (Below.refl _ _).alloc (Nat.le_refl _) _⟩
  case round =>
    obtain ⟨k, hk, rfl, hown, hbel⟩ := hrel
    have HOWN := Lib.hid hown
    clear hown
    by_cases hlt : k < xs.length
    · have hlt2 : k < ys.length := by rw [← HNE.out]; exact hlt
      obtain ⟨b, off, rfl, hbB, hc⟩ := (HX.out.below_le hbel hB).at_ hlt
      obtain ⟨b', off', rfl, hbB', hc'⟩ := (HY.out.below_le hbel hB').at_ hlt2
      have hst := Lib.hid (zip_take (f := fadd p) (xs := xs) (ys := ys) hlt hlt2)
      generalize xs.getD k 0 = x at hc hst
      generalize ys.getD k 0 = y at hc' hst
      have hi1 : (k : Int) < (xs.length : Int) := by omega
      have hi2 : (k : Int) < (ys.length : Int) := by omega
      clear HXc HYc HXa HYa
      go_wp2_with fail
      go_region_law (first | (go_simp; go_at_call 52; (with_reducible refine (c_spec_FAdd _ _ _ _).mono ?_); rintro e w1 ⟨rfl, rfl⟩) | (refine step_append_lies _ rfl (.tmp 34) (.tmp 45) 24 rfl w.heap.size 3 i0 (.int .i64 0) 1 8 Try.underlying24 hi hz0 HZ.out.1 HZ.out.2 rfl (by decide) _ k _ rfl (HOWN.out.alloc _) ⟨_, 0, none⟩ 1 1 [.int .i64 (fadd p x y)] rfl rfl (cell_one_new _ _ _) (by simp [Value.oneCell']) (by omega) (by unfold maxLen; omega) (by omega) (by have := hbel.size; simp; omega) _ rfl ?_; intro g2 cap2 w2 hown2 hgrow2 _ _))
      all_goals
        have hb3 := below_app (wr := wr.drew) (o := .cells #[.int .i64 (fadd p x y)] 3) hbel.drew (World.ownsRow.drew HOWN.out) hgrow2
        go_wp2_with fail
        go_roundw
        case rel => exact ⟨k + 1, by omega, by go_num, by rw [← hst.out]; exact hown2, hb3⟩
        case measure => simp [intOf]; omega
    · obtain rfl : k = xs.length := by omega
      go_wp2_with fail
      go_ret
      have h := HOWN.out
      rw [List.take_of_length_le (by rw [List.length_zipWith]; omega), ← hfin.out] at h
      exact GivesI.of h hbel
theorem scale_len {p k : Int} {xs : List Int} (h : xs.length ≤ 1048576) : (scaleF p xs k).length ≤ 1048576 := by
  unfold scaleF; split
  · simpa using h
  · simp
theorem addConst_len {p k : Int} {xs : List Int} (h : xs.length ≤ 1048576) : (addConstF p xs k).length ≤ 1048576 := by
  unfold addConstF; split
  · simpa using h
  · simp

end Go.Proofs.Ytknepofclgjmiaa
