/- The walk of the reference's draw of a number for FormatInt: it is an int's. -/
import Derived.Test.YtaacognadfodlaaDoorDrawClamp
namespace Go.Proofs.YtaacognadfodlaaDoor
open Go.RowKit

def InI (v : Int) : Prop := -9223372036854775808 ≤ v ∧ v ≤ 9223372036854775807
set_option maxHeartbeats 2000000 in
theorem c_spec_l01NumberI (g : Nat) (w : World) (hc : CurAt w g) :
    Calls Tryd.prog 38 #[.pointer (some ⟨g, 0, none⟩)] w (GivesCur w g InI) := by
  go_enter Tryd.func38, Tryd.ntmps38
  go_wp2_with fail
  refine (c_spec_l01Below _ _ _ hc (by omega) (by omega)).mono ?_
  rintro e w1 ⟨y, ⟨y0, y1⟩, rfl, hc1, hg1⟩
  have HG1 := Lib.hid hg1
  have HC1 := Lib.hid hc1
  have hlt := hc1.lt
  clear hc hc1 hg1
  by_cases e0 : y = 0
  · subst e0
    go_wp2_with fail
    refine (c_spec_l01PickInt g w1.heap.size [-1, 0, 127, 128, 16383, 16384, 1000000000, 1000000001, 9223372036854775807, -9223372036854775808] _ (HC1.out.alloc _) (Box.new w1 _ _) (by omega) (by simp) (by simp)).mono ?_
    rintro e w2 ⟨v, hv, rfl, hc2, hg2⟩
    have HC := Lib.hid hc2
    have HG := Lib.hid (HG1.out.trans ((grown_alloc _ _).trans hg2))
    have HV : Hid (InI v) := by
      refine Lib.hid ?_
      simp only [List.mem_cons, List.not_mem_nil, or_false] at hv
      unfold InI
      omega
    clear hc2 hg2 hv
    go_wp2_with fail
    go_ret
    exact ⟨v, HV.out, rfl, HC.out, HG.out⟩
  · have n0 : (y == 0) = false := by simpa using e0
    by_cases e1 : y = 1
    · subst e1
      go_wp2_with fail
      refine (c_spec_l01Below _ _ _ HC1.out (by omega) (by omega)).mono ?_
      rintro e w2 ⟨v, ⟨v0, v1⟩, rfl, hc2, hg2⟩
      have HC := Lib.hid hc2
      have HG := Lib.hid (HG1.out.trans hg2)
      clear hc2 hg2
      go_wp2_with fail
      go_ret
      exact ⟨v, ⟨by omega, by omega⟩, rfl, HC.out, HG.out⟩
    · have n1 : (y == 1) = false := by simpa using e1
      go_wp2_with fail
      refine (c_spec_l01Below _ _ _ HC1.out (by omega) (by omega)).mono ?_
      rintro e w2 ⟨v, ⟨v0, v1⟩, rfl, hc2, hg2⟩
      have HC := Lib.hid hc2
      have HG := Lib.hid (HG1.out.trans hg2)
      clear hc2 hg2
      go_wp2_with fail
      go_ret
      exact ⟨v, ⟨by omega, by omega⟩, rfl, HC.out, HG.out⟩
theorem prod_in {x y : Int} (x0 : 0 ≤ x) (x1 : x < 1000000) (y0 : 0 ≤ y) (y1 : y < 2000000) : -1000000000000 ≤ x * (y - 1000000) ∧ x * (y - 1000000) ≤ 1000000000000 := by
  have h1 := Int.mul_le_mul_of_nonneg_left (show y - 1000000 ≤ 1000000 by omega) x0
  have h2 := Int.mul_le_mul_of_nonneg_left (show -1000000 ≤ y - 1000000 by omega) x0
  omega
set_option maxHeartbeats 2000000 in
theorem c_spec_DrawFormatInt (A : Option Addr) (n c B : Nat) (w : World) (hs : SliceU w B A n) (hB : B ≤ w.heap.size) (hn : n ≤ 2097152) :
    Calls Tryd.prog 22 #[.slice A n c] w fun e w' => ∃ v : Int, InI v ∧ e = .returned (.int .i64 v) ∧ Below w.heap.size w w' := by
  go_enter Tryd.func22, Tryd.ntmps22
  go_wp2_with fail
  refine (c_spec_l01New _ _ _ _ _ hs hB hn).mono ?_
  rintro e w1 ⟨rfl, hc, hb⟩
  clear hs
  go_wp2_with fail
  refine (c_spec_l01Once _ _ _ hc (by omega) (by omega)).mono ?_
  rintro e w2 ⟨once, rfl, hc2, hg2⟩
  replace hb := below_cur hb hg2
  clear hc hg2
  cases once
  · go_wp2_with fail
    refine (c_spec_l01NumberI _ _ hc2).mono ?_
    rintro e w3 ⟨x, hx, rfl, hc3, hg3⟩
    have HB := Lib.hid (below_cur hb hg3)
    have HX := Lib.hid hx
    clear hc2 hg3 hc3 hb hx
    go_wp2_with fail
    go_ret
    exact ⟨x, HX.out, rfl, HB.out⟩
  · go_wp2_with fail
    refine (c_spec_l01Below _ _ _ hc2 (by omega) (by omega)).mono ?_
    rintro e w3 ⟨x, ⟨x0, x1⟩, rfl, hc3, hg3⟩
    replace hb := below_cur hb hg3
    clear hc2 hg3
    go_wp2_with fail
    refine (c_spec_l01Below _ _ _ hc3 (by omega) (by omega)).mono ?_
    rintro e w4 ⟨y, ⟨y0, y1⟩, rfl, hc4, hg4⟩
    have HB := Lib.hid (below_cur hb hg4)
    clear hc3 hg4 hc4 hb
    have hp := prod_in x0 x1 y0 y1
    have hw1 : IntKind.i64.wrap (y - 1000000) = y - 1000000 := IntWalk.i64_in _ (by omega)
    have hw2 : IntKind.i64.wrap (x * (y - 1000000)) = x * (y - 1000000) := IntWalk.i64_in _ (by omega)
    have HP := Lib.hid hp
    clear hp
    go_wp2_with fail
    go_ret
    exact ⟨x * (y - 1000000), by have := HP.out; unfold InI; omega, rfl, HB.out⟩
end Go.Proofs.YtaacognadfodlaaDoor
