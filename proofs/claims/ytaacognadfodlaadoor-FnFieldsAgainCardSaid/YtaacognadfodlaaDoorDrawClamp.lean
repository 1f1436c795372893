/- The walk of the reference's draw of three numbers for Clamp. -/
import Derived.Test.YtaacognadfodlaaDoorDrawMore
namespace Go.Proofs.YtaacognadfodlaaDoor
open Go.RowKit

set_option maxHeartbeats 1000000 in
theorem c_spec_l01Once (g : Nat) (n : Int) (w : World) (hc : CurAt w g) (h0 : 0 < n) (h1 : n ≤ 2147483648) :
    Calls Tryd.prog 36 #[.pointer (some ⟨g, 0, none⟩), .int .i64 n] w fun e w' => ∃ b : Bool, e = .returned (.bool b) ∧ CurAt w' g ∧ w.grownBy w' (some g) := by
  go_enter Tryd.func36, Tryd.ntmps36
  go_wp2_with fail
  refine (c_spec_l01Below _ _ _ hc h0 h1).mono ?_
  rintro e w1 ⟨y, ⟨y0, y1⟩, rfl, hc1, hg1⟩
  have HC := Lib.hid hc1
  have HG := Lib.hid hg1
  clear hc hc1 hg1
  go_wp2_with fail
  go_ret
  exact ⟨_, rfl, HC.out, HG.out⟩
set_option maxHeartbeats 2000000 in
theorem c_spec_l01Number (g : Nat) (w : World) (hc : CurAt w g) :
    Calls Tryd.prog 38 #[.pointer (some ⟨g, 0, none⟩)] w (GivesCur w g (fun _ => True)) := by
  go_enter Tryd.func38, Tryd.ntmps38
  go_wp2_with fail
  refine (c_spec_l01Below _ _ _ hc (by omega) (by omega)).mono ?_
  rintro e w1 ⟨y, ⟨y0, y1⟩, rfl, hc1, hg1⟩
  have HG1 := Lib.hid hg1
  have HC1 := Lib.hid hc1
  have hlt := hc1.lt
  clear hc hc1 hg1
  by_cases e0 : y = 0
  · subst e0
    go_wp2_with fail
    refine (c_spec_l01PickInt g w1.heap.size [-1, 0, 127, 128, 16383, 16384, 1000000000, 1000000001, 9223372036854775807, -9223372036854775808] _ (HC1.out.alloc _) (Box.new w1 _ _) (by omega) (by simp) (by simp)).mono ?_
    rintro e w2 ⟨v, _, rfl, hc2, hg2⟩
    have HC := Lib.hid hc2
    have HG := Lib.hid (HG1.out.trans ((grown_alloc _ _).trans hg2))
    clear hc2 hg2
    go_wp2_with fail
    go_ret
    exact ⟨v, trivial, rfl, HC.out, HG.out⟩
  · have n0 : (y == 0) = false := by simpa using e0
    by_cases e1 : y = 1
    · subst e1
      go_wp2_with fail
      refine (c_spec_l01Below _ _ _ HC1.out (by omega) (by omega)).mono ?_
      rintro e w2 ⟨v, _, rfl, hc2, hg2⟩
      have HC := Lib.hid hc2
      have HG := Lib.hid (HG1.out.trans hg2)
      clear hc2 hg2
      go_wp2_with fail
      go_ret
      exact ⟨v, trivial, rfl, HC.out, HG.out⟩
    · have n1 : (y == 1) = false := by simpa using e1
      go_wp2_with fail
      refine (c_spec_l01Below _ _ _ HC1.out (by omega) (by omega)).mono ?_
      rintro e w2 ⟨v, _, rfl, hc2, hg2⟩
      have HC := Lib.hid hc2
      have HG := Lib.hid (HG1.out.trans hg2)
      clear hc2 hg2
      go_wp2_with fail
      go_ret
      exact ⟨v, trivial, rfl, HC.out, HG.out⟩
end Go.Proofs.YtaacognadfodlaaDoor
