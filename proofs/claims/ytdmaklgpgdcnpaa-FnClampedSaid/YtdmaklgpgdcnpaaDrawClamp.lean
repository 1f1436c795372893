/- The walk of the reference's draw of three numbers for Clamp. -/
import Derived.Test.YtdmaklgpgdcnpaaDrawMore
namespace Go.Proofs.Ytdmaklgpgdcnpaa
open Go.RowKit

set_option maxHeartbeats 1000000 in
theorem c_spec_l01Once (g : Nat) (n : Int) (w : World) (hc : CurAt w g) (h0 : 0 < n) (h1 : n ≤ 2147483648) :
    Calls Try.prog 61 #[.pointer (some ⟨g, 0, none⟩), .int .i64 n] w fun e w' => ∃ b : Bool, e = .returned (.bool b) ∧ CurAt w' g ∧ w.grownBy w' (some g) := by
  go_enter Try.func61, Try.ntmps61
  go_wp2_with fail
  refine (c_spec_l01Below _ _ _ hc h0 h1).mono ?_
  rintro e w1 ⟨y, ⟨y0, y1⟩, rfl, hc1, hg1⟩
  have HC := Lib.hid hc1
  have HG := Lib.hid hg1
  clear hc hc1 hg1
  go_wp2_with fail
  go_ret
  exact ⟨_, rfl, HC.out, HG.out⟩
set_option maxHeartbeats 2000000 in
theorem c_spec_l01Number (g : Nat) (w : World) (hc : CurAt w g) :
    Calls Try.prog 62 #[.pointer (some ⟨g, 0, none⟩)] w (GivesCur w g (fun _ => True)) := by
  go_enter Try.func62, Try.ntmps62
  go_wp2_with fail
  refine (c_spec_l01Below _ _ _ hc (by omega) (by omega)).mono ?_
  rintro e w1 ⟨y, ⟨y0, y1⟩, rfl, hc1, hg1⟩
  have HG1 := Lib.hid hg1
  have HC1 := Lib.hid hc1
  have hlt := hc1.lt
  clear hc hc1 hg1
  by_cases e0 : y = 0
  · subst e0
    go_wp2_with fail
    refine (c_spec_l01PickInt g w1.heap.size [-1, 0, 127, 128, 16383, 16384, 1000000000, 1000000001, 9223372036854775807, -9223372036854775808] _ (HC1.out.alloc _) (Box.new w1 _ _) (by omega) (by simp) (by simp)).mono ?_
    rintro e w2 ⟨v, _, rfl, hc2, hg2⟩
    have HC := Lib.hid hc2
    have HG := Lib.hid (HG1.out.trans ((grown_alloc _ _).trans hg2))
    clear hc2 hg2
    go_wp2_with fail
    go_ret
    exact ⟨v, trivial, rfl, HC.out, HG.out⟩
  · have n0 : (y == 0) = false := by simpa using e0
    by_cases e1 : y = 1
    · subst e1
      go_wp2_with fail
      refine (c_spec_l01Below _ _ _ HC1.out (by omega) (by omega)).mono ?_
      rintro e w2 ⟨v, _, rfl, hc2, hg2⟩
      have HC := Lib.hid hc2
      have HG := Lib.hid (HG1.out.trans hg2)
      clear hc2 hg2
      go_wp2_with fail
      go_ret
      exact ⟨v, trivial, rfl, HC.out, HG.out⟩
    · have n1 : (y == 1) = false := by simpa using e1
      go_wp2_with fail
      refine (c_spec_l01Below _ _ _ HC1.out (by omega) (by omega)).mono ?_
      rintro e w2 ⟨v, _, rfl, hc2, hg2⟩
      have HC := Lib.hid hc2
      have HG := Lib.hid (HG1.out.trans hg2)
      clear hc2 hg2
      go_wp2_with fail
      go_ret
      exact ⟨v, trivial, rfl, HC.out, HG.out⟩
set_option maxHeartbeats 2000000 in
theorem c_spec_DrawClamp (A : Option Addr) (n c B : Nat) (w : World) (hs : SliceU w B A n) (hB : B ≤ w.heap.size) (hn : n ≤ 2097152) :
    Calls Try.prog 31 #[.slice A n c] w fun e w' => ∃ x y z : Int, e = .returned (.tuple #[.int .i64 x, .int .i64 y, .int .i64 z]) ∧ Below w.heap.size w w' := by
  go_enter Try.func31, Try.ntmps31
  go_wp2_with fail
  refine (c_spec_l01New _ _ _ _ _ hs hB hn).mono ?_
  rintro e w1 ⟨rfl, hc, hb⟩
  clear hs
  go_wp2_with fail
  refine (c_spec_l01Once _ _ _ hc (by omega) (by omega)).mono ?_
  rintro e w2 ⟨once, rfl, hc2, hg2⟩
  replace hb := below_cur hb hg2
  clear hc hg2
  cases once
  · go_wp2_with fail
    refine (c_spec_l01Below _ _ _ hc2 (by omega) (by omega)).mono ?_
    rintro e w3 ⟨x, ⟨x0, x1⟩, rfl, hc3, hg3⟩
    replace hb := below_cur hb hg3
    clear hc2 hg3
    go_wp2_with fail
    refine (c_spec_l01Below _ _ _ hc3 (by omega) (by omega)).mono ?_
    rintro e w4 ⟨y, ⟨y0, y1⟩, rfl, hc4, hg4⟩
    replace hb := below_cur hb hg4
    clear hc3 hg4
    go_wp2_with fail
    refine (c_spec_l01Below _ _ _ hc4 (by omega) (by omega)).mono ?_
    rintro e w5 ⟨z, ⟨z0, z1⟩, rfl, hc5, hg5⟩
    have HB := Lib.hid (below_cur hb hg5)
    clear hc4 hg5 hc5 hb
    go_wp2_with fail
    refine bodyPost_ret (v := .tuple #[.int .i64 (y - 40), .int .i64 (x - 20), .int .i64 (x - 20 + z - 3)]) (by simp [results, Try.results31, go_sem]) rfl ⟨_, _, _, rfl, HB.out⟩
  · go_wp2_with fail
    refine (c_spec_l01Number _ _ hc2).mono ?_
    rintro e w3 ⟨x, _, rfl, hc3, hg3⟩
    replace hb := below_cur hb hg3
    clear hc2 hg3
    go_wp2_with fail
    refine (c_spec_l01Number _ _ hc3).mono ?_
    rintro e w4 ⟨y, _, rfl, hc4, hg4⟩
    replace hb := below_cur hb hg4
    clear hc3 hg4
    go_wp2_with fail
    refine (c_spec_l01Number _ _ hc4).mono ?_
    rintro e w5 ⟨z, _, rfl, hc5, hg5⟩
    have HB := Lib.hid (below_cur hb hg5)
    clear hc4 hg5 hc5 hb
    go_wp2_with fail
    refine bodyPost_ret (v := .tuple #[.int .i64 x, .int .i64 y, .int .i64 z]) (by simp [results, Try.results31, go_sem]) rfl ⟨_, _, _, rfl, HB.out⟩
end Go.Proofs.Ytdmaklgpgdcnpaa
