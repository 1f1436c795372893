/- The statement FnExactTossNew: the program's function and the reference's return the same at all arguments, and the program leaves its arguments alone. It has no conditions. -/
import Derived.Test.YtdmaklgpgdcnpaaRows
import Derived.WalkKit
import Derived.ProofKit
import Derived.OpenShut
import Derived.ChangeOld
import Derived.Below
import Derived.Lib.SmallJoins
import Derived.Test.YtdmaklgpgdcnpaaMem
import Derived.Test.YtdmaklgpgdcnpaaList
import Derived.Test.YtdmaklgpgdcnpaaShape
import Derived.Test.YtdmaklgpgdcnpaaTossCheat
import Derived.Test.YtdmaklgpgdcnpaaTossNew
import Derived.Test.YtdmaklgpgdcnpaaTossNewRef
import Derived.Test.YtdmaklgpgdcnpaaTossMark
namespace Go.Proofs.Ytdmaklgpgdcnpaa.lawFnExactTossNew
open Go.ChangeShapes Go.WideShapes Go.ChangeAt Go.RowKit Go.Joins
set_option linter.unusedVariables false

theorem own : ownKnob Try.prog.godebug = none := by kernel_rfl
theorem laidOut : laidOutB Try.prog = true := by kernel_rfl

theorem tossOk_five {vs ns : List Int} (h : tossNewOk vs ns = true) : vs.length ≤ 5 ∧ ns.length ≤ 5 := by
  simp only [tossNewOk, Bool.and_eq_true, decide_eq_true_eq, inB_iff] at h
  omega
theorem tossV_len (vs ns : List Int) : (tossV vs ns).length ≤ 5 := by
  unfold tossV; split
  · next h => exact (tossOk_five h).1
  · simp
theorem tossN_len (vs ns : List Int) : (tossN vs ns).length ≤ 5 := by
  unfold tossN; split
  · next h => exact (tossOk_five h).2
  · simp
theorem tossC_len (vs ns : List Int) : (tossC vs ns).length ≤ 5 := by
  unfold tossC; split
  · next h => rw [tossCs_len]; exact (tossOk_five h).1
  · simp
set_option maxHeartbeats 4000000 in
theorem walk (w : World) (Aa : Option Addr) (la ca : Nat) (za : List Int) (ha : IsRow .i64 w Aa la ca za) (Ab : Option Addr) (lb cb : Nat) (zb : List Int) (hb : IsRow .i64 w Ab lb cb zb) : Calls Try.prog 4 #[.slice Aa la ca, .slice Ab lb cb] w fun e w' => e = .returned (.bool true) ∧ Below w.heap.size w w' := by
  by_cases biga : 1048576 < (la : Int)
  · go_enter Try.func4, Try.ntmps4
    go_wp2_with fail
    go_ret
    exact ⟨rfl, Below.refl _ _⟩
  by_cases bigb : 1048576 < (lb : Int)
  · go_enter Try.func4, Try.ntmps4
    go_wp2_with fail
    go_ret
    exact ⟨rfl, Below.refl _ _⟩
  have sa := ha.slice
  have ma : la ≤ 1048576 := by omega
  clear ha
  generalize za.take la = xsa at sa
  obtain rfl : xsa.length = la := sa.len
  have sb := hb.slice
  have mb : lb ≤ 1048576 := by omega
  clear hb
  generalize zb.take lb = xsb at sb
  obtain rfl : xsb.length = lb := sb.len
  have bel : Below w.heap.size w w := Below.refl _ _
  go_enter Try.func4, Try.ntmps4
  have n0 : (tossV xsa xsb).length ≤ 5 := tossV_len xsa xsb
  have n1 : (tossN xsa xsb).length ≤ 5 := tossN_len xsa xsb
  have n2 : (tossC xsa xsb).length ≤ 5 := tossC_len xsa xsb
  go_wp2_with fail
  refine (c_laws_toIntS _ _ _ _ _ _ sa (by omega) ma).mono ?_
  rintro e w1 ⟨rfl, ta, hb⟩
  have q1 := hb.size
  replace bel := below_next bel hb
  replace sa := sa.below_le hb (by omega)
  replace sb := sb.below_le hb (by omega)
  clear hb
  have lt_ta := ta.lt
  have ge_ta := ta.ge
  go_wp2_with fail
  refine (c_laws_toIntS _ _ _ _ _ _ sb (by omega) mb).mono ?_
  rintro e w2 ⟨rfl, tb, hb⟩
  have q2 := hb.size
  replace bel := below_next bel hb
  replace sa := sa.below_le hb (by omega)
  replace sb := sb.below_le hb (by omega)
  replace ta := ta.below hb
  clear hb
  have lt_tb := tb.lt
  have ge_tb := tb.ge
  go_wp2_with fail
  refine (c_spec_TossNew _ _ _ _ _ _ _ _ ta.slice (tb.slice.more (Nat.le_refl _)) (Nat.le_refl _) ma mb).mono ?_
  rintro e w3 ⟨A_y0, c_y0, A_y1, c_y1, A_y2, c_y2, rfl, y0, y1, y2, apy01, apy02, apy12, hb⟩
  have q3 := hb.size
  replace bel := below_next bel hb
  replace sa := sa.below_le hb (by omega)
  replace sb := sb.below_le hb (by omega)
  replace ta := ta.below hb
  replace tb := tb.below hb
  clear hb
  have lt_y0 := y0.lt
  have ge_y0 := y0.ge
  have lt_y1 := y1.lt
  have ge_y1 := y1.ge
  have lt_y2 := y2.lt
  have ge_y2 := y2.ge
  clear ta lt_ta ge_ta
  clear tb lt_tb ge_tb
  go_wp2_with fail
  refine (c_laws_toIntS _ _ _ _ _ _ (SliceI.alloc0 sa) (by simp; omega) ma).mono ?_
  rintro e w4 ⟨rfl, xa, hb⟩
  have q4 := hb.size
  simp only [World.size_alloc] at q4
  have bel' := next1 bel hb
  clear bel
  obtain ⟨bel, pw⟩ := bel'
  replace sa := (SliceI.alloc0 sa).below_le hb (by simp; omega)
  replace sb := (SliceI.alloc0 sb).below_le hb (by simp; omega)
  replace y0 := OwnI.below (World.ownsRow.alloc y0 _) hb
  replace y1 := OwnI.below (World.ownsRow.alloc y1 _) hb
  replace y2 := OwnI.below (World.ownsRow.alloc y2 _) hb
  clear hb
  have lt_xa := xa.lt
  have ge_xa := xa.ge
  have c_pw := pw.cell
  have f_pw := pw.free
  have z_pw := pw.lt
  simp only [World.size_alloc] at xa lt_xa ge_xa ⊢
  go_wp2_with fail
  refine (c_laws_toIntS _ _ _ _ _ _ sb (by omega) mb).mono ?_
  rintro e w5 ⟨rfl, xb, hb⟩
  clear c_pw f_pw z_pw
  have q5 := hb.size
  replace bel := below_next bel hb
  replace sa := sa.below_le hb (by omega)
  replace sb := sb.below_le hb (by omega)
  replace y0 := y0.below hb
  replace y1 := y1.below hb
  replace y2 := y2.below hb
  replace pw := pw.below hb
  replace xa := xa.below hb
  clear hb
  have lt_xb := xb.lt
  have ge_xb := xb.ge
  have c_pw := pw.cell
  have f_pw := pw.free
  have z_pw := pw.lt
  go_wp2_with fail
  refine (c_impl_TossNew _ _ _ _ _ _ _ _ xa.slice xb.slice (Nat.le_refl _) ma mb).mono ?_
  rintro e w6 ⟨A_g0, c_g0, A_g1, c_g1, A_g2, c_g2, rfl, g0, g1, g2, apg01, apg02, apg12, hb⟩
  clear c_pw f_pw z_pw
  have q6 := hb.size
  replace bel := below_next bel hb
  replace sa := sa.below_le hb (by omega)
  replace sb := sb.below_le hb (by omega)
  replace y0 := y0.below hb
  replace y1 := y1.below hb
  replace y2 := y2.below hb
  replace pw := pw.below hb
  replace xa := xa.below hb
  replace xb := xb.below hb
  clear hb
  have lt_g0 := g0.lt
  have ge_g0 := g0.ge
  have lt_g1 := g1.lt
  have ge_g1 := g1.ge
  have lt_g2 := g2.lt
  have ge_g2 := g2.ge
  have c_pw := pw.cell
  have f_pw := pw.free
  have z_pw := pw.lt
  go_wp2_with fail
  refine (c_laws_eqToss _ _ _ _ _ _ _ _ _ _ _ _ _ _ _ _ _ (SliceI.alloc0 g0.slice) (SliceI.alloc0 g1.slice) (SliceI.alloc0 g2.slice) (SliceI.alloc0 y0.slice) (SliceI.alloc0 y1.slice) (SliceI.alloc0 y2.slice) (by simp) (by unfold maxLen; omega) (by unfold maxLen; omega) (by unfold maxLen; omega)).mono ?_
  rintro e w7 ⟨rfl, hb⟩
  clear c_pw f_pw z_pw
  have q7 := hb.size
  simp only [World.size_alloc] at q7
  have bel' := next1 bel hb
  clear bel
  obtain ⟨bel, pg⟩ := bel'
  replace sa := (SliceI.alloc0 sa).below_le hb (by simp; omega)
  replace sb := (SliceI.alloc0 sb).below_le hb (by simp; omega)
  replace y0 := OwnI.below (World.ownsRow.alloc y0 _) hb
  replace y1 := OwnI.below (World.ownsRow.alloc y1 _) hb
  replace y2 := OwnI.below (World.ownsRow.alloc y2 _) hb
  replace pw := (pw.alloc _).below hb
  replace xa := OwnI.below (World.ownsRow.alloc xa _) hb
  replace xb := OwnI.below (World.ownsRow.alloc xb _) hb
  replace g0 := OwnI.below (World.ownsRow.alloc g0 _) hb
  replace g1 := OwnI.below (World.ownsRow.alloc g1 _) hb
  replace g2 := OwnI.below (World.ownsRow.alloc g2 _) hb
  clear hb
  have c_pw := pw.cell
  have f_pw := pw.free
  have z_pw := pw.lt
  have c_pg := pg.cell
  have f_pg := pg.free
  have z_pg := pg.lt
  go_wp2_with fail
  refine (c_laws_toIntS _ _ _ _ _ _ sa (by omega) ma).mono ?_
  rintro e w8 ⟨rfl, ua, hb⟩
  clear c_pw f_pw z_pw
  clear c_pg f_pg z_pg
  have q8 := hb.size
  replace bel := below_next bel hb
  replace sa := sa.below_le hb (by omega)
  replace sb := sb.below_le hb (by omega)
  replace y0 := y0.below hb
  replace y1 := y1.below hb
  replace y2 := y2.below hb
  replace pw := pw.below hb
  replace xa := xa.below hb
  replace xb := xb.below hb
  replace g0 := g0.below hb
  replace g1 := g1.below hb
  replace g2 := g2.below hb
  replace pg := pg.below hb
  clear hb
  have lt_ua := ua.lt
  have ge_ua := ua.ge
  have c_pw := pw.cell
  have f_pw := pw.free
  have z_pw := pw.lt
  have c_pg := pg.cell
  have f_pg := pg.free
  have z_pg := pg.lt
  go_wp2_with fail
  refine (c_laws_eqIntS _ _ _ _ _ _ _ _ _ xa.slice ua.slice (Nat.le_refl _) (Nat.le_refl _) (by unfold maxLen; omega)).mono ?_
  rintro e w9 ⟨rfl, hb⟩
  clear c_pw f_pw z_pw
  clear c_pg f_pg z_pg
  have q9 := hb.size
  replace bel := below_next bel hb
  replace sa := sa.below_le hb (by omega)
  replace sb := sb.below_le hb (by omega)
  replace y0 := y0.below hb
  replace y1 := y1.below hb
  replace y2 := y2.below hb
  replace pw := pw.below hb
  replace xa := xa.below hb
  replace xb := xb.below hb
  replace g0 := g0.below hb
  replace g1 := g1.below hb
  replace g2 := g2.below hb
  replace pg := pg.below hb
  replace ua := ua.below hb
  clear hb
  have c_pw := pw.cell
  have f_pw := pw.free
  have z_pw := pw.lt
  have c_pg := pg.cell
  have f_pg := pg.free
  have z_pg := pg.lt
  clear ua lt_ua ge_ua
  go_wp2_with fail
  refine (c_laws_toIntS _ _ _ _ _ _ sb (by omega) mb).mono ?_
  rintro e w10 ⟨rfl, ub, hb⟩
  clear c_pw f_pw z_pw
  clear c_pg f_pg z_pg
  have q10 := hb.size
  replace bel := below_next bel hb
  replace sa := sa.below_le hb (by omega)
  replace sb := sb.below_le hb (by omega)
  replace y0 := y0.below hb
  replace y1 := y1.below hb
  replace y2 := y2.below hb
  replace pw := pw.below hb
  replace xa := xa.below hb
  replace xb := xb.below hb
  replace g0 := g0.below hb
  replace g1 := g1.below hb
  replace g2 := g2.below hb
  replace pg := pg.below hb
  clear hb
  have lt_ub := ub.lt
  have ge_ub := ub.ge
  have c_pw := pw.cell
  have f_pw := pw.free
  have z_pw := pw.lt
  have c_pg := pg.cell
  have f_pg := pg.free
  have z_pg := pg.lt
  go_wp2_with fail
  refine (c_laws_eqIntS _ _ _ _ _ _ _ _ _ xb.slice ub.slice (Nat.le_refl _) (Nat.le_refl _) (by unfold maxLen; omega)).mono ?_
  rintro e w11 ⟨rfl, hb⟩
  clear c_pw f_pw z_pw
  clear c_pg f_pg z_pg
  have q11 := hb.size
  replace bel := below_next bel hb
  replace sa := sa.below_le hb (by omega)
  replace sb := sb.below_le hb (by omega)
  replace y0 := y0.below hb
  replace y1 := y1.below hb
  replace y2 := y2.below hb
  replace pw := pw.below hb
  replace xa := xa.below hb
  replace xb := xb.below hb
  replace g0 := g0.below hb
  replace g1 := g1.below hb
  replace g2 := g2.below hb
  replace pg := pg.below hb
  replace ub := ub.below hb
  clear hb
  have c_pw := pw.cell
  have f_pw := pw.free
  have z_pw := pw.lt
  have c_pg := pg.cell
  have f_pg := pg.free
  have z_pg := pg.lt
  clear ub lt_ub ge_ub
  go_wp2_with fail
  refine (c_laws_markIntS _ _ _ _ _ _ _ xa (by omega) (by omega) (by omega)).mono ?_
  rintro e w12 ⟨rfl, new_xa, hg⟩
  clear c_pw f_pw z_pw
  clear c_pg f_pg z_pg
  have q12 := hg.size
  replace bel := below_marked bel hg (fun b hb => by have := ge_xa b hb; omega)
  replace sa := SliceI.marked sa hg (by omega) (fun b hb => by have := ge_xa b hb; omega)
  replace sb := SliceI.marked sb hg (by omega) (fun b hb => by have := ge_xa b hb; omega)
  replace y0 := OwnI.marked y0 hg (fun a b ha hb => by have := lt_y0 a ha; have := ge_xa b hb; omega)
  replace y1 := OwnI.marked y1 hg (fun a b ha hb => by have := lt_y1 a ha; have := ge_xa b hb; omega)
  replace y2 := OwnI.marked y2 hg (fun a b ha hb => by have := lt_y2 a ha; have := ge_xa b hb; omega)
  replace pw := Box.marked pw hg (fun b hb => by have := ge_xa b hb; omega)
  replace xb := OwnI.marked xb hg (fun a b ha hb => by have := ge_xb a ha; have := lt_xa b hb; omega)
  replace g0 := OwnI.marked g0 hg (fun a b ha hb => by have := ge_g0 a ha; have := lt_xa b hb; omega)
  replace g1 := OwnI.marked g1 hg (fun a b ha hb => by have := ge_g1 a ha; have := lt_xa b hb; omega)
  replace g2 := OwnI.marked g2 hg (fun a b ha hb => by have := ge_g2 a ha; have := lt_xa b hb; omega)
  replace pg := Box.marked pg hg (fun b hb => by have := lt_xa b hb; omega)
  clear hg xa
  have xa := new_xa
  clear new_xa
  have c_pw := pw.cell
  have f_pw := pw.free
  have z_pw := pw.lt
  have c_pg := pg.cell
  have f_pg := pg.free
  have z_pg := pg.lt
  go_wp2_with fail
  refine (c_laws_markIntS _ _ _ _ _ _ _ xb (by omega) (by omega) (by omega)).mono ?_
  rintro e w13 ⟨rfl, new_xb, hg⟩
  clear c_pw f_pw z_pw
  clear c_pg f_pg z_pg
  have q13 := hg.size
  replace bel := below_marked bel hg (fun b hb => by have := ge_xb b hb; omega)
  replace sa := SliceI.marked sa hg (by omega) (fun b hb => by have := ge_xb b hb; omega)
  replace sb := SliceI.marked sb hg (by omega) (fun b hb => by have := ge_xb b hb; omega)
  replace y0 := OwnI.marked y0 hg (fun a b ha hb => by have := lt_y0 a ha; have := ge_xb b hb; omega)
  replace y1 := OwnI.marked y1 hg (fun a b ha hb => by have := lt_y1 a ha; have := ge_xb b hb; omega)
  replace y2 := OwnI.marked y2 hg (fun a b ha hb => by have := lt_y2 a ha; have := ge_xb b hb; omega)
  replace pw := Box.marked pw hg (fun b hb => by have := ge_xb b hb; omega)
  replace xa := OwnI.marked xa hg (fun a b ha hb => by have := lt_xa a ha; have := ge_xb b hb; omega)
  replace g0 := OwnI.marked g0 hg (fun a b ha hb => by have := ge_g0 a ha; have := lt_xb b hb; omega)
  replace g1 := OwnI.marked g1 hg (fun a b ha hb => by have := ge_g1 a ha; have := lt_xb b hb; omega)
  replace g2 := OwnI.marked g2 hg (fun a b ha hb => by have := ge_g2 a ha; have := lt_xb b hb; omega)
  replace pg := Box.marked pg hg (fun b hb => by have := lt_xb b hb; omega)
  clear hg xb
  have xb := new_xb
  clear new_xb
  have c_pw := pw.cell
  have f_pw := pw.free
  have z_pw := pw.lt
  have c_pg := pg.cell
  have f_pg := pg.free
  have z_pg := pg.lt
  clear xa lt_xa ge_xa
  clear xb lt_xb ge_xb
  go_wp2_with fail
  refine (c_laws_eqToss _ _ _ _ _ _ _ _ _ _ _ _ _ _ _ _ _ g0.slice g1.slice g2.slice y0.slice y1.slice y2.slice (Nat.le_refl _) (by unfold maxLen; omega) (by unfold maxLen; omega) (by unfold maxLen; omega)).mono ?_
  rintro e w14 ⟨rfl, hb⟩
  clear c_pw f_pw z_pw
  clear c_pg f_pg z_pg
  have q14 := hb.size
  replace bel := below_next bel hb
  replace sa := sa.below_le hb (by omega)
  replace sb := sb.below_le hb (by omega)
  replace y0 := y0.below hb
  replace y1 := y1.below hb
  replace y2 := y2.below hb
  replace pw := pw.below hb
  replace g0 := g0.below hb
  replace g1 := g1.below hb
  replace g2 := g2.below hb
  replace pg := pg.below hb
  clear hb
  have c_pw := pw.cell
  have f_pw := pw.free
  have z_pw := pw.lt
  have c_pg := pg.cell
  have f_pg := pg.free
  have z_pg := pg.lt
  go_wp2_with fail
  refine (c_laws_markToss _ _ _ _ _ _ _ _ _ _ _ _ _ _ g0 g1 g2 apg01 apg02 apg12 (by omega) (by omega) (by omega) (by omega) (by omega)).mono ?_
  rintro e w15 ⟨rfl, new_g0, new_g1, new_g2, wa, wb, hg0, hg1, hg2⟩
  clear c_pw f_pw z_pw
  clear c_pg f_pg z_pg
  have q15 := hg2.size
  have qa := hg0.size
  have qb := hg1.size
  simp only [World.size_alloc] at qa
  replace bel := below_marked (below_marked (below_marked (bel.alloc bel.size _) hg0 (fun b hb => by have := ge_g0 b hb; omega)) hg1 (fun b hb => by have := ge_g1 b hb; omega)) hg2 (fun b hb => by have := ge_g2 b hb; omega)
  replace sa := SliceI.marked (SliceI.marked (SliceI.marked (SliceI.alloc0 sa) hg0 (by simp; omega) (fun b hb => by have := ge_g0 b hb; omega)) hg1 (by omega) (fun b hb => by have := ge_g1 b hb; omega)) hg2 (by omega) (fun b hb => by have := ge_g2 b hb; omega)
  replace sb := SliceI.marked (SliceI.marked (SliceI.marked (SliceI.alloc0 sb) hg0 (by simp; omega) (fun b hb => by have := ge_g0 b hb; omega)) hg1 (by omega) (fun b hb => by have := ge_g1 b hb; omega)) hg2 (by omega) (fun b hb => by have := ge_g2 b hb; omega)
  replace y0 := OwnI.marked (OwnI.marked (OwnI.marked (World.ownsRow.alloc y0 _) hg0 (fun a b ha hb => by have := lt_y0 a ha; have := ge_g0 b hb; omega)) hg1 (fun a b ha hb => by have := lt_y0 a ha; have := ge_g1 b hb; omega)) hg2 (fun a b ha hb => by have := lt_y0 a ha; have := ge_g2 b hb; omega)
  replace y1 := OwnI.marked (OwnI.marked (OwnI.marked (World.ownsRow.alloc y1 _) hg0 (fun a b ha hb => by have := lt_y1 a ha; have := ge_g0 b hb; omega)) hg1 (fun a b ha hb => by have := lt_y1 a ha; have := ge_g1 b hb; omega)) hg2 (fun a b ha hb => by have := lt_y1 a ha; have := ge_g2 b hb; omega)
  replace y2 := OwnI.marked (OwnI.marked (OwnI.marked (World.ownsRow.alloc y2 _) hg0 (fun a b ha hb => by have := lt_y2 a ha; have := ge_g0 b hb; omega)) hg1 (fun a b ha hb => by have := lt_y2 a ha; have := ge_g1 b hb; omega)) hg2 (fun a b ha hb => by have := lt_y2 a ha; have := ge_g2 b hb; omega)
  replace pw := Box.marked (Box.marked (Box.marked (pw.alloc _) hg0 (fun b hb => by have := ge_g0 b hb; omega)) hg1 (fun b hb => by have := ge_g1 b hb; omega)) hg2 (fun b hb => by have := ge_g2 b hb; omega)
  replace pg := Box.marked (Box.marked (Box.marked (pg.alloc _) hg0 (fun b hb => by have := lt_g0 b hb; omega)) hg1 (fun b hb => by have := lt_g1 b hb; omega)) hg2 (fun b hb => by have := lt_g2 b hb; omega)
  clear hg0 hg1 hg2 g0 g1 g2
  have g0 := new_g0
  clear new_g0
  have g1 := new_g1
  clear new_g1
  have g2 := new_g2
  clear new_g2
  have c_pw := pw.cell
  have f_pw := pw.free
  have z_pw := pw.lt
  have c_pg := pg.cell
  have f_pg := pg.free
  have z_pg := pg.lt
  go_wp2_with fail
  refine (c_laws_heldToss _ _ _ _ _ _ _ _ _ _ _ _ g0.slice g1.slice g2.slice (by omega) (by omega) (by omega) (by omega) (by omega)).mono ?_
  rintro e w16 ⟨rfl, hb⟩
  clear c_pw f_pw z_pw
  clear c_pg f_pg z_pg
  have q16 := hb.size
  replace bel := below_next bel hb
  replace sa := sa.below_le hb (by omega)
  replace sb := sb.below_le hb (by omega)
  replace y0 := y0.below hb
  replace y1 := y1.below hb
  replace y2 := y2.below hb
  replace pw := pw.below hb
  replace g0 := g0.below hb
  replace g1 := g1.below hb
  replace g2 := g2.below hb
  replace pg := pg.below hb
  clear hb
  have c_pw := pw.cell
  have f_pw := pw.free
  have z_pw := pw.lt
  have c_pg := pg.cell
  have f_pg := pg.free
  have z_pg := pg.lt
  go_wp2_with fail
  refine (c_laws_toIntS _ _ _ _ _ _ sa (by omega) ma).mono ?_
  rintro e w17 ⟨rfl, va, hb⟩
  clear c_pw f_pw z_pw
  clear c_pg f_pg z_pg
  have q17 := hb.size
  replace bel := below_next bel hb
  replace sa := sa.below_le hb (by omega)
  replace sb := sb.below_le hb (by omega)
  replace y0 := y0.below hb
  replace y1 := y1.below hb
  replace y2 := y2.below hb
  replace pw := pw.below hb
  replace g0 := g0.below hb
  replace g1 := g1.below hb
  replace g2 := g2.below hb
  replace pg := pg.below hb
  clear hb
  have lt_va := va.lt
  have ge_va := va.ge
  have c_pw := pw.cell
  have f_pw := pw.free
  have z_pw := pw.lt
  have c_pg := pg.cell
  have f_pg := pg.free
  have z_pg := pg.lt
  go_wp2_with fail
  refine (c_laws_toIntS _ _ _ _ _ _ sb (by omega) mb).mono ?_
  rintro e w18 ⟨rfl, vb, hb⟩
  clear c_pw f_pw z_pw
  clear c_pg f_pg z_pg
  have q18 := hb.size
  replace bel := below_next bel hb
  replace sa := sa.below_le hb (by omega)
  replace sb := sb.below_le hb (by omega)
  replace y0 := y0.below hb
  replace y1 := y1.below hb
  replace y2 := y2.below hb
  replace pw := pw.below hb
  replace g0 := g0.below hb
  replace g1 := g1.below hb
  replace g2 := g2.below hb
  replace pg := pg.below hb
  replace va := va.below hb
  clear hb
  have lt_vb := vb.lt
  have ge_vb := vb.ge
  have c_pw := pw.cell
  have f_pw := pw.free
  have z_pw := pw.lt
  have c_pg := pg.cell
  have f_pg := pg.free
  have z_pg := pg.lt
  go_wp2_with fail
  refine (c_impl_TossNew _ _ _ _ _ _ _ _ va.slice vb.slice (Nat.le_refl _) ma mb).mono ?_
  rintro e w19 ⟨A_h0, c_h0, A_h1, c_h1, A_h2, c_h2, rfl, h0, h1, h2, aph01, aph02, aph12, hb⟩
  clear c_pw f_pw z_pw
  clear c_pg f_pg z_pg
  have q19 := hb.size
  replace bel := below_next bel hb
  replace sa := sa.below_le hb (by omega)
  replace sb := sb.below_le hb (by omega)
  replace y0 := y0.below hb
  replace y1 := y1.below hb
  replace y2 := y2.below hb
  replace pw := pw.below hb
  replace g0 := g0.below hb
  replace g1 := g1.below hb
  replace g2 := g2.below hb
  replace pg := pg.below hb
  replace va := va.below hb
  replace vb := vb.below hb
  clear hb
  have lt_h0 := h0.lt
  have ge_h0 := h0.ge
  have lt_h1 := h1.lt
  have ge_h1 := h1.ge
  have lt_h2 := h2.lt
  have ge_h2 := h2.ge
  have c_pw := pw.cell
  have f_pw := pw.free
  have z_pw := pw.lt
  have c_pg := pg.cell
  have f_pg := pg.free
  have z_pg := pg.lt
  clear va lt_va ge_va
  clear vb lt_vb ge_vb
  go_wp2_with fail
  refine (c_laws_eqToss _ _ _ _ _ _ _ _ _ _ _ _ _ _ _ _ _ (SliceI.alloc0 h0.slice) (SliceI.alloc0 h1.slice) (SliceI.alloc0 h2.slice) (SliceI.alloc0 y0.slice) (SliceI.alloc0 y1.slice) (SliceI.alloc0 y2.slice) (by simp) (by unfold maxLen; omega) (by unfold maxLen; omega) (by unfold maxLen; omega)).mono ?_
  rintro e w20 ⟨rfl, hb⟩
  clear c_pw f_pw z_pw
  clear c_pg f_pg z_pg
  have q20 := hb.size
  simp only [World.size_alloc] at q20
  have bel' := next1 bel hb
  clear bel
  obtain ⟨bel, ph⟩ := bel'
  replace sa := (SliceI.alloc0 sa).below_le hb (by simp; omega)
  replace sb := (SliceI.alloc0 sb).below_le hb (by simp; omega)
  replace y0 := OwnI.below (World.ownsRow.alloc y0 _) hb
  replace y1 := OwnI.below (World.ownsRow.alloc y1 _) hb
  replace y2 := OwnI.below (World.ownsRow.alloc y2 _) hb
  replace pw := (pw.alloc _).below hb
  replace g0 := OwnI.below (World.ownsRow.alloc g0 _) hb
  replace g1 := OwnI.below (World.ownsRow.alloc g1 _) hb
  replace g2 := OwnI.below (World.ownsRow.alloc g2 _) hb
  replace pg := (pg.alloc _).below hb
  replace h0 := OwnI.below (World.ownsRow.alloc h0 _) hb
  replace h1 := OwnI.below (World.ownsRow.alloc h1 _) hb
  replace h2 := OwnI.below (World.ownsRow.alloc h2 _) hb
  clear hb
  have c_pw := pw.cell
  have f_pw := pw.free
  have z_pw := pw.lt
  have c_pg := pg.cell
  have f_pg := pg.free
  have z_pg := pg.lt
  have c_ph := ph.cell
  have f_ph := ph.free
  have z_ph := ph.lt
  go_wp2_with fail
  refine (c_laws_heldToss _ _ _ _ _ _ _ _ _ _ _ _ g0.slice g1.slice g2.slice (by omega) (by omega) (by omega) (by omega) (by omega)).mono ?_
  rintro e w21 ⟨rfl, hb⟩
  clear c_pw f_pw z_pw
  clear c_pg f_pg z_pg
  clear c_ph f_ph z_ph
  have q21 := hb.size
  replace bel := below_next bel hb
  replace sa := sa.below_le hb (by omega)
  replace sb := sb.below_le hb (by omega)
  replace y0 := y0.below hb
  replace y1 := y1.below hb
  replace y2 := y2.below hb
  replace pw := pw.below hb
  replace g0 := g0.below hb
  replace g1 := g1.below hb
  replace g2 := g2.below hb
  replace pg := pg.below hb
  replace h0 := h0.below hb
  replace h1 := h1.below hb
  replace h2 := h2.below hb
  replace ph := ph.below hb
  clear hb
  have c_pw := pw.cell
  have f_pw := pw.free
  have z_pw := pw.lt
  have c_pg := pg.cell
  have f_pg := pg.free
  have z_pg := pg.lt
  have c_ph := ph.cell
  have f_ph := ph.free
  have z_ph := ph.lt
  go_wp2_with fail
  go_ret
  exact ⟨rfl, bel⟩

set_option maxRecDepth 100000 in
theorem lifted (os : Os) (started : os.Started) (H : Type) (enc : TypeId × Value → H) :
    ReturnsInHanded {} Try.checked os 4 .any (Rows.fnExactTossNewSpec.pre6 enc Try.prog Try.f4 Rows.fnExactTossNewRow.domain false) (Rows.fnExactTossNewSpec.post enc Try.prog Try.f4 false true false false) := by
  refine returnsInHanded_of_change (C := Try.checked) own started (by kernel_rfl) Try.func4
    (ChangeSpec.witness6 (enc := enc) (C := Try.checked) false ⟨#[], #[.slice none 0 0, .slice none 0 0], []⟩ 8 (by kernel_rfl) (by kernel_rfl) (by kernel_rfl) (by kernel_rfl)) ?_
  intro W base args ds gs before hval0 hW hcnd _
  have hval : ∀ (j : Nat) t v, Try.f4.params[j]? = some t → args[j]? = some v → Value.okWide Try.prog W .any base t v := hval0
  have hW' := hW
  obtain ⟨p, q, hA0, hV, rfl, hfz, hnd⟩ := hW
  have hA : DataW.TrodAll enc Try.prog W 0 (fun _ => true) true Try.f4.params.toList args.toList ds p := hA0
  rw [Try.params4] at hA hval
  obtain ⟨v0, vs0, d0, ds0, p0, q0, hargs, rfl, rfl, h0, r0⟩ := trodAll_cons hA
  obtain ⟨v1, vs1, d1, ds1, p1, q1, rfl, rfl, rfl, h1, r1⟩ := trodAll_cons r0
  obtain ⟨rfl, rfl, rfl⟩ := trodAll_nil r1
  obtain rfl : args = #[v0, v1] := by cases args; simp_all
  obtain ⟨rfl, rfl⟩ := trodVars_none hV
  obtain ⟨a0, len0, cap0, rfl⟩ := okWide_slice Try.underlying22 (hval 0 22 v0 rfl rfl)
  have k0 := h0
  have lt0 : ∀ x ∈ p0, x.block < W.heap.size := by obtain ⟨m, hm⟩ := k0; exact DataW.trod_lt m _ _ _ hm
  obtain ⟨z0, w0⟩ : ∃ zs, IsRow .i64 W a0 len0 cap0 zs := by
    obtain ⟨fuel, hf⟩ := h0
    rcases open_ints Try.underlying22 Try.underlying3 (by kernel_rfl) hf with ⟨hcs, _⟩ | ⟨x, l, c, zs, hcs, _, hl, hm, hz, _, hcell, hwz⟩
    · simp [Value.cells] at hcs
      obtain ⟨rfl, rfl, rfl⟩ := hcs
      exact ⟨[], .inl ⟨rfl, rfl, rfl, rfl⟩⟩
    · simp [Value.cells] at hcs
      obtain ⟨rfl, rfl, rfl⟩ := hcs
      exact ⟨zs, .inr ⟨_, rfl, hl, hm, by simpa using hz, hcell, hwz⟩⟩
  obtain ⟨a1, len1, cap1, rfl⟩ := okWide_slice Try.underlying22 (hval 1 22 v1 rfl rfl)
  have k1 := h1
  have lt1 : ∀ x ∈ p1, x.block < W.heap.size := by obtain ⟨m, hm⟩ := k1; exact DataW.trod_lt m _ _ _ hm
  obtain ⟨z1, w1⟩ : ∃ zs, IsRow .i64 W a1 len1 cap1 zs := by
    obtain ⟨fuel, hf⟩ := h1
    rcases open_ints Try.underlying22 Try.underlying3 (by kernel_rfl) hf with ⟨hcs, _⟩ | ⟨x, l, c, zs, hcs, _, hl, hm, hz, _, hcell, hwz⟩
    · simp [Value.cells] at hcs
      obtain ⟨rfl, rfl, rfl⟩ := hcs
      exact ⟨[], .inl ⟨rfl, rfl, rfl, rfl⟩⟩
    · simp [Value.cells] at hcs
      obtain ⟨rfl, rfl, rfl⟩ := hcs
      exact ⟨zs, .inr ⟨_, rfl, hl, hm, by simpa using hz, hcell, hwz⟩⟩
  clear hA0 hval0
  simp only [List.append_nil] at hW'
  refine (walk (w := W) a0 len0 cap0 z0 w0 a1 len1 cap1 z1 w1).mono fun e W' ⟨he, bel⟩ => ?_
  subst he
  exact ⟨_, rfl, _, _, _, [], _, [], hW', trodAll_mk1 (shut_bool Try.underlying4 _), (trodAll_cons_mk (Below.trod laidOut (by kernel_rfl) (of_decide_eq_true (by kernel_rfl)) k0 bel lt0) (trodAll_cons_mk (Below.trod laidOut (by kernel_rfl) (of_decide_eq_true (by kernel_rfl)) k1 bel lt1) trodAll_mk0)), rfl, bel.frame _, fun h => by cases h⟩

theorem over : Rows.fnExactTossNewRow.holds Try.pinned (OpenSpec.ofChange Rows.fnExactTossNewSpec) :=
  OpenClaim.holds_of_wide 4 Try.f4 rfl rfl rfl rfl rfl rfl rfl ⟨rfl, rfl, rfl, rfl, rfl⟩ rfl rfl rfl rfl rfl (by kernel_rfl) Try.func4 (by kernel_rfl)
    (of_decide_eq_true (by kernel_rfl)) (by unfold Func.isWrapper; first | (rw [if_pos (by decide +kernel)]; kernel_rfl) | (rw [if_neg (by decide +kernel)]; exact ⟨rfl, rfl⟩))
    (fun os started H enc _ => lifted os started H enc)

/-- The statement. -/
theorem proved : Rows.FnExactTossNewSaid := over
end Go.Proofs.Ytdmaklgpgdcnpaa.lawFnExactTossNew
