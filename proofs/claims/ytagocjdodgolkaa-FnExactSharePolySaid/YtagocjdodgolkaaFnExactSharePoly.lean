/- The statement FnExactSharePoly: the program's function and the reference's return the same at all arguments, and the program leaves its arguments alone. It has no conditions. -/
import Derived.Test.YtagocjdodgolkaaRows
import Derived.WalkKit
import Derived.ProofKit
import Derived.OpenShut
import Derived.ChangeOld
import Derived.Below
import Derived.Lib.SmallJoins
import Derived.Test.YtagocjdodgolkaaMem
import Derived.Test.YtagocjdodgolkaaList
import Derived.Test.YtagocjdodgolkaaSharePoly
import Derived.Test.YtagocjdodgolkaaSharePolyRef
namespace Go.Proofs.Ytagocjdodgolkaa.lawFnExactSharePoly
open Go.ChangeShapes Go.WideShapes Go.ChangeAt Go.RowKit Go.Joins
set_option linter.unusedVariables false

theorem own : ownKnob Try.prog.godebug = none := by kernel_rfl
theorem laidOut : laidOutB Try.prog = true := by kernel_rfl

set_option maxHeartbeats 4000000 in
theorem walk (w : World) (p : Int) (wp : (Lit.int .i64 p).wf = true) (x : Int) (wx : (Lit.int .i64 x).wf = true) (n : Int) (wn : (Lit.int .i64 n).wf = true) (k : Int) (wk : (Lit.int .i64 k).wf = true) (s t : Int) : Calls Try.prog 13 #[.int .i64 p, .int .i64 x, .int .i64 n, .int .i64 k, .agg #[.int .i64 s, .int .i64 t]] w fun e w' => e = .returned (.bool true) ∧ Below w.heap.size w w' := by
  have bel : Below w.heap.size w w := Below.refl _ _
  go_enter Try.func13, Try.ntmps13
  have hlen : (polyF p x n k s t).length ≤ 1048576 := polyF_len p x n k s t
  go_wp2_with fail
  refine (c_laws_toTape _ _ _).mono ?_
  rintro e w1 ⟨rfl, hb⟩
  have q1 := hb.size
  simp only [World.size_alloc] at q1
  have bel' := next1 bel hb
  clear bel
  obtain ⟨bel, x0⟩ := bel'
  clear hb
  have c_x0 := x0.cell
  have f_x0 := x0.free
  have z_x0 := x0.lt
  go_wp2_with fail
  refine (c_spec_SharePoly _ _ _ _ _ _ _).mono ?_
  rintro e w2 ⟨A_y, c_y, rfl, y, hb⟩
  clear c_x0 f_x0 z_x0
  have q2 := hb.size
  replace bel := below_next bel hb
  replace x0 := x0.below hb
  clear hb
  have lt_y := y.lt
  have ge_y := y.ge
  have c_x0 := x0.cell
  have f_x0 := x0.free
  have z_x0 := x0.lt
  go_wp2_with fail
  refine (c_laws_toTape _ _ _).mono ?_
  rintro e w3 ⟨rfl, hb⟩
  clear c_x0 f_x0 z_x0
  have q3 := hb.size
  simp only [World.size_alloc] at q3
  have bel' := next1 bel hb
  clear bel
  obtain ⟨bel, x1⟩ := bel'
  replace x0 := (x0.alloc _).below hb
  replace y := OwnI.below (World.ownsRow.alloc y _) hb
  clear hb
  have c_x0 := x0.cell
  have f_x0 := x0.free
  have z_x0 := x0.lt
  have c_x1 := x1.cell
  have f_x1 := x1.free
  have z_x1 := x1.lt
  go_wp2_with fail
  refine (c_impl_SharePoly _ _ _ _ _ _ _).mono ?_
  rintro e w4 ⟨A_g, c_g, rfl, g, hb⟩
  clear c_x0 f_x0 z_x0
  clear c_x1 f_x1 z_x1
  have q4 := hb.size
  replace bel := below_next bel hb
  replace x0 := x0.below hb
  replace y := y.below hb
  replace x1 := x1.below hb
  clear hb
  have lt_g := g.lt
  have ge_g := g.ge
  have c_x0 := x0.cell
  have f_x0 := x0.free
  have z_x0 := x0.lt
  have c_x1 := x1.cell
  have f_x1 := x1.free
  have z_x1 := x1.lt
  go_wp2_with fail
  refine (c_laws_eqIntS _ _ _ _ _ _ _ _ _ (SliceI.alloc0 g.slice) (SliceI.alloc0 y.slice) (by simp) (by simp) (by unfold maxLen; omega)).mono ?_
  rintro e w5 ⟨rfl, hb⟩
  clear c_x0 f_x0 z_x0
  clear c_x1 f_x1 z_x1
  have q5 := hb.size
  simp only [World.size_alloc] at q5
  have bel' := next1 bel hb
  clear bel
  obtain ⟨bel, x2⟩ := bel'
  replace x0 := (x0.alloc _).below hb
  replace y := OwnI.below (World.ownsRow.alloc y _) hb
  replace x1 := (x1.alloc _).below hb
  replace g := OwnI.below (World.ownsRow.alloc g _) hb
  clear hb
  have c_x0 := x0.cell
  have f_x0 := x0.free
  have z_x0 := x0.lt
  have c_x1 := x1.cell
  have f_x1 := x1.free
  have z_x1 := x1.lt
  have c_x2 := x2.cell
  have f_x2 := x2.free
  have z_x2 := x2.lt
  go_wp2_with fail
  refine (c_laws_eqTape _ _ _).mono ?_
  rintro e w6 ⟨rfl, hb⟩
  clear c_x0 f_x0 z_x0
  clear c_x1 f_x1 z_x1
  clear c_x2 f_x2 z_x2
  have q6 := hb.size
  replace bel := below_next bel hb
  replace x0 := x0.below hb
  replace y := y.below hb
  replace x1 := x1.below hb
  replace g := g.below hb
  replace x2 := x2.below hb
  clear hb
  have c_x0 := x0.cell
  have f_x0 := x0.free
  have z_x0 := x0.lt
  have c_x1 := x1.cell
  have f_x1 := x1.free
  have z_x1 := x1.lt
  have c_x2 := x2.cell
  have f_x2 := x2.free
  have z_x2 := x2.lt
  go_wp2_with fail
  refine (c_laws_markIntS _ _ _ _ _ _ _ g (by omega) (by omega) (by omega)).mono ?_
  rintro e w7 ⟨rfl, new_g, hg⟩
  clear c_x0 f_x0 z_x0
  clear c_x1 f_x1 z_x1
  clear c_x2 f_x2 z_x2
  have q7 := hg.size
  replace bel := below_marked bel hg (fun b hb => by have := ge_g b hb; omega)
  replace x0 := Box.marked x0 hg (fun b hb => by have := ge_g b hb; omega)
  replace y := OwnI.marked y hg (fun a b ha hb => by have := lt_y a ha; have := ge_g b hb; omega)
  replace x1 := Box.marked x1 hg (fun b hb => by have := ge_g b hb; omega)
  replace x2 := Box.marked x2 hg (fun b hb => by have := lt_g b hb; omega)
  clear hg g
  have g := new_g
  clear new_g
  have c_x0 := x0.cell
  have f_x0 := x0.free
  have z_x0 := x0.lt
  have c_x1 := x1.cell
  have f_x1 := x1.free
  have z_x1 := x1.lt
  have c_x2 := x2.cell
  have f_x2 := x2.free
  have z_x2 := x2.lt
  go_wp2_with fail
  refine (c_laws_heldIntS _ _ _ _ _ _ g.slice (by omega) (by omega) (by omega)).mono ?_
  rintro e w' ⟨rfl, rfl⟩
  go_wp2_with fail
  refine (c_laws_toTape _ _ _).mono ?_
  rintro e w8 ⟨rfl, hb⟩
  clear c_x0 f_x0 z_x0
  clear c_x1 f_x1 z_x1
  clear c_x2 f_x2 z_x2
  have q8 := hb.size
  replace bel := below_next bel hb
  replace x0 := x0.below hb
  replace y := y.below hb
  replace x1 := x1.below hb
  replace g := g.below hb
  replace x2 := x2.below hb
  clear hb
  have c_x0 := x0.cell
  have f_x0 := x0.free
  have z_x0 := x0.lt
  have c_x1 := x1.cell
  have f_x1 := x1.free
  have z_x1 := x1.lt
  have c_x2 := x2.cell
  have f_x2 := x2.free
  have z_x2 := x2.lt
  go_wp2_with fail
  refine (c_impl_SharePoly _ _ _ _ _ _ _).mono ?_
  rintro e w9 ⟨A_h, c_h, rfl, h, hb⟩
  clear c_x0 f_x0 z_x0
  clear c_x1 f_x1 z_x1
  clear c_x2 f_x2 z_x2
  have q9 := hb.size
  replace bel := below_next bel hb
  replace x0 := x0.below hb
  replace y := y.below hb
  replace x1 := x1.below hb
  replace g := g.below hb
  replace x2 := x2.below hb
  clear hb
  have lt_h := h.lt
  have ge_h := h.ge
  have c_x0 := x0.cell
  have f_x0 := x0.free
  have z_x0 := x0.lt
  have c_x1 := x1.cell
  have f_x1 := x1.free
  have z_x1 := x1.lt
  have c_x2 := x2.cell
  have f_x2 := x2.free
  have z_x2 := x2.lt
  go_wp2_with fail
  refine (c_laws_eqIntS _ _ _ _ _ _ _ _ _ (SliceI.alloc0 h.slice) (SliceI.alloc0 y.slice) (by simp) (by simp) (by unfold maxLen; omega)).mono ?_
  rintro e w10 ⟨rfl, hb⟩
  clear c_x0 f_x0 z_x0
  clear c_x1 f_x1 z_x1
  clear c_x2 f_x2 z_x2
  have q10 := hb.size
  simp only [World.size_alloc] at q10
  have bel' := next1 bel hb
  clear bel
  obtain ⟨bel, x3⟩ := bel'
  replace x0 := (x0.alloc _).below hb
  replace y := OwnI.below (World.ownsRow.alloc y _) hb
  replace x1 := (x1.alloc _).below hb
  replace g := OwnI.below (World.ownsRow.alloc g _) hb
  replace x2 := (x2.alloc _).below hb
  replace h := OwnI.below (World.ownsRow.alloc h _) hb
  clear hb
  have c_x0 := x0.cell
  have f_x0 := x0.free
  have z_x0 := x0.lt
  have c_x1 := x1.cell
  have f_x1 := x1.free
  have z_x1 := x1.lt
  have c_x2 := x2.cell
  have f_x2 := x2.free
  have z_x2 := x2.lt
  have c_x3 := x3.cell
  have f_x3 := x3.free
  have z_x3 := x3.lt
  go_wp2_with fail
  refine (c_laws_eqTape _ _ _).mono ?_
  rintro e w11 ⟨rfl, hb⟩
  clear c_x0 f_x0 z_x0
  clear c_x1 f_x1 z_x1
  clear c_x2 f_x2 z_x2
  clear c_x3 f_x3 z_x3
  have q11 := hb.size
  replace bel := below_next bel hb
  replace x0 := x0.below hb
  replace y := y.below hb
  replace x1 := x1.below hb
  replace g := g.below hb
  replace x2 := x2.below hb
  replace h := h.below hb
  replace x3 := x3.below hb
  clear hb
  have c_x0 := x0.cell
  have f_x0 := x0.free
  have z_x0 := x0.lt
  have c_x1 := x1.cell
  have f_x1 := x1.free
  have z_x1 := x1.lt
  have c_x2 := x2.cell
  have f_x2 := x2.free
  have z_x2 := x2.lt
  have c_x3 := x3.cell
  have f_x3 := x3.free
  have z_x3 := x3.lt
  go_wp2_with fail
  refine (c_laws_heldIntS _ _ _ _ _ _ g.slice (by omega) (by omega) (by omega)).mono ?_
  rintro e w' ⟨rfl, rfl⟩
  go_wp2_with fail
  go_ret
  exact ⟨rfl, bel⟩

set_option maxRecDepth 100000 in
theorem lifted (os : Os) (started : os.Started) (H : Type) (enc : TypeId × Value → H) :
    ReturnsInHanded {} Try.checked os 13 .any (Rows.fnExactSharePolySpec.pre6 enc Try.prog Try.f13 Rows.fnExactSharePolyRow.domain false) (Rows.fnExactSharePolySpec.post enc Try.prog Try.f13 false true false false) := by
  refine returnsInHanded_of_change (C := Try.checked) own started (by kernel_rfl) Try.func13
    (ChangeSpec.witness6 (enc := enc) (C := Try.checked) false ⟨#[], #[.int .i64 0, .int .i64 0, .int .i64 0, .int .i64 0, .agg #[.int .i64 0, .int .i64 0]], []⟩ 8 (by kernel_rfl) (by kernel_rfl) (by kernel_rfl) (by kernel_rfl)) ?_
  intro W base args ds gs before hval0 hW hcnd _
  have hval : ∀ (j : Nat) t v, Try.f13.params[j]? = some t → args[j]? = some v → Value.okWide Try.prog W .any base t v := hval0
  have hW' := hW
  obtain ⟨p, q, hA0, hV, rfl, hfz, hnd⟩ := hW
  have hA : DataW.TrodAll enc Try.prog W 0 (fun _ => true) true Try.f13.params.toList args.toList ds p := hA0
  rw [Try.params13] at hA hval
  obtain ⟨v0, vs0, d0, ds0, p0, q0, hargs, rfl, rfl, h0, r0⟩ := trodAll_cons hA
  obtain ⟨v1, vs1, d1, ds1, p1, q1, rfl, rfl, rfl, h1, r1⟩ := trodAll_cons r0
  obtain ⟨v2, vs2, d2, ds2, p2, q2, rfl, rfl, rfl, h2, r2⟩ := trodAll_cons r1
  obtain ⟨v3, vs3, d3, ds3, p3, q3, rfl, rfl, rfl, h3, r3⟩ := trodAll_cons r2
  obtain ⟨v4, vs4, d4, ds4, p4, q4, rfl, rfl, rfl, h4, r4⟩ := trodAll_cons r3
  obtain ⟨rfl, rfl, rfl⟩ := trodAll_nil r4
  obtain rfl : args = #[v0, v1, v2, v3, v4] := by cases args; simp_all
  obtain ⟨rfl, rfl⟩ := trodVars_none hV
  obtain ⟨a0, rfl, rfl, rfl, w0⟩ := open_int Try.underlying3 (hval 0 3 v0 rfl rfl) h0
  obtain ⟨a1, rfl, rfl, rfl, w1⟩ := open_int Try.underlying3 (hval 1 3 v1 rfl rfl) h1
  obtain ⟨a2, rfl, rfl, rfl, w2⟩ := open_int Try.underlying3 (hval 2 3 v2 rfl rfl) h2
  obtain ⟨a3, rfl, rfl, rfl, w3⟩ := open_int Try.underlying3 (hval 3 3 v3 rfl rfl) h3
  have k4 := h4
  have lt4 : ∀ x ∈ p4, x.block < W.heap.size := by obtain ⟨m, hm⟩ := k4; exact DataW.trod_lt m _ _ _ hm
  obtain ⟨a4, b4, rfl⟩ : ∃ x y : Int, v4 = .agg #[.int .i64 x, .int .i64 y] := by
    obtain ⟨x0, x1, y0, y1, m, hv, _, _, hy0, hy1⟩ := open_agg2 Try.underlying39 (by kernel_rfl) (by kernel_rfl) (hval 4 39 v4 rfl rfl) h4
    obtain ⟨z0, e0, _, _⟩ := DataW.trod_int Try.underlying3 hy0
    obtain ⟨z1, e1, _, _⟩ := DataW.trod_int Try.underlying3 hy1
    simp only [List.cons.injEq, and_true] at e0 e1
    exact ⟨z0, z1, by rw [hv, e0, e1]⟩
  clear hA0 hval0
  simp only [List.append_nil] at hW'
  refine (walk (w := W) a0 w0 a1 w1 a2 w2 a3 w3 a4 b4).mono fun e W' ⟨he, bel⟩ => ?_
  subst he
  exact ⟨_, rfl, _, _, _, [], _, [], hW', trodAll_mk1 (shut_bool Try.underlying4 _), (trodAll_cons_mk (shut_int Try.underlying3 w0) (trodAll_cons_mk (shut_int Try.underlying3 w1) (trodAll_cons_mk (shut_int Try.underlying3 w2) (trodAll_cons_mk (shut_int Try.underlying3 w3) (trodAll_cons_mk (Below.trod laidOut (by kernel_rfl) (of_decide_eq_true (by kernel_rfl)) k4 bel lt4) trodAll_mk0))))), rfl, bel.frame _, fun h => by cases h⟩

theorem over : Rows.fnExactSharePolyRow.holds Try.pinned (OpenSpec.ofChange Rows.fnExactSharePolySpec) :=
  OpenClaim.holds_of_wide 13 Try.f13 rfl rfl rfl rfl rfl rfl rfl ⟨rfl, rfl, rfl, rfl, rfl⟩ rfl rfl rfl rfl rfl (by kernel_rfl) Try.func13 (by kernel_rfl)
    (of_decide_eq_true (by kernel_rfl)) (by unfold Func.isWrapper; first | (rw [if_pos (by decide +kernel)]; kernel_rfl) | (rw [if_neg (by decide +kernel)]; exact ⟨rfl, rfl⟩))
    (fun os started H enc _ => lifted os started H enc)

/-- The statement. -/
theorem proved : Rows.FnExactSharePolySaid := over
end Go.Proofs.Ytagocjdodgolkaa.lawFnExactSharePoly
