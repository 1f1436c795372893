/- The statement FnExactReadsOf: the program's function and the reference's return the same at all arguments, and the program leaves its arguments alone. It has no conditions. -/
import Derived.Test.YtjgnodmfklpcgaaRows
import Derived.WalkKit
import Derived.ProofKit
import Derived.OpenShut
import Derived.ChangeOld
import Derived.Below
import Derived.Lib.SmallJoins
import Derived.Test.YtjgnodmfklpcgaaMem
import Derived.Test.YtjgnodmfklpcgaaList
import Derived.Test.YtjgnodmfklpcgaaShape
import Derived.Test.YtjgnodmfklpcgaaStmtUse
namespace Go.Proofs.Ytjgnodmfklpcgaa.lawFnExactReadsOf
open Go.ChangeShapes Go.WideShapes Go.ChangeAt Go.RowKit Go.Joins
set_option linter.unusedVariables false

theorem own : ownKnob Try.prog.godebug = none := by kernel_rfl
theorem laidOut : laidOutB Try.prog = true := by kernel_rfl

set_option maxHeartbeats 4000000 in
theorem walk (w : World) (o d a b c n : Int) : Calls Try.prog 12 #[.agg #[.int .i64 o, .int .i64 d, .int .i64 a, .int .i64 b, .int .i64 c, .int .i64 n]] w fun e w' => e = .returned (.bool true) ∧ Below w.heap.size w w' := by
  have bel : Below w.heap.size w w := Below.refl _ _
  go_enter Try.func12, Try.ntmps12
  have hlen : (readsF o d a b c n).length ≤ 1048576 := by unfold readsF; (repeat' split) <;> simp
  go_wp2_with fail
  refine (c_laws_toStmt _ _ _ _ _ _ _).mono ?_
  rintro e w1 ⟨rfl, hb⟩
  have q1 := hb.size
  simp only [World.size_alloc] at q1
  have bel' := next1 bel hb
  clear bel
  obtain ⟨bel, x0⟩ := bel'
  clear hb
  have c_x0 := x0.cell
  have f_x0 := x0.free
  have z_x0 := x0.lt
  go_wp2_with fail
  refine (c_spec_ReadsOf _ _ _ _ _ _ _).mono ?_
  rintro e w2 ⟨A_y, c_y, rfl, y, hb⟩
  clear c_x0 f_x0 z_x0
  have q2 := hb.size
  replace bel := below_next bel hb
  replace x0 := x0.below hb
  clear hb
  have lt_y := y.lt
  have ge_y := y.ge
  have c_x0 := x0.cell
  have f_x0 := x0.free
  have z_x0 := x0.lt
  go_wp2_with fail
  refine (c_laws_toStmt _ _ _ _ _ _ _).mono ?_
  rintro e w3 ⟨rfl, hb⟩
  clear c_x0 f_x0 z_x0
  have q3 := hb.size
  replace bel := below_next bel hb
  replace x0 := x0.below hb
  replace y := y.below hb
  clear hb
  have c_x0 := x0.cell
  have f_x0 := x0.free
  have z_x0 := x0.lt
  go_wp2_with fail
  refine (c_impl_ReadsOf _ _ _ _ _ _ _).mono ?_
  rintro e w4 ⟨A_g, c_g, rfl, g, hb⟩
  clear c_x0 f_x0 z_x0
  have q4 := hb.size
  replace bel := below_next bel hb
  replace x0 := x0.below hb
  replace y := y.below hb
  clear hb
  have lt_g := g.lt
  have ge_g := g.ge
  have c_x0 := x0.cell
  have f_x0 := x0.free
  have z_x0 := x0.lt
  go_wp2_with fail
  refine (c_laws_eqIntS _ _ _ _ _ _ _ _ _ g.slice y.slice (Nat.le_refl _) (Nat.le_refl _) (by unfold maxLen; omega)).mono ?_
  rintro e w5 ⟨rfl, hb⟩
  clear c_x0 f_x0 z_x0
  have q5 := hb.size
  replace bel := below_next bel hb
  replace x0 := x0.below hb
  replace y := y.below hb
  replace g := g.below hb
  clear hb
  have c_x0 := x0.cell
  have f_x0 := x0.free
  have z_x0 := x0.lt
  go_wp2_with fail
  refine (c_laws_markIntS _ _ _ _ _ _ _ g (by omega) (by omega) (by omega)).mono ?_
  rintro e w6 ⟨rfl, new_g, hg⟩
  clear c_x0 f_x0 z_x0
  have q6 := hg.size
  replace bel := below_marked bel hg (fun b hb => by have := ge_g b hb; omega)
  replace x0 := Box.marked x0 hg (fun b hb => by have := ge_g b hb; omega)
  replace y := OwnI.marked y hg (fun a b ha hb => by have := lt_y a ha; have := ge_g b hb; omega)
  clear hg g
  have g := new_g
  clear new_g
  have c_x0 := x0.cell
  have f_x0 := x0.free
  have z_x0 := x0.lt
  go_wp2_with fail
  refine (c_laws_heldIntS _ _ _ _ _ _ g.slice (by omega) (by omega) (by omega)).mono ?_
  rintro e w' ⟨rfl, rfl⟩
  go_wp2_with fail
  refine (c_laws_toStmt _ _ _ _ _ _ _).mono ?_
  rintro e w7 ⟨rfl, hb⟩
  clear c_x0 f_x0 z_x0
  have q7 := hb.size
  replace bel := below_next bel hb
  replace x0 := x0.below hb
  replace y := y.below hb
  replace g := g.below hb
  clear hb
  have c_x0 := x0.cell
  have f_x0 := x0.free
  have z_x0 := x0.lt
  go_wp2_with fail
  refine (c_impl_ReadsOf _ _ _ _ _ _ _).mono ?_
  rintro e w8 ⟨A_h, c_h, rfl, h, hb⟩
  clear c_x0 f_x0 z_x0
  have q8 := hb.size
  replace bel := below_next bel hb
  replace x0 := x0.below hb
  replace y := y.below hb
  replace g := g.below hb
  clear hb
  have lt_h := h.lt
  have ge_h := h.ge
  have c_x0 := x0.cell
  have f_x0 := x0.free
  have z_x0 := x0.lt
  go_wp2_with fail
  refine (c_laws_eqIntS _ _ _ _ _ _ _ _ _ h.slice y.slice (Nat.le_refl _) (Nat.le_refl _) (by unfold maxLen; omega)).mono ?_
  rintro e w9 ⟨rfl, hb⟩
  clear c_x0 f_x0 z_x0
  have q9 := hb.size
  replace bel := below_next bel hb
  replace x0 := x0.below hb
  replace y := y.below hb
  replace g := g.below hb
  replace h := h.below hb
  clear hb
  have c_x0 := x0.cell
  have f_x0 := x0.free
  have z_x0 := x0.lt
  go_wp2_with fail
  refine (c_laws_heldIntS _ _ _ _ _ _ g.slice (by omega) (by omega) (by omega)).mono ?_
  rintro e w' ⟨rfl, rfl⟩
  go_wp2_with fail
  go_ret
  exact ⟨rfl, bel⟩

set_option maxRecDepth 100000 in
theorem lifted (os : Os) (started : os.Started) (H : Type) (enc : TypeId × Value → H) :
    ReturnsInHanded {} Try.checked os 12 .any (Rows.fnExactReadsOfSpec.pre6 enc Try.prog Try.f12 Rows.fnExactReadsOfRow.domain false) (Rows.fnExactReadsOfSpec.post enc Try.prog Try.f12 false true false false) := by
  refine returnsInHanded_of_change (C := Try.checked) own started (by kernel_rfl) Try.func12
    (ChangeSpec.witness6 (enc := enc) (C := Try.checked) false ⟨#[], #[.agg #[.int .i64 0, .int .i64 0, .int .i64 0, .int .i64 0, .int .i64 0, .int .i64 0]], []⟩ 8 (by kernel_rfl) (by kernel_rfl) (by kernel_rfl) (by kernel_rfl)) ?_
  intro W base args ds gs before hval0 hW hcnd _
  have hval : ∀ (j : Nat) t v, Try.f12.params[j]? = some t → args[j]? = some v → Value.okWide Try.prog W .any base t v := hval0
  have hW' := hW
  obtain ⟨p, q, hA0, hV, rfl, hfz, hnd⟩ := hW
  have hA : DataW.TrodAll enc Try.prog W 0 (fun _ => true) true Try.f12.params.toList args.toList ds p := hA0
  rw [Try.params12] at hA hval
  obtain ⟨v0, vs0, d0, ds0, p0, q0, hargs, rfl, rfl, h0, r0⟩ := trodAll_cons hA
  obtain ⟨rfl, rfl, rfl⟩ := trodAll_nil r0
  obtain rfl : args = #[v0] := by cases args; simp_all
  obtain ⟨rfl, rfl⟩ := trodVars_none hV
  have k0 := h0
  have lt0 : ∀ x ∈ p0, x.block < W.heap.size := by obtain ⟨m, hm⟩ := k0; exact DataW.trod_lt m _ _ _ hm
  obtain ⟨z0_0, z0_1, z0_2, z0_3, z0_4, z0_5, rfl⟩ := open_six Try.underlying39 Try.underlying3 (by kernel_rfl) (by kernel_rfl) rfl (by decide) (hval 0 39 v0 rfl rfl) h0
  clear hA0 hval0
  simp only [List.append_nil] at hW'
  refine (walk (w := W) z0_0 z0_1 z0_2 z0_3 z0_4 z0_5).mono fun e W' ⟨he, bel⟩ => ?_
  subst he
  exact ⟨_, rfl, _, _, _, [], _, [], hW', trodAll_mk1 (shut_bool Try.underlying4 _), (trodAll_cons_mk (Below.trod laidOut (by kernel_rfl) (of_decide_eq_true (by kernel_rfl)) k0 bel lt0) trodAll_mk0), rfl, bel.frame _, fun h => by cases h⟩

theorem over : Rows.fnExactReadsOfRow.holds Try.pinned (OpenSpec.ofChange Rows.fnExactReadsOfSpec) :=
  OpenClaim.holds_of_wide 12 Try.f12 rfl rfl rfl rfl rfl rfl rfl ⟨rfl, rfl, rfl, rfl, rfl⟩ rfl rfl rfl rfl rfl (by kernel_rfl) Try.func12 (by kernel_rfl)
    (of_decide_eq_true (by kernel_rfl)) (by unfold Func.isWrapper; first | (rw [if_pos (by decide +kernel)]; kernel_rfl) | (rw [if_neg (by decide +kernel)]; exact ⟨rfl, rfl⟩))
    (fun os started H enc _ => lifted os started H enc)

/-- The statement. -/
theorem proved : Rows.FnExactReadsOfSaid := over
end Go.Proofs.Ytjgnodmfklpcgaa.lawFnExactReadsOf
