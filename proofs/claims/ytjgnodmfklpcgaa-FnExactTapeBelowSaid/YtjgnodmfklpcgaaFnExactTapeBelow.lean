/- The statement FnExactTapeBelow: the program's function and the reference's return the same value at all arguments. It has no conditions. -/
import Derived.Test.YtjgnodmfklpcgaaRows
import Derived.WalkKit
import Derived.ProofKit
import Derived.OpenShut
import Derived.Lib.SmallJoins
import Derived.ChangeOld
import Derived.Below
import Derived.Test.YtjgnodmfklpcgaaTape
namespace Go.Proofs.Ytjgnodmfklpcgaa.lawFnExactTapeBelow
open Go.ChangeShapes Go.WideShapes Go.ChangeAt Go.RowKit Go.Joins
set_option linter.unusedVariables false

theorem own : ownKnob Try.prog.godebug = none := by kernel_rfl
theorem laidOut : laidOutB Try.prog = true := by kernel_rfl

set_option maxHeartbeats 1000000 in
theorem walk (s t : Int) (n : Int) (wn : (Lit.int .i64 n).wf = true) (w : World) : Calls Try.prog 6 #[.agg #[.int .i64 s, .int .i64 t], .int .i64 n] w fun e w' => e = .returned (.bool true) ∧ Below w.heap.size w w' := by
  go_enter Try.func6, Try.ntmps6
  go_wp2_with fail
  refine (c_laws_toTape _ _ _).mono ?_
  rintro e w1 ⟨rfl, hb⟩
  obtain ⟨bel1, x1_1⟩ := start1 hb
  clear hb
  have c1 := x1_1.cell
  have f1 := x1_1.free
  have z1 := x1_1.lt
  go_wp2_with fail
  refine (c_spec_TapeBelow _ _ _ _).mono ?_
  rintro e w2 ⟨rfl, hb⟩
  have bel2 := below_next bel1 hb
  have x1_2 := x1_1.below hb
  clear hb bel1 x1_1 c1 f1 z1
  have c1 := x1_2.cell
  have f1 := x1_2.free
  have z1 := x1_2.lt
  go_wp2_with fail
  refine (c_laws_toTape _ _ _).mono ?_
  rintro e w3 ⟨rfl, hb⟩
  obtain ⟨bel3, x2_3⟩ := next1 bel2 hb
  have x1_3 := (x1_2.alloc _).below hb
  clear hb bel2 x1_2 c1 f1 z1
  have c1 := x1_3.cell
  have f1 := x1_3.free
  have z1 := x1_3.lt
  have c2 := x2_3.cell
  have f2 := x2_3.free
  have z2 := x2_3.lt
  go_wp2_with fail
  refine (c_impl_TapeBelow _ _ _ _).mono ?_
  rintro e w4 ⟨rfl, hb⟩
  have bel4 := below_next bel3 hb
  have x1_4 := x1_3.below hb
  have x2_4 := x2_3.below hb
  clear hb bel3 x1_3 c1 f1 z1 x2_3 c2 f2 z2
  have c1 := x1_4.cell
  have f1 := x1_4.free
  have z1 := x1_4.lt
  have c2 := x2_4.cell
  have f2 := x2_4.free
  have z2 := x2_4.lt
  go_wp2_with fail
  refine (c_laws_eqTape _ _ _).mono ?_
  rintro e w5 ⟨rfl, hb⟩
  obtain ⟨bel5, x3_5⟩ := next1 bel4 hb
  have x1_5 := (x1_4.alloc _).below hb
  have x2_5 := (x2_4.alloc _).below hb
  clear hb bel4 x1_4 c1 f1 z1 x2_4 c2 f2 z2
  have c1 := x1_5.cell
  have f1 := x1_5.free
  have z1 := x1_5.lt
  have c2 := x2_5.cell
  have f2 := x2_5.free
  have z2 := x2_5.lt
  have c3 := x3_5.cell
  have f3 := x3_5.free
  have z3 := x3_5.lt
  go_wp2_with fail
  go_ret
  exact ⟨rfl, bel5⟩

set_option maxRecDepth 100000 in
theorem lifted (os : Os) (started : os.Started) (H : Type) (enc : TypeId × Value → H) :
    ReturnsInHanded {} Try.checked os 6 .any (Rows.fnExactTapeBelowSpec.pre6 enc Try.prog Try.f6 Rows.fnExactTapeBelowRow.domain false) (Rows.fnExactTapeBelowSpec.post enc Try.prog Try.f6 false true false false) := by
  refine returnsInHanded_of_change (C := Try.checked) own started (by kernel_rfl) Try.func6
    (ChangeSpec.witness6 (enc := enc) (C := Try.checked) false ⟨#[], #[.agg #[.int .i64 0, .int .i64 0], .int .i64 0], []⟩ 8 (by kernel_rfl) (by kernel_rfl) (by kernel_rfl) (by kernel_rfl)) ?_
  intro W base args ds gs before hval0 hW hcnd _
  have hval : ∀ (j : Nat) t v, Try.f6.params[j]? = some t → args[j]? = some v → Value.okWide Try.prog W .any base t v := hval0
  have hW' := hW
  obtain ⟨p, q, hA0, hV, rfl, hfz, hnd⟩ := hW
  have hA : DataW.TrodAll enc Try.prog W 0 (fun _ => true) true Try.f6.params.toList args.toList ds p := hA0
  rw [Try.params6] at hA hval
  obtain ⟨v0, vs0, d0, ds0, p0, q0, hargs, rfl, rfl, h0, r0⟩ := trodAll_cons hA
  obtain ⟨v1, vs1, d1, ds1, p1, q1, rfl, rfl, rfl, h1, r1⟩ := trodAll_cons r0
  obtain ⟨rfl, rfl, rfl⟩ := trodAll_nil r1
  obtain rfl : args = #[v0, v1] := by cases args; simp_all
  obtain ⟨rfl, rfl⟩ := trodVars_none hV
  have k0 := h0
  have lt0 : ∀ x ∈ p0, x.block < W.heap.size := by obtain ⟨m, hm⟩ := k0; exact DataW.trod_lt m _ _ _ hm
  obtain ⟨a0, b0, rfl⟩ : ∃ x y : Int, v0 = .agg #[.int .i64 x, .int .i64 y] := by
    obtain ⟨x0, x1, y0, y1, m, hv, _, _, hy0, hy1⟩ := open_agg2 Try.underlying23 (by kernel_rfl) (by kernel_rfl) (hval 0 23 v0 rfl rfl) h0
    obtain ⟨z0, e0, _, _⟩ := DataW.trod_int Try.underlying3 hy0
    obtain ⟨z1, e1, _, _⟩ := DataW.trod_int Try.underlying3 hy1
    simp only [List.cons.injEq, and_true] at e0 e1
    exact ⟨z0, z1, by rw [hv, e0, e1]⟩
  obtain ⟨a1, rfl, rfl, rfl, w1⟩ := open_int Try.underlying3 (hval 1 3 v1 rfl rfl) h1
  clear hA0 hval0
  simp only [List.append_nil] at hW'
  refine (walk a0 b0 a1 w1 W).mono fun e W' ⟨he, bel⟩ => ?_
  subst he
  exact ⟨_, rfl, _, _, _, [], _, [], hW', trodAll_mk1 (shut_bool Try.underlying4 _), (trodAll_cons_mk (Below.trod laidOut (by kernel_rfl) (of_decide_eq_true (by kernel_rfl)) k0 bel lt0) (trodAll_cons_mk (shut_int Try.underlying3 w1) trodAll_mk0)), rfl, bel.frame _, fun h => by cases h⟩

theorem over : Rows.fnExactTapeBelowRow.holds Try.pinned (OpenSpec.ofChange Rows.fnExactTapeBelowSpec) :=
  OpenClaim.holds_of_wide 6 Try.f6 rfl rfl rfl rfl rfl rfl rfl ⟨rfl, rfl, rfl, rfl, rfl⟩ rfl rfl rfl rfl rfl (by kernel_rfl) Try.func6 (by kernel_rfl)
    (of_decide_eq_true (by kernel_rfl)) (by unfold Func.isWrapper; first | (rw [if_pos (by decide +kernel)]; kernel_rfl) | (rw [if_neg (by decide +kernel)]; exact ⟨rfl, rfl⟩))
    (fun os started H enc _ => lifted os started H enc)

/-- The statement. -/
theorem proved : Rows.FnExactTapeBelowSaid := over
end Go.Proofs.Ytjgnodmfklpcgaa.lawFnExactTapeBelow
