/- The statement FnExactProgramOk: the program's function and the reference's return the same at all arguments, and the program leaves its arguments alone. It has no conditions. -/
import Derived.Test.YtjgnodmfklpcgaaRows
import Derived.WalkKit
import Derived.ProofKit
import Derived.OpenShut
import Derived.ChangeOld
import Derived.Below
import Derived.Lib.SmallJoins
import Derived.Test.YtjgnodmfklpcgaaMem
import Derived.Test.YtjgnodmfklpcgaaList
import Derived.Test.YtjgnodmfklpcgaaShape
import Derived.Test.YtjgnodmfklpcgaaStmtListOk
namespace Go.Proofs.Ytjgnodmfklpcgaa.lawFnExactProgramOk
open Go.ChangeShapes Go.WideShapes Go.ChangeAt Go.RowKit Go.Joins
set_option linter.unusedVariables false

theorem own : ownKnob Try.prog.godebug = none := by kernel_rfl
theorem laidOut : laidOutB Try.prog = true := by kernel_rfl

set_option maxHeartbeats 4000000 in
theorem walk (w : World) (A : Option Addr) (len cap : Nat) (zs : List Int) (hf : IsFlat 6 w A len cap zs) : Calls Try.prog 13 #[.slice A len cap] w fun e w' => e = .returned (.bool true) ∧ Below w.heap.size w w' := by
  have hm : len ≤ maxLen := by
    rcases hf with ⟨_, rfl, _, _⟩ | ⟨x, _, hl, hm, _, _⟩
    · unfold maxLen; omega
    · omega
  have fl := hf.slice
  by_cases big : (1048576 : Int) < (len : Int)
  · go_enter Try.func13, Try.ntmps13
    go_wp2_with fail
    refine (c_laws_szStmtS _ _ _ _ _ hm (by omega) (by omega)).mono ?_
    rintro e w' ⟨rfl, rfl⟩
    rw [if_pos (by omega)]
    go_wp2_with fail
    go_ret
    exact ⟨rfl, Below.refl _ _⟩
  have mb : len ≤ 1048576 := by omega
  have hpos : ¬ ((1048576 : Int) < (len : Int)) := big
  have hpos' : ¬ (1048576 - (len : Int) < 0) := by omega
  have sb := fl
  clear hf fl
  have bel : Below w.heap.size w w := Below.refl _ _
  go_enter Try.func13, Try.ntmps13
  go_wp2_with fail
  refine (c_laws_szStmtS _ _ _ _ _ hm (by omega) (by omega)).mono ?_
  rintro e w' ⟨rfl, rfl⟩
  rw [if_neg (by omega)]
  go_wp2_with fail
  refine (c_laws_toStmtS _ _ _ _ _ _ sb (by omega) mb).mono ?_
  rintro e w1 ⟨rfl, tb, hb⟩
  have q1 := hb.size
  replace bel := below_next bel hb
  replace sb := sb.below_le hb (by omega)
  clear hb
  have lt_tb := tb.lt
  have ge_tb := tb.ge
  go_wp2_with fail
  refine (c_spec_ProgramOk _ _ _ _ _ _ tb.slice (Nat.le_refl _) mb).mono ?_
  rintro e w2 ⟨rfl, hb⟩
  have q2 := hb.size
  replace bel := below_next bel hb
  replace sb := sb.below_le hb (by omega)
  replace tb := tb.below hb
  clear hb
  clear tb lt_tb ge_tb
  go_wp2_with fail
  refine (c_laws_toStmtS _ _ _ _ _ _ sb (by omega) mb).mono ?_
  rintro e w3 ⟨rfl, xb, hb⟩
  have q3 := hb.size
  replace bel := below_next bel hb
  replace sb := sb.below_le hb (by omega)
  clear hb
  have lt_xb := xb.lt
  have ge_xb := xb.ge
  go_wp2_with fail
  refine (c_impl_ProgramOk _ _ _ _ _ _ xb.slice (Nat.le_refl _) mb).mono ?_
  rintro e w4 ⟨rfl, hb⟩
  have q4 := hb.size
  replace bel := below_next bel hb
  replace sb := sb.below_le hb (by omega)
  replace xb := xb.below hb
  clear hb
  go_wp2_with fail
  refine (c_laws_toStmtS _ _ _ _ _ _ sb (by omega) mb).mono ?_
  rintro e w5 ⟨rfl, ub, hb⟩
  have q5 := hb.size
  replace bel := below_next bel hb
  replace sb := sb.below_le hb (by omega)
  replace xb := xb.below hb
  clear hb
  have lt_ub := ub.lt
  have ge_ub := ub.ge
  go_wp2_with fail
  refine (c_laws_eqStmtS _ _ _ _ _ _ _ _ _ xb.slice ub.slice (Nat.le_refl _) (Nat.le_refl _) mb).mono ?_
  rintro e w6 ⟨rfl, hb⟩
  have q6 := hb.size
  replace bel := below_next bel hb
  replace sb := sb.below_le hb (by omega)
  replace xb := xb.below hb
  replace ub := ub.below hb
  clear hb
  go_wp2_with fail
  go_ret
  exact ⟨rfl, bel⟩

set_option maxRecDepth 100000 in
theorem lifted (os : Os) (started : os.Started) (H : Type) (enc : TypeId × Value → H) :
    ReturnsInHanded {} Try.checked os 13 .any (Rows.fnExactProgramOkSpec.pre6 enc Try.prog Try.f13 Rows.fnExactProgramOkRow.domain false) (Rows.fnExactProgramOkSpec.post enc Try.prog Try.f13 false true false false) := by
  refine returnsInHanded_of_change (C := Try.checked) own started (by kernel_rfl) Try.func13
    (ChangeSpec.witness6 (enc := enc) (C := Try.checked) false ⟨#[], #[.slice none 0 0], []⟩ 8 (by kernel_rfl) (by kernel_rfl) (by kernel_rfl) (by kernel_rfl)) ?_
  intro W base args ds gs before hval0 hW hcnd _
  have hval : ∀ (j : Nat) t v, Try.f13.params[j]? = some t → args[j]? = some v → Value.okWide Try.prog W .any base t v := hval0
  have hW' := hW
  obtain ⟨p, q, hA0, hV, rfl, hfz, hnd⟩ := hW
  have hA : DataW.TrodAll enc Try.prog W 0 (fun _ => true) true Try.f13.params.toList args.toList ds p := hA0
  rw [Try.params13] at hA hval
  obtain ⟨v0, vs0, d0, ds0, p0, q0, hargs, rfl, rfl, h0, r0⟩ := trodAll_cons hA
  obtain ⟨rfl, rfl, rfl⟩ := trodAll_nil r0
  obtain rfl : args = #[v0] := by cases args; simp_all
  obtain ⟨rfl, rfl⟩ := trodVars_none hV
  obtain ⟨a0, len0, cap0, rfl⟩ := okWide_slice Try.underlying49 (hval 0 49 v0 rfl rfl)
  have k0 := h0
  have lt0 : ∀ x ∈ p0, x.block < W.heap.size := by obtain ⟨m, hm⟩ := k0; exact DataW.trod_lt m _ _ _ hm
  obtain ⟨z0, w0⟩ : ∃ zs, IsFlat 6 W a0 len0 cap0 zs := by
    obtain ⟨fuel, hf⟩ := h0
    exact open_flat Try.underlying49 Try.underlying39 Try.underlying3 (by kernel_rfl) (by kernel_rfl) (by decide) (by decide) hf
  clear hA0 hval0
  simp only [List.append_nil] at hW'
  refine (walk (w := W) a0 len0 cap0 z0 w0).mono fun e W' ⟨he, bel⟩ => ?_
  subst he
  exact ⟨_, rfl, _, _, _, [], _, [], hW', trodAll_mk1 (shut_bool Try.underlying4 _), (trodAll_cons_mk (Below.trod laidOut (by kernel_rfl) (of_decide_eq_true (by kernel_rfl)) k0 bel lt0) trodAll_mk0), rfl, bel.frame _, fun h => by cases h⟩

theorem over : Rows.fnExactProgramOkRow.holds Try.pinned (OpenSpec.ofChange Rows.fnExactProgramOkSpec) :=
  OpenClaim.holds_of_wide 13 Try.f13 rfl rfl rfl rfl rfl rfl rfl ⟨rfl, rfl, rfl, rfl, rfl⟩ rfl rfl rfl rfl rfl (by kernel_rfl) Try.func13 (by kernel_rfl)
    (of_decide_eq_true (by kernel_rfl)) (by unfold Func.isWrapper; first | (rw [if_pos (by decide +kernel)]; kernel_rfl) | (rw [if_neg (by decide +kernel)]; exact ⟨rfl, rfl⟩))
    (fun os started H enc _ => lifted os started H enc)

/-- The statement. -/
theorem proved : Rows.FnExactProgramOkSaid := over
end Go.Proofs.Ytjgnodmfklpcgaa.lawFnExactProgramOk
