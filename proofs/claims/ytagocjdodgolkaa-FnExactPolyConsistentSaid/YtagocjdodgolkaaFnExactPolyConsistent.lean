/- The statement FnExactPolyConsistent: the program's function and the reference's return the same at all arguments, and the program leaves its arguments alone. It has no conditions. -/
import Derived.Test.YtagocjdodgolkaaRows
import Derived.WalkKit
import Derived.ProofKit
import Derived.OpenShut
import Derived.ChangeOld
import Derived.Below
import Derived.Lib.SmallJoins
import Derived.Test.YtagocjdodgolkaaMem
import Derived.Test.YtagocjdodgolkaaList
import Derived.Test.YtagocjdodgolkaaConsistRef
namespace Go.Proofs.Ytagocjdodgolkaa.lawFnExactPolyConsistent
open Go.ChangeShapes Go.WideShapes Go.ChangeAt Go.RowKit Go.Joins
set_option linter.unusedVariables false

theorem own : ownKnob Try.prog.godebug = none := by kernel_rfl
theorem laidOut : laidOutB Try.prog = true := by kernel_rfl

set_option maxHeartbeats 4000000 in
theorem walk (w : World) (a : Int) (wa : (Lit.int .i64 a).wf = true) (Ab : Option Addr) (lb cb : Nat) (zb : List Int) (hb : IsRow .i64 w Ab lb cb zb) (d : Int) (wd : (Lit.int .i64 d).wf = true) : Calls Try.prog 12 #[.int .i64 a, .slice Ab lb cb, .int .i64 d] w fun e w' => e = .returned (.bool true) ∧ Below w.heap.size w w' := by
  have HWF := Lib.hid (show -9223372036854775808 ≤ d ∧ d ≤ 9223372036854775807 by have h := wd; simp [Lit.wf, IntKind.min, IntKind.max, IntKind.signed, IntKind.bits] at h; omega)
  by_cases bigb : 1048576 < (lb : Int)
  · go_enter Try.func12, Try.ntmps12
    go_wp2_with fail
    go_ret
    exact ⟨rfl, Below.refl _ _⟩
  have sb := hb.slice
  have mb : lb ≤ 1048576 := by omega
  clear hb
  generalize zb.take lb = xsb at sb
  obtain rfl : xsb.length = lb := sb.len
  have bel : Below w.heap.size w w := Below.refl _ _
  go_enter Try.func12, Try.ntmps12
  go_wp2_with fail
  refine (c_laws_toIntS _ _ _ _ _ _ sb (by omega) mb).mono ?_
  rintro e w1 ⟨rfl, tb, hb⟩
  have q1 := hb.size
  replace bel := below_next bel hb
  replace sb := sb.below_le hb (by omega)
  clear hb
  have lt_tb := tb.lt
  have ge_tb := tb.ge
  go_wp2_with fail
  refine (c_spec_PolyConsistent _ _ _ _ _ _ _ tb.slice (Nat.le_refl _) (by unfold maxLen; omega) (Nat.le_refl _) HWF.out.2).mono ?_
  rintro e w2 ⟨rfl, hb⟩
  have q2 := hb.size
  replace bel := below_next bel hb
  replace sb := sb.below_le hb (by omega)
  replace tb := tb.below hb
  clear hb
  clear tb lt_tb ge_tb
  go_wp2_with fail
  refine (c_laws_toIntS _ _ _ _ _ _ sb (by omega) mb).mono ?_
  rintro e w3 ⟨rfl, xb, hb⟩
  have q3 := hb.size
  replace bel := below_next bel hb
  replace sb := sb.below_le hb (by omega)
  clear hb
  have lt_xb := xb.lt
  have ge_xb := xb.ge
  go_wp2_with fail
  refine (c_impl_PolyConsistent _ _ _ _ _ _ _ xb.slice (Nat.le_refl _) (by unfold maxLen; omega) (Nat.le_refl _)).mono ?_
  rintro e w4 ⟨rfl, hb⟩
  have q4 := hb.size
  replace bel := below_next bel hb
  replace sb := sb.below_le hb (by omega)
  replace xb := xb.below hb
  clear hb
  go_wp2_with fail
  refine (c_laws_toIntS _ _ _ _ _ _ sb (by omega) mb).mono ?_
  rintro e w5 ⟨rfl, ub, hb⟩
  have q5 := hb.size
  replace bel := below_next bel hb
  replace sb := sb.below_le hb (by omega)
  replace xb := xb.below hb
  clear hb
  have lt_ub := ub.lt
  have ge_ub := ub.ge
  go_wp2_with fail
  refine (c_laws_eqIntS _ _ _ _ _ _ _ _ _ xb.slice ub.slice (Nat.le_refl _) (Nat.le_refl _) (by unfold maxLen; omega)).mono ?_
  rintro e w6 ⟨rfl, hb⟩
  have q6 := hb.size
  replace bel := below_next bel hb
  replace sb := sb.below_le hb (by omega)
  replace xb := xb.below hb
  replace ub := ub.below hb
  clear hb
  clear ub lt_ub ge_ub
  go_wp2_with fail
  go_ret
  exact ⟨rfl, bel⟩

set_option maxRecDepth 100000 in
theorem lifted (os : Os) (started : os.Started) (H : Type) (enc : TypeId × Value → H) :
    ReturnsInHanded {} Try.checked os 12 .any (Rows.fnExactPolyConsistentSpec.pre6 enc Try.prog Try.f12 Rows.fnExactPolyConsistentRow.domain false) (Rows.fnExactPolyConsistentSpec.post enc Try.prog Try.f12 false true false false) := by
  refine returnsInHanded_of_change (C := Try.checked) own started (by kernel_rfl) Try.func12
    (ChangeSpec.witness6 (enc := enc) (C := Try.checked) false ⟨#[], #[.int .i64 0, .slice none 0 0, .int .i64 0], []⟩ 8 (by kernel_rfl) (by kernel_rfl) (by kernel_rfl) (by kernel_rfl)) ?_
  intro W base args ds gs before hval0 hW hcnd _
  have hval : ∀ (j : Nat) t v, Try.f12.params[j]? = some t → args[j]? = some v → Value.okWide Try.prog W .any base t v := hval0
  have hW' := hW
  obtain ⟨p, q, hA0, hV, rfl, hfz, hnd⟩ := hW
  have hA : DataW.TrodAll enc Try.prog W 0 (fun _ => true) true Try.f12.params.toList args.toList ds p := hA0
  rw [Try.params12] at hA hval
  obtain ⟨v0, vs0, d0, ds0, p0, q0, hargs, rfl, rfl, h0, r0⟩ := trodAll_cons hA
  obtain ⟨v1, vs1, d1, ds1, p1, q1, rfl, rfl, rfl, h1, r1⟩ := trodAll_cons r0
  obtain ⟨v2, vs2, d2, ds2, p2, q2, rfl, rfl, rfl, h2, r2⟩ := trodAll_cons r1
  obtain ⟨rfl, rfl, rfl⟩ := trodAll_nil r2
  obtain rfl : args = #[v0, v1, v2] := by cases args; simp_all
  obtain ⟨rfl, rfl⟩ := trodVars_none hV
  obtain ⟨a0, rfl, rfl, rfl, w0⟩ := open_int Try.underlying3 (hval 0 3 v0 rfl rfl) h0
  obtain ⟨a1, len1, cap1, rfl⟩ := okWide_slice Try.underlying22 (hval 1 22 v1 rfl rfl)
  have k1 := h1
  have lt1 : ∀ x ∈ p1, x.block < W.heap.size := by obtain ⟨m, hm⟩ := k1; exact DataW.trod_lt m _ _ _ hm
  obtain ⟨z1, w1⟩ : ∃ zs, IsRow .i64 W a1 len1 cap1 zs := by
    obtain ⟨fuel, hf⟩ := h1
    rcases open_ints Try.underlying22 Try.underlying3 (by kernel_rfl) hf with ⟨hcs, _⟩ | ⟨x, l, c, zs, hcs, _, hl, hm, hz, _, hcell, hwz⟩
    · simp [Value.cells] at hcs
      obtain ⟨rfl, rfl, rfl⟩ := hcs
      exact ⟨[], .inl ⟨rfl, rfl, rfl, rfl⟩⟩
    · simp [Value.cells] at hcs
      obtain ⟨rfl, rfl, rfl⟩ := hcs
      exact ⟨zs, .inr ⟨_, rfl, hl, hm, by simpa using hz, hcell, hwz⟩⟩
  obtain ⟨a2, rfl, rfl, rfl, w2⟩ := open_int Try.underlying3 (hval 2 3 v2 rfl rfl) h2
  clear hA0 hval0
  simp only [List.append_nil] at hW'
  refine (walk (w := W) a0 w0 a1 len1 cap1 z1 w1 a2 w2).mono fun e W' ⟨he, bel⟩ => ?_
  subst he
  exact ⟨_, rfl, _, _, _, [], _, [], hW', trodAll_mk1 (shut_bool Try.underlying4 _), (trodAll_cons_mk (shut_int Try.underlying3 w0) (trodAll_cons_mk (Below.trod laidOut (by kernel_rfl) (of_decide_eq_true (by kernel_rfl)) k1 bel lt1) (trodAll_cons_mk (shut_int Try.underlying3 w2) trodAll_mk0))), rfl, bel.frame _, fun h => by cases h⟩

theorem over : Rows.fnExactPolyConsistentRow.holds Try.pinned (OpenSpec.ofChange Rows.fnExactPolyConsistentSpec) :=
  OpenClaim.holds_of_wide 12 Try.f12 rfl rfl rfl rfl rfl rfl rfl ⟨rfl, rfl, rfl, rfl, rfl⟩ rfl rfl rfl rfl rfl (by kernel_rfl) Try.func12 (by kernel_rfl)
    (of_decide_eq_true (by kernel_rfl)) (by unfold Func.isWrapper; first | (rw [if_pos (by decide +kernel)]; kernel_rfl) | (rw [if_neg (by decide +kernel)]; exact ⟨rfl, rfl⟩))
    (fun os started H enc _ => lifted os started H enc)

/-- The statement. -/
theorem proved : Rows.FnExactPolyConsistentSaid := over
end Go.Proofs.Ytagocjdodgolkaa.lawFnExactPolyConsistent
