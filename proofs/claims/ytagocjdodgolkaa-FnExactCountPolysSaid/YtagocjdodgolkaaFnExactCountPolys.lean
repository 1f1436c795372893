/- The statement FnExactCountPolys: the program's function and the reference's return the same at all arguments, and the program leaves its arguments alone. It has no conditions. -/
import Derived.Test.YtagocjdodgolkaaRows
import Derived.WalkKit
import Derived.ProofKit
import Derived.OpenShut
import Derived.ChangeOld
import Derived.Below
import Derived.Lib.SmallJoins
import Derived.Test.YtagocjdodgolkaaMem
import Derived.Test.YtagocjdodgolkaaList
import Derived.Test.YtagocjdodgolkaaCountPoly
import Derived.Test.YtagocjdodgolkaaCountPolyRef
namespace Go.Proofs.Ytagocjdodgolkaa.lawFnExactCountPolys
open Go.ChangeShapes Go.WideShapes Go.ChangeAt Go.RowKit Go.Joins
set_option linter.unusedVariables false

theorem own : ownKnob Try.prog.godebug = none := by kernel_rfl
theorem laidOut : laidOutB Try.prog = true := by kernel_rfl

set_option maxHeartbeats 4000000 in
theorem walk (w : World) (a : Int) (wa : (Lit.int .i64 a).wf = true) (x : Int) (wx : (Lit.int .i64 x).wf = true) (k : Int) (wk : (Lit.int .i64 k).wf = true) (Ab : Option Addr) (lb cb : Nat) (zb : List Int) (hb : IsRow .i64 w Ab lb cb zb) (Ad : Option Addr) (ld cd : Nat) (zd : List Int) (hd : IsRow .i64 w Ad ld cd zd) : Calls Try.prog 10 #[.int .i64 a, .int .i64 x, .int .i64 k, .slice Ab lb cb, .slice Ad ld cd] w fun e w' => e = .returned (.bool true) ∧ Below w.heap.size w w' := by
  by_cases bigb : 1048576 < (lb : Int)
  · go_enter Try.func10, Try.ntmps10
    go_wp2_with fail
    go_ret
    exact ⟨rfl, Below.refl _ _⟩
  by_cases bigd : 1048576 < (ld : Int)
  · go_enter Try.func10, Try.ntmps10
    go_wp2_with fail
    go_ret
    exact ⟨rfl, Below.refl _ _⟩
  have sb := hb.slice
  have mb : lb ≤ 1048576 := by omega
  clear hb
  generalize zb.take lb = xsb at sb
  obtain rfl : xsb.length = lb := sb.len
  have sd := hd.slice
  have md : ld ≤ 1048576 := by omega
  clear hd
  generalize zd.take ld = xsd at sd
  obtain rfl : xsd.length = ld := sd.len
  have bel : Below w.heap.size w w := Below.refl _ _
  go_enter Try.func10, Try.ntmps10
  go_wp2_with fail
  refine (c_laws_toIntS _ _ _ _ _ _ sb (by omega) mb).mono ?_
  rintro e w1 ⟨rfl, tb, hb⟩
  have q1 := hb.size
  replace bel := below_next bel hb
  replace sb := sb.below_le hb (by omega)
  replace sd := sd.below_le hb (by omega)
  clear hb
  have lt_tb := tb.lt
  have ge_tb := tb.ge
  go_wp2_with fail
  refine (c_laws_toIntS _ _ _ _ _ _ sd (by omega) md).mono ?_
  rintro e w2 ⟨rfl, td, hb⟩
  have q2 := hb.size
  replace bel := below_next bel hb
  replace sb := sb.below_le hb (by omega)
  replace sd := sd.below_le hb (by omega)
  replace tb := tb.below hb
  clear hb
  have lt_td := td.lt
  have ge_td := td.ge
  go_wp2_with fail
  refine (c_spec_CountPolys _ _ _ _ _ _ _ _ _ _ _ _ tb.slice (SliceI.more td.slice (Nat.le_refl _)) (Nat.le_refl _) (Nat.le_refl _) (by unfold maxLen; omega) (by unfold maxLen; omega)).mono ?_
  rintro e w3 ⟨rfl, hb⟩
  have q3 := hb.size
  replace bel := below_next bel hb
  replace sb := sb.below_le hb (by omega)
  replace sd := sd.below_le hb (by omega)
  replace tb := tb.below hb
  replace td := td.below hb
  clear hb
  clear tb lt_tb ge_tb
  clear td lt_td ge_td
  go_wp2_with fail
  refine (c_laws_toIntS _ _ _ _ _ _ sb (by omega) mb).mono ?_
  rintro e w4 ⟨rfl, xb, hb⟩
  have q4 := hb.size
  replace bel := below_next bel hb
  replace sb := sb.below_le hb (by omega)
  replace sd := sd.below_le hb (by omega)
  clear hb
  have lt_xb := xb.lt
  have ge_xb := xb.ge
  go_wp2_with fail
  refine (c_laws_toIntS _ _ _ _ _ _ sd (by omega) md).mono ?_
  rintro e w5 ⟨rfl, xd, hb⟩
  have q5 := hb.size
  replace bel := below_next bel hb
  replace sb := sb.below_le hb (by omega)
  replace sd := sd.below_le hb (by omega)
  replace xb := xb.below hb
  clear hb
  have lt_xd := xd.lt
  have ge_xd := xd.ge
  go_wp2_with fail
  refine (c_impl_CountPolys _ _ _ _ _ _ _ _ _ _ _ _ xb.slice (SliceI.more xd.slice (Nat.le_refl _)) (Nat.le_refl _) (Nat.le_refl _) (by unfold maxLen; omega) (by unfold maxLen; omega)).mono ?_
  rintro e w6 ⟨rfl, hb⟩
  have q6 := hb.size
  replace bel := below_next bel hb
  replace sb := sb.below_le hb (by omega)
  replace sd := sd.below_le hb (by omega)
  replace xb := xb.below hb
  replace xd := xd.below hb
  clear hb
  go_wp2_with fail
  refine (c_laws_toIntS _ _ _ _ _ _ sb (by omega) mb).mono ?_
  rintro e w7 ⟨rfl, ub, hb⟩
  have q7 := hb.size
  replace bel := below_next bel hb
  replace sb := sb.below_le hb (by omega)
  replace sd := sd.below_le hb (by omega)
  replace xb := xb.below hb
  replace xd := xd.below hb
  clear hb
  have lt_ub := ub.lt
  have ge_ub := ub.ge
  go_wp2_with fail
  refine (c_laws_eqIntS _ _ _ _ _ _ _ _ _ xb.slice ub.slice (Nat.le_refl _) (Nat.le_refl _) (by unfold maxLen; omega)).mono ?_
  rintro e w8 ⟨rfl, hb⟩
  have q8 := hb.size
  replace bel := below_next bel hb
  replace sb := sb.below_le hb (by omega)
  replace sd := sd.below_le hb (by omega)
  replace xb := xb.below hb
  replace xd := xd.below hb
  replace ub := ub.below hb
  clear hb
  clear ub lt_ub ge_ub
  go_wp2_with fail
  refine (c_laws_toIntS _ _ _ _ _ _ sd (by omega) md).mono ?_
  rintro e w9 ⟨rfl, ud, hb⟩
  have q9 := hb.size
  replace bel := below_next bel hb
  replace sb := sb.below_le hb (by omega)
  replace sd := sd.below_le hb (by omega)
  replace xb := xb.below hb
  replace xd := xd.below hb
  clear hb
  have lt_ud := ud.lt
  have ge_ud := ud.ge
  go_wp2_with fail
  refine (c_laws_eqIntS _ _ _ _ _ _ _ _ _ xd.slice ud.slice (Nat.le_refl _) (Nat.le_refl _) (by unfold maxLen; omega)).mono ?_
  rintro e w10 ⟨rfl, hb⟩
  have q10 := hb.size
  replace bel := below_next bel hb
  replace sb := sb.below_le hb (by omega)
  replace sd := sd.below_le hb (by omega)
  replace xb := xb.below hb
  replace xd := xd.below hb
  replace ud := ud.below hb
  clear hb
  clear ud lt_ud ge_ud
  go_wp2_with fail
  go_ret
  exact ⟨rfl, bel⟩

set_option maxRecDepth 100000 in
theorem lifted (os : Os) (started : os.Started) (H : Type) (enc : TypeId × Value → H) :
    ReturnsInHanded {} Try.checked os 10 .any (Rows.fnExactCountPolysSpec.pre6 enc Try.prog Try.f10 Rows.fnExactCountPolysRow.domain false) (Rows.fnExactCountPolysSpec.post enc Try.prog Try.f10 false true false false) := by
  refine returnsInHanded_of_change (C := Try.checked) own started (by kernel_rfl) Try.func10
    (ChangeSpec.witness6 (enc := enc) (C := Try.checked) false ⟨#[], #[.int .i64 0, .int .i64 0, .int .i64 0, .slice none 0 0, .slice none 0 0], []⟩ 8 (by kernel_rfl) (by kernel_rfl) (by kernel_rfl) (by kernel_rfl)) ?_
  intro W base args ds gs before hval0 hW hcnd _
  have hval : ∀ (j : Nat) t v, Try.f10.params[j]? = some t → args[j]? = some v → Value.okWide Try.prog W .any base t v := hval0
  have hW' := hW
  obtain ⟨p, q, hA0, hV, rfl, hfz, hnd⟩ := hW
  have hA : DataW.TrodAll enc Try.prog W 0 (fun _ => true) true Try.f10.params.toList args.toList ds p := hA0
  rw [Try.params10] at hA hval
  obtain ⟨v0, vs0, d0, ds0, p0, q0, hargs, rfl, rfl, h0, r0⟩ := trodAll_cons hA
  obtain ⟨v1, vs1, d1, ds1, p1, q1, rfl, rfl, rfl, h1, r1⟩ := trodAll_cons r0
  obtain ⟨v2, vs2, d2, ds2, p2, q2, rfl, rfl, rfl, h2, r2⟩ := trodAll_cons r1
  obtain ⟨v3, vs3, d3, ds3, p3, q3, rfl, rfl, rfl, h3, r3⟩ := trodAll_cons r2
  obtain ⟨v4, vs4, d4, ds4, p4, q4, rfl, rfl, rfl, h4, r4⟩ := trodAll_cons r3
  obtain ⟨rfl, rfl, rfl⟩ := trodAll_nil r4
  obtain rfl : args = #[v0, v1, v2, v3, v4] := by cases args; simp_all
  obtain ⟨rfl, rfl⟩ := trodVars_none hV
  obtain ⟨a0, rfl, rfl, rfl, w0⟩ := open_int Try.underlying3 (hval 0 3 v0 rfl rfl) h0
  obtain ⟨a1, rfl, rfl, rfl, w1⟩ := open_int Try.underlying3 (hval 1 3 v1 rfl rfl) h1
  obtain ⟨a2, rfl, rfl, rfl, w2⟩ := open_int Try.underlying3 (hval 2 3 v2 rfl rfl) h2
  obtain ⟨a3, len3, cap3, rfl⟩ := okWide_slice Try.underlying22 (hval 3 22 v3 rfl rfl)
  have k3 := h3
  have lt3 : ∀ x ∈ p3, x.block < W.heap.size := by obtain ⟨m, hm⟩ := k3; exact DataW.trod_lt m _ _ _ hm
  obtain ⟨z3, w3⟩ : ∃ zs, IsRow .i64 W a3 len3 cap3 zs := by
    obtain ⟨fuel, hf⟩ := h3
    rcases open_ints Try.underlying22 Try.underlying3 (by kernel_rfl) hf with ⟨hcs, _⟩ | ⟨x, l, c, zs, hcs, _, hl, hm, hz, _, hcell, hwz⟩
    · simp [Value.cells] at hcs
      obtain ⟨rfl, rfl, rfl⟩ := hcs
      exact ⟨[], .inl ⟨rfl, rfl, rfl, rfl⟩⟩
    · simp [Value.cells] at hcs
      obtain ⟨rfl, rfl, rfl⟩ := hcs
      exact ⟨zs, .inr ⟨_, rfl, hl, hm, by simpa using hz, hcell, hwz⟩⟩
  obtain ⟨a4, len4, cap4, rfl⟩ := okWide_slice Try.underlying22 (hval 4 22 v4 rfl rfl)
  have k4 := h4
  have lt4 : ∀ x ∈ p4, x.block < W.heap.size := by obtain ⟨m, hm⟩ := k4; exact DataW.trod_lt m _ _ _ hm
  obtain ⟨z4, w4⟩ : ∃ zs, IsRow .i64 W a4 len4 cap4 zs := by
    obtain ⟨fuel, hf⟩ := h4
    rcases open_ints Try.underlying22 Try.underlying3 (by kernel_rfl) hf with ⟨hcs, _⟩ | ⟨x, l, c, zs, hcs, _, hl, hm, hz, _, hcell, hwz⟩
    · simp [Value.cells] at hcs
      obtain ⟨rfl, rfl, rfl⟩ := hcs
      exact ⟨[], .inl ⟨rfl, rfl, rfl, rfl⟩⟩
    · simp [Value.cells] at hcs
      obtain ⟨rfl, rfl, rfl⟩ := hcs
      exact ⟨zs, .inr ⟨_, rfl, hl, hm, by simpa using hz, hcell, hwz⟩⟩
  clear hA0 hval0
  simp only [List.append_nil] at hW'
  refine (walk (w := W) a0 w0 a1 w1 a2 w2 a3 len3 cap3 z3 w3 a4 len4 cap4 z4 w4).mono fun e W' ⟨he, bel⟩ => ?_
  subst he
  exact ⟨_, rfl, _, _, _, [], _, [], hW', trodAll_mk1 (shut_bool Try.underlying4 _), (trodAll_cons_mk (shut_int Try.underlying3 w0) (trodAll_cons_mk (shut_int Try.underlying3 w1) (trodAll_cons_mk (shut_int Try.underlying3 w2) (trodAll_cons_mk (Below.trod laidOut (by kernel_rfl) (of_decide_eq_true (by kernel_rfl)) k3 bel lt3) (trodAll_cons_mk (Below.trod laidOut (by kernel_rfl) (of_decide_eq_true (by kernel_rfl)) k4 bel lt4) trodAll_mk0))))), rfl, bel.frame _, fun h => by cases h⟩

theorem over : Rows.fnExactCountPolysRow.holds Try.pinned (OpenSpec.ofChange Rows.fnExactCountPolysSpec) :=
  OpenClaim.holds_of_wide 10 Try.f10 rfl rfl rfl rfl rfl rfl rfl ⟨rfl, rfl, rfl, rfl, rfl⟩ rfl rfl rfl rfl rfl (by kernel_rfl) Try.func10 (by kernel_rfl)
    (of_decide_eq_true (by kernel_rfl)) (by unfold Func.isWrapper; first | (rw [if_pos (by decide +kernel)]; kernel_rfl) | (rw [if_neg (by decide +kernel)]; exact ⟨rfl, rfl⟩))
    (fun os started H enc _ => lifted os started H enc)

/-- The statement. -/
theorem proved : Rows.FnExactCountPolysSaid := over
end Go.Proofs.Ytagocjdodgolkaa.lawFnExactCountPolys
