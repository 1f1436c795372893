/- The statement FnClamped: a clamped number is in the range. It has no conditions. -/
import Derived.Test.YtdmaklgpgdcnpaaRows
import Derived.WalkKit
import Derived.ProofKit
import Derived.OpenShut
import Derived.ChangeOld
import Derived.Below
import Derived.Lib.SmallJoins
import Derived.Test.YtdmaklgpgdcnpaaDrawCode
import Derived.Test.YtdmaklgpgdcnpaaWords
import Derived.Test.YtdmaklgpgdcnpaaDrawClamp
namespace Go.Proofs.Ytdmaklgpgdcnpaa.lawFnClamped
open Go.ChangeShapes Go.WideShapes Go.ChangeAt Go.RowKit Go.Joins
set_option linter.unusedVariables false

theorem own : ownKnob Try.prog.godebug = none := by kernel_rfl
theorem laidOut : laidOutB Try.prog = true := by kernel_rfl

set_option maxHeartbeats 2000000 in
theorem walk (w : World) (A : Option Addr) (len cap : Nat) (z : List Int) (h : IsRow .u8 w A len cap z) : Calls Try.prog 7 #[.slice A len cap] w fun e w' => e = .returned (.bool true) ∧ Below w.heap.size w w' := by
  obtain ⟨hU, hA⟩ := h.code
  clear h
  by_cases hbig : 1048576 < (len : Int)
  · go_enter Try.func7, Try.ntmps7
    go_wp2_with (go_at_call 27; (with_reducible refine (c_laws_big _ _ _ _).mono ?_); rintro e w' ⟨rfl, rfl⟩)
    go_ret
    exact ⟨rfl, Below.refl _ _⟩
  have hm : len ≤ 1048576 := by omega
  have bel : Below w.heap.size w w := Below.refl _ _
  have HA := Lib.hid hA
  have HU := Lib.hid hU
  clear hA hU
  have hq0 : w.heap.size ≤ w.heap.size := Nat.le_refl _
  go_enter Try.func7, Try.ntmps7
  go_wp2_with (go_at_call 27; (with_reducible refine (c_laws_big _ _ _ _).mono ?_); rintro e w' ⟨rfl, rfl⟩)
  refine (c_spec_DrawClamp _ _ _ _ _ HU.out (by omega) (by omega)).mono ?_
  rintro e w1 ⟨n, a, b, rfl, hb⟩
  replace bel := below_next bel hb
  clear HU HA hb
  have hk : clampF 7 3 5 = 5 := by decide
  have hc1 : b < a → clampF n a b = a := fun h => by unfold clampF; rw [if_pos (.inl h)]
  have hc2 : ¬ b < a → n < a → clampF n a b = a := fun h h2 => by unfold clampF; rw [if_pos (.inr h2)]
  have hc3 : ¬ b < a → ¬ n < a → b < n → clampF n a b = b := fun h h2 h3 => by unfold clampF; rw [if_neg (by omega), if_pos h3]
  have hc4 : ¬ b < a → ¬ n < a → ¬ b < n → clampF n a b = n := fun h h2 h3 => by unfold clampF; rw [if_neg (by omega), if_neg h3]
  have hc5 : ∀ x, ¬ b < a → a ≤ x → x ≤ b → clampF x a b = x := fun x h h2 h3 => by unfold clampF; rw [if_neg (by omega), if_neg (by omega)]
  go_wp2_with fail
  refine (c_impl_Clamp _ _ _ _).mono ?_
  rintro e w' ⟨rfl, rfl⟩
  by_cases h : b < a
  · rw [hc1 (by omega)]
    clear hc1 hc2 hc3 hc4 hc5
    go_wp2_with fail
    refine (c_impl_Clamp _ _ _ _).mono ?_
    rintro e w' ⟨rfl, rfl⟩
    rw [hk]
    go_wp2_with fail
    go_ret
    exact ⟨rfl, bel⟩
  · by_cases h2 : n < a
    · rw [hc2 (by omega) (by omega)]
      have he := hc5 a (by omega) (by omega) (by omega)
      have t1 : a ≤ b := by omega
      clear hc1 hc2 hc3 hc4 hc5
      go_wp2_with fail
      refine (c_impl_Clamp _ _ _ _).mono ?_
      rintro e w' ⟨rfl, rfl⟩
      rw [he]
      go_wp2_with fail
      refine (c_impl_Clamp _ _ _ _).mono ?_
      rintro e w' ⟨rfl, rfl⟩
      rw [hk]
      go_wp2_with fail
      go_ret
      exact ⟨rfl, bel⟩
    · by_cases h3 : b < n
      · rw [hc3 (by omega) (by omega) (by omega)]
        have he := hc5 b (by omega) (by omega) (by omega)
        have t1 : a ≤ b := by omega
        clear hc1 hc2 hc3 hc4 hc5
        go_wp2_with fail
        refine (c_impl_Clamp _ _ _ _).mono ?_
        rintro e w' ⟨rfl, rfl⟩
        rw [he]
        go_wp2_with fail
        refine (c_impl_Clamp _ _ _ _).mono ?_
        rintro e w' ⟨rfl, rfl⟩
        rw [hk]
        go_wp2_with fail
        go_ret
        exact ⟨rfl, bel⟩
      · rw [hc4 (by omega) (by omega) (by omega)]
        have he := hc5 n (by omega) (by omega) (by omega)
        have t1 : a ≤ n := by omega
        have t2 : n ≤ b := by omega
        clear hc1 hc2 hc3 hc4 hc5
        go_wp2_with fail
        refine (c_impl_Clamp _ _ _ _).mono ?_
        rintro e w' ⟨rfl, rfl⟩
        rw [he]
        go_wp2_with fail
        refine (c_impl_Clamp _ _ _ _).mono ?_
        rintro e w' ⟨rfl, rfl⟩
        rw [hk]
        go_wp2_with fail
        go_ret
        exact ⟨rfl, bel⟩

set_option maxRecDepth 100000 in
theorem lifted (os : Os) (started : os.Started) (H : Type) (enc : TypeId × Value → H) :
    ReturnsInHanded {} Try.checked os 7 .any (Rows.fnClampedSpec.pre6 enc Try.prog Try.f7 Rows.fnClampedRow.domain false) (Rows.fnClampedSpec.post enc Try.prog Try.f7 false true false false) := by
  refine returnsInHanded_of_change (C := Try.checked) own started (by kernel_rfl) Try.func7
    (ChangeSpec.witness6 (enc := enc) (C := Try.checked) false ⟨#[], #[.slice none 0 0], []⟩ 8 (by kernel_rfl) (by kernel_rfl) (by kernel_rfl) (by kernel_rfl)) ?_
  intro W base args ds gs before hval0 hW hcnd _
  have hval : ∀ (j : Nat) t v, Try.f7.params[j]? = some t → args[j]? = some v → Value.okWide Try.prog W .any base t v := hval0
  have hW' := hW
  obtain ⟨p, q, hA0, hV, rfl, hfz, hnd⟩ := hW
  have hA : DataW.TrodAll enc Try.prog W 0 (fun _ => true) true Try.f7.params.toList args.toList ds p := hA0
  rw [Try.params7] at hA hval
  obtain ⟨v0, vs0, d0, ds0, p0, q0, hargs, rfl, rfl, h0, r0⟩ := trodAll_cons hA
  obtain ⟨rfl, rfl, rfl⟩ := trodAll_nil r0
  obtain rfl : args = #[v0] := by cases args; simp_all
  obtain ⟨rfl, rfl⟩ := trodVars_none hV
  obtain ⟨a0, len0, cap0, rfl⟩ := okWide_slice Try.underlying39 (hval 0 39 v0 rfl rfl)
  have k0 := h0
  have lt0 : ∀ x ∈ p0, x.block < W.heap.size := by obtain ⟨m, hm⟩ := k0; exact DataW.trod_lt m _ _ _ hm
  obtain ⟨z0, w0⟩ : ∃ zs, IsRow .u8 W a0 len0 cap0 zs := by
    obtain ⟨fuel, hf⟩ := h0
    rcases open_ints Try.underlying39 Try.underlying5 (by kernel_rfl) hf with ⟨hcs, _⟩ | ⟨x, l, c, zs, hcs, _, hl, hm, hz, _, hcell, hwz⟩
    · simp [Value.cells] at hcs
      obtain ⟨rfl, rfl, rfl⟩ := hcs
      exact ⟨[], .inl ⟨rfl, rfl, rfl, rfl⟩⟩
    · simp [Value.cells] at hcs
      obtain ⟨rfl, rfl, rfl⟩ := hcs
      exact ⟨zs, .inr ⟨_, rfl, hl, hm, by simpa using hz, hcell, hwz⟩⟩
  clear hA0 hval0
  simp only [List.append_nil] at hW'
  refine (walk (w := W) a0 len0 cap0 z0 w0).mono fun e W' ⟨he, bel⟩ => ?_
  subst he
  exact ⟨_, rfl, _, _, _, [], _, [], hW', trodAll_mk1 (shut_bool Try.underlying4 _), (trodAll_cons_mk (Below.trod laidOut (by kernel_rfl) (of_decide_eq_true (by kernel_rfl)) k0 bel lt0) trodAll_mk0), rfl, bel.frame _, fun h => by cases h⟩

theorem over : Rows.fnClampedRow.holds Try.pinned (OpenSpec.ofChange Rows.fnClampedSpec) :=
  OpenClaim.holds_of_wide 7 Try.f7 rfl rfl rfl rfl rfl rfl rfl ⟨rfl, rfl, rfl, rfl, rfl⟩ rfl rfl rfl rfl rfl (by kernel_rfl) Try.func7 (by kernel_rfl)
    (of_decide_eq_true (by kernel_rfl)) (by unfold Func.isWrapper; first | (rw [if_pos (by decide +kernel)]; kernel_rfl) | (rw [if_neg (by decide +kernel)]; exact ⟨rfl, rfl⟩))
    (fun os started H enc _ => lifted os started H enc)

/-- The statement. -/
theorem proved : Rows.FnClampedSaid := over
end Go.Proofs.Ytdmaklgpgdcnpaa.lawFnClamped
