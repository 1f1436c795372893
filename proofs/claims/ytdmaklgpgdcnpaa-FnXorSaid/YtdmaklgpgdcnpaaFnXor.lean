/- The statement FnXor: the exclusive or is its own inverse. It has no conditions. -/
import Derived.Test.YtdmaklgpgdcnpaaRows
import Derived.WalkKit
import Derived.ProofKit
import Derived.OpenShut
import Derived.ChangeOld
import Derived.Below
import Derived.Lib.SmallJoins
import Derived.Test.YtdmaklgpgdcnpaaDrawCode
import Derived.Test.YtdmaklgpgdcnpaaWords
namespace Go.Proofs.Ytdmaklgpgdcnpaa.lawFnXor
open Go.ChangeShapes Go.WideShapes Go.ChangeAt Go.RowKit Go.Joins
set_option linter.unusedVariables false

theorem own : ownKnob Try.prog.godebug = none := by kernel_rfl
theorem laidOut : laidOutB Try.prog = true := by kernel_rfl

theorem nat_xor_again (m n : Nat) : (m ^^^ n) ^^^ n = m := by rw [Nat.xor_assoc, Nat.xor_self, Nat.xor_zero]
theorem word_of {a : Int} (a0 : 0 ≤ a) (a1 : a ≤ 4294967295) : isWord a = true := isWord_iff.2 ⟨a0, a1⟩
theorem xorW_eq {a b : Int} (a0 : 0 ≤ a) (a1 : a ≤ 4294967295) (b0 : 0 ≤ b) (b1 : b ≤ 4294967295) : xorW a b = xorN a b := by
  unfold xorW; rw [if_pos ⟨word_of a0 a1, word_of b0 b1⟩]
theorem xorW_again {a b : Int} (a0 : 0 ≤ a) (a1 : a ≤ 4294967295) (b0 : 0 ≤ b) (b1 : b ≤ 4294967295) : xorW (xorW a b) b = a := by
  have h := xorN_bounds a0 a1 b0 b1
  rw [xorW_eq a0 a1 b0 b1, xorW_eq h.1 h.2 b0 b1]
  unfold xorN
  rw [Int.toNat_natCast, nat_xor_again, Int.toNat_of_nonneg a0]
theorem xorW_comm (a b : Int) : xorW a b = xorW b a := by
  unfold xorW xorN
  rw [Nat.xor_comm]
  by_cases h : isWord a = true ∧ isWord b = true
  · rw [if_pos h, if_pos h.symm]
  · rw [if_neg h, if_neg (fun k => h k.symm)]
theorem lowBit_01 (a : Int) : 0 ≤ lowBit a ∧ lowBit a ≤ 1 := by unfold lowBit; split <;> omega
theorem lowBit_xor {a b : Int} (a0 : 0 ≤ a) (a1 : a ≤ 4294967295) (b0 : 0 ≤ b) (b1 : b ≤ 4294967295) : lowBit (xorW a b) = (lowBit a + lowBit b) % 2 := by
  have h := xorN_bounds a0 a1 b0 b1
  rw [xorW_eq a0 a1 b0 b1]
  unfold lowBit
  rw [if_pos (word_of h.1 h.2), if_pos (word_of a0 a1), if_pos (word_of b0 b1)]
  unfold xorN
  have e : (a.toNat ^^^ b.toNat) % 2 = (a.toNat % 2 + b.toNat % 2) % 2 := by
    have := Nat.xor_mod_two_pow (a := a.toNat) (b := b.toNat) (n := 1)
    simp only [Nat.pow_one] at this
    rw [this]
    rcases Nat.mod_two_eq_zero_or_one a.toNat with h1 | h1 <;> rcases Nat.mod_two_eq_zero_or_one b.toNat with h2 | h2 <;> rw [h1, h2] <;> decide
  omega

set_option maxHeartbeats 2000000 in
theorem walk (w : World) (A : Option Addr) (len cap : Nat) (z : List Int) (h : IsRow .u8 w A len cap z) : Calls Try.prog 6 #[.slice A len cap] w fun e w' => e = .returned (.bool true) ∧ Below w.heap.size w w' := by
  obtain ⟨hU, hA⟩ := h.code
  clear h
  by_cases hbig : 1048576 < (len : Int)
  · go_enter Try.func6, Try.ntmps6
    go_wp2_with (go_at_call 27; (with_reducible refine (c_laws_big _ _ _ _).mono ?_); rintro e w' ⟨rfl, rfl⟩)
    go_ret
    exact ⟨rfl, Below.refl _ _⟩
  have hm : len ≤ 1048576 := by omega
  have bel : Below w.heap.size w w := Below.refl _ _
  have HA := Lib.hid hA
  have HU := Lib.hid hU
  clear hA hU
  have hq0 : w.heap.size ≤ w.heap.size := Nat.le_refl _
  go_enter Try.func6, Try.ntmps6
  go_wp2_with (go_at_call 27; (with_reducible refine (c_laws_big _ _ _ _).mono ?_); rintro e w' ⟨rfl, rfl⟩)
  refine (c_spec_DrawWord _ _ _ _ _ HU.out (by omega) (by omega)).mono ?_
  rintro e w1 ⟨a, ⟨a0, a1⟩, rfl, hb⟩
  have hq1 := hb.size
  replace bel := below_next bel hb
  have HU1 := Lib.hid (HU.out.below' hb (by omega))
  clear HU hb
  have HU := HU1
  clear HU1
  go_wp2_with (at_builtin; refine wpList_append_code _ rfl (.tmp 10) (.tmp 11) rfl w.heap.size w1.heap.size 1 3 (by omega) rfl (World.ownsRow_lit w1 #[.int .u8 3] 1 (by omega) (by simp [maxLen]) rfl) w.heap.size _ len _ rfl (HU.out.alloc (by omega)) HA.out hm (by simp; omega) ?_; intro A' c' v1 hs1 hg1)
  have hv1 : w1.heap.size + 1 ≤ v1.heap.size := by have := hg1.size; simpa using this
  have HU1' := Lib.hid (HU.out.keep (w' := v1) (fun b o hlt => (World.cell?_of_block (hg1.block b (by simp; omega) (fun e => by cases e; omega))).trans (World.cell?_alloc_past _ _ _ (by omega))))
  clear HU
  have HU := HU1'
  clear HU1'
  replace bel := below_code bel hg1 (by omega)
  clear hg1
  refine ((c_spec_DrawWord) _ _ _ _ _ hs1 (Nat.le_refl _) (by omega)).mono ?_
  rintro e w2 ⟨b, ⟨b0, b1⟩, rfl, hb⟩
  clear hs1
  have hq2 := hb.size
  replace bel := below_next bel hb
  have HU2 := Lib.hid (HU.out.below' hb (by omega))
  clear HU hb
  have HU := HU2
  clear HU2
  clear HU HA
  have e1 := xorW_again a0 a1 b0 b1
  have e2 := xorW_comm b a
  have e3 := lowBit_xor a0 a1 b0 b1
  have e4 : xorW 5 3 = 6 := by decide
  have l1 := lowBit_01 a
  have l2 := lowBit_01 b
  obtain ⟨l10, l11⟩ := l1
  obtain ⟨l20, l21⟩ := l2
  generalize hx : xorW a b = x at *
  have HXX := Lib.hid hx
  clear hx
  have hcb := fun W => HXX.out ▸ c_impl_XorWords a b W
  go_wp2_with fail
  refine (hcb _).mono ?_
  rintro e w' ⟨rfl, rfl⟩
  go_wp2_with (first | (go_at_call 29; (with_reducible refine (c_impl_XorWords _ _ _).mono ?_); rintro e w' ⟨rfl, rfl⟩) | (go_at_call 30; (with_reducible refine (c_impl_LowBit _ _).mono ?_); rintro e w' ⟨rfl, rfl⟩))
  go_ret
  exact ⟨rfl, bel⟩

set_option maxRecDepth 100000 in
theorem lifted (os : Os) (started : os.Started) (H : Type) (enc : TypeId × Value → H) :
    ReturnsInHanded {} Try.checked os 6 .any (Rows.fnXorSpec.pre6 enc Try.prog Try.f6 Rows.fnXorRow.domain false) (Rows.fnXorSpec.post enc Try.prog Try.f6 false true false false) := by
  refine returnsInHanded_of_change (C := Try.checked) own started (by kernel_rfl) Try.func6
    (ChangeSpec.witness6 (enc := enc) (C := Try.checked) false ⟨#[], #[.slice none 0 0], []⟩ 8 (by kernel_rfl) (by kernel_rfl) (by kernel_rfl) (by kernel_rfl)) ?_
  intro W base args ds gs before hval0 hW hcnd _
  have hval : ∀ (j : Nat) t v, Try.f6.params[j]? = some t → args[j]? = some v → Value.okWide Try.prog W .any base t v := hval0
  have hW' := hW
  obtain ⟨p, q, hA0, hV, rfl, hfz, hnd⟩ := hW
  have hA : DataW.TrodAll enc Try.prog W 0 (fun _ => true) true Try.f6.params.toList args.toList ds p := hA0
  rw [Try.params6] at hA hval
  obtain ⟨v0, vs0, d0, ds0, p0, q0, hargs, rfl, rfl, h0, r0⟩ := trodAll_cons hA
  obtain ⟨rfl, rfl, rfl⟩ := trodAll_nil r0
  obtain rfl : args = #[v0] := by cases args; simp_all
  obtain ⟨rfl, rfl⟩ := trodVars_none hV
  obtain ⟨a0, len0, cap0, rfl⟩ := okWide_slice Try.underlying39 (hval 0 39 v0 rfl rfl)
  have k0 := h0
  have lt0 : ∀ x ∈ p0, x.block < W.heap.size := by obtain ⟨m, hm⟩ := k0; exact DataW.trod_lt m _ _ _ hm
  obtain ⟨z0, w0⟩ : ∃ zs, IsRow .u8 W a0 len0 cap0 zs := by
    obtain ⟨fuel, hf⟩ := h0
    rcases open_ints Try.underlying39 Try.underlying5 (by kernel_rfl) hf with ⟨hcs, _⟩ | ⟨x, l, c, zs, hcs, _, hl, hm, hz, _, hcell, hwz⟩
    · simp [Value.cells] at hcs
      obtain ⟨rfl, rfl, rfl⟩ := hcs
      exact ⟨[], .inl ⟨rfl, rfl, rfl, rfl⟩⟩
    · simp [Value.cells] at hcs
      obtain ⟨rfl, rfl, rfl⟩ := hcs
      exact ⟨zs, .inr ⟨_, rfl, hl, hm, by simpa using hz, hcell, hwz⟩⟩
  clear hA0 hval0
  simp only [List.append_nil] at hW'
  refine (walk (w := W) a0 len0 cap0 z0 w0).mono fun e W' ⟨he, bel⟩ => ?_
  subst he
  exact ⟨_, rfl, _, _, _, [], _, [], hW', trodAll_mk1 (shut_bool Try.underlying4 _), (trodAll_cons_mk (Below.trod laidOut (by kernel_rfl) (of_decide_eq_true (by kernel_rfl)) k0 bel lt0) trodAll_mk0), rfl, bel.frame _, fun h => by cases h⟩

theorem over : Rows.fnXorRow.holds Try.pinned (OpenSpec.ofChange Rows.fnXorSpec) :=
  OpenClaim.holds_of_wide 6 Try.f6 rfl rfl rfl rfl rfl rfl rfl ⟨rfl, rfl, rfl, rfl, rfl⟩ rfl rfl rfl rfl rfl (by kernel_rfl) Try.func6 (by kernel_rfl)
    (of_decide_eq_true (by kernel_rfl)) (by unfold Func.isWrapper; first | (rw [if_pos (by decide +kernel)]; kernel_rfl) | (rw [if_neg (by decide +kernel)]; exact ⟨rfl, rfl⟩))
    (fun os started H enc _ => lifted os started H enc)

/-- The statement. -/
theorem proved : Rows.FnXorSaid := over
end Go.Proofs.Ytdmaklgpgdcnpaa.lawFnXor
