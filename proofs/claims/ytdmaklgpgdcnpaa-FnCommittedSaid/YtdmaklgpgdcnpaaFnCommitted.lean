/- The statement FnCommitted: a commitment can be opened with its value only. It has no conditions. -/
import Derived.Test.YtdmaklgpgdcnpaaRows
import Derived.WalkKit
import Derived.ProofKit
import Derived.OpenShut
import Derived.ChangeOld
import Derived.Below
import Derived.Lib.SmallJoins
import Derived.Test.YtdmaklgpgdcnpaaDrawCode
import Derived.Test.YtdmaklgpgdcnpaaWords
import Derived.Test.YtdmaklgpgdcnpaaAlg
import Derived.Test.YtdmaklgpgdcnpaaCommit
import Derived.Test.YtdmaklgpgdcnpaaDrawMore
namespace Go.Proofs.Ytdmaklgpgdcnpaa.lawFnCommitted
open Go.ChangeShapes Go.WideShapes Go.ChangeAt Go.RowKit Go.Joins
set_option linter.unusedVariables false

theorem own : ownKnob Try.prog.godebug = none := by kernel_rfl
theorem laidOut : laidOutB Try.prog = true := by kernel_rfl

set_option maxHeartbeats 2000000 in
theorem walk (w : World) (A : Option Addr) (len cap : Nat) (z : List Int) (h : IsRow .u8 w A len cap z) : Calls Try.prog 9 #[.slice A len cap] w fun e w' => e = .returned (.bool true) ∧ Below w.heap.size w w' := by
  obtain ⟨hU, hA⟩ := h.code
  clear h
  by_cases hbig : 1048576 < (len : Int)
  · go_enter Try.func9, Try.ntmps9
    go_wp2_with (go_at_call 27; (with_reducible refine (c_laws_big _ _ _ _).mono ?_); rintro e w' ⟨rfl, rfl⟩)
    go_ret
    exact ⟨rfl, Below.refl _ _⟩
  have hm : len ≤ 1048576 := by omega
  have bel : Below w.heap.size w w := Below.refl _ _
  have HA := Lib.hid hA
  have HU := Lib.hid hU
  clear hA hU
  have hq0 : w.heap.size ≤ w.heap.size := Nat.le_refl _
  go_enter Try.func9, Try.ntmps9
  go_wp2_with (go_at_call 27; (with_reducible refine (c_laws_big _ _ _ _).mono ?_); rintro e w' ⟨rfl, rfl⟩)
  refine (c_spec_DrawWord _ _ _ _ _ HU.out (by omega) (by omega)).mono ?_
  rintro e w1 ⟨a, ⟨a0, a1⟩, rfl, hb⟩
  have hq1 := hb.size
  replace bel := below_next bel hb
  have HU1 := Lib.hid (HU.out.below' hb (by omega))
  clear HU hb
  have HU := HU1
  clear HU1
  go_wp2_with (at_builtin; refine wpList_append_code _ rfl (.tmp 11) (.tmp 12) rfl w.heap.size w1.heap.size 1 3 (by omega) rfl (World.ownsRow_lit w1 #[.int .u8 3] 1 (by omega) (by simp [maxLen]) rfl) w.heap.size _ len _ rfl (HU.out.alloc (by omega)) HA.out hm (by simp; omega) ?_; intro A' c' v1 hs1 hg1)
  have hv1 : w1.heap.size + 1 ≤ v1.heap.size := by have := hg1.size; simpa using this
  have HU1' := Lib.hid (HU.out.keep (w' := v1) (fun b o hlt => (World.cell?_of_block (hg1.block b (by simp; omega) (fun e => by cases e; omega))).trans (World.cell?_alloc_past _ _ _ (by omega))))
  clear HU
  have HU := HU1'
  clear HU1'
  replace bel := below_code bel hg1 (by omega)
  clear hg1
  refine ((c_spec_DrawWord) _ _ _ _ _ hs1 (Nat.le_refl _) (by omega)).mono ?_
  rintro e w2 ⟨b, ⟨b0, b1⟩, rfl, hb⟩
  clear hs1
  have hq2 := hb.size
  replace bel := below_next bel hb
  have HU2 := Lib.hid (HU.out.below' hb (by omega))
  clear HU hb
  have HU := HU2
  clear HU2
  go_wp2_with fail
  refine (c_spec_DrawPlaces _ _ _ _ _ HU.out (by omega) (by omega)).mono ?_
  rintro e w3 ⟨ps, ⟨hpl, hpr⟩, A_p, c_p, rfl, own, hb⟩
  have hq3 := hb.size
  replace bel := below_next bel hb
  clear HU HA hb
  have hp0 := own.slice.at_ (k := 0) (by omega)
  obtain ⟨g, off, rfl, _, hcell⟩ := hp0
  have hr0 := hpr (ps.getD 0 0) (by rw [List.getD_eq_getElem?_getD, List.getElem?_eq_getElem (by omega)]; exact List.getElem_mem _)
  obtain ⟨q0, q1⟩ := hr0
  generalize ps.getD 0 0 = q at hcell q0 q1
  simp only [Nat.add_zero] at hcell
  have hlp : 0 < ps.length := by omega
  clear own hpl hpr
  have wa := isWord_iff.2 ⟨a0, a1⟩
  have wb := isWord_iff.2 ⟨b0, b1⟩
  have pk : inB q 0 65535 = true := inB_iff.2 ⟨q0, by omega⟩
  have wq : isWord q = true := isWord_iff.2 ⟨q0, by omega⟩
  have w21 : isWord 21 = true := by decide
  have pa : pairOk a q = true := by simp [pairOk, wa, pk]
  have pb : pairOk b q = true := by simp [pairOk, wb, pk]
  have e1 : commitF a q = keyed q 21 a := by unfold commitF; rw [if_pos pa]
  have e2 : commitF b q = keyed q 21 b := by unfold commitF; rw [if_pos pb]
  have o1 : openF (commitF a q) a q = true := by simp [openF, pa]
  have wc : isWord (commitF a q) = true := by rw [e1]; exact keyed_word _ _ _
  by_cases hab : a = b
  · subst hab
    clear e1 e2
    skip
    go_wp2_with (first | (go_at_call 37; (with_reducible refine (c_impl_Commit _ _ _).mono ?_); rintro e w' ⟨rfl, rfl⟩) | (go_at_call 38; (with_reducible refine (c_impl_OpenOk _ _ _ _).mono ?_); rintro e w' ⟨rfl, rfl⟩) | (go_at_call 35; (with_reducible refine (c_impl_IsWord _ _).mono ?_); rintro e w' ⟨rfl, rfl⟩))
    go_ret
    exact ⟨rfl, bel⟩
  · have h1 : (a == b) = false := by simpa using hab
    have o2 : openF (commitF a q) b q = false := by
      have : (commitF b q == commitF a q) = false := by
        rw [beq_eq_false_iff_ne, e1, e2]; exact fun h => hab (keyed_inj wq w21 wb wa h).symm
      simp [openF, pb, this]
    clear hab e1 e2
    go_wp2_with (first | (go_at_call 37; (with_reducible refine (c_impl_Commit _ _ _).mono ?_); rintro e w' ⟨rfl, rfl⟩) | (go_at_call 38; (with_reducible refine (c_impl_OpenOk _ _ _ _).mono ?_); rintro e w' ⟨rfl, rfl⟩) | (go_at_call 35; (with_reducible refine (c_impl_IsWord _ _).mono ?_); rintro e w' ⟨rfl, rfl⟩))
    go_ret
    exact ⟨rfl, bel⟩

set_option maxRecDepth 100000 in
theorem lifted (os : Os) (started : os.Started) (H : Type) (enc : TypeId × Value → H) :
    ReturnsInHanded {} Try.checked os 9 .any (Rows.fnCommittedSpec.pre6 enc Try.prog Try.f9 Rows.fnCommittedRow.domain false) (Rows.fnCommittedSpec.post enc Try.prog Try.f9 false true false false) := by
  refine returnsInHanded_of_change (C := Try.checked) own started (by kernel_rfl) Try.func9
    (ChangeSpec.witness6 (enc := enc) (C := Try.checked) false ⟨#[], #[.slice none 0 0], []⟩ 8 (by kernel_rfl) (by kernel_rfl) (by kernel_rfl) (by kernel_rfl)) ?_
  intro W base args ds gs before hval0 hW hcnd _
  have hval : ∀ (j : Nat) t v, Try.f9.params[j]? = some t → args[j]? = some v → Value.okWide Try.prog W .any base t v := hval0
  have hW' := hW
  obtain ⟨p, q, hA0, hV, rfl, hfz, hnd⟩ := hW
  have hA : DataW.TrodAll enc Try.prog W 0 (fun _ => true) true Try.f9.params.toList args.toList ds p := hA0
  rw [Try.params9] at hA hval
  obtain ⟨v0, vs0, d0, ds0, p0, q0, hargs, rfl, rfl, h0, r0⟩ := trodAll_cons hA
  obtain ⟨rfl, rfl, rfl⟩ := trodAll_nil r0
  obtain rfl : args = #[v0] := by cases args; simp_all
  obtain ⟨rfl, rfl⟩ := trodVars_none hV
  obtain ⟨a0, len0, cap0, rfl⟩ := okWide_slice Try.underlying39 (hval 0 39 v0 rfl rfl)
  have k0 := h0
  have lt0 : ∀ x ∈ p0, x.block < W.heap.size := by obtain ⟨m, hm⟩ := k0; exact DataW.trod_lt m _ _ _ hm
  obtain ⟨z0, w0⟩ : ∃ zs, IsRow .u8 W a0 len0 cap0 zs := by
    obtain ⟨fuel, hf⟩ := h0
    rcases open_ints Try.underlying39 Try.underlying5 (by kernel_rfl) hf with ⟨hcs, _⟩ | ⟨x, l, c, zs, hcs, _, hl, hm, hz, _, hcell, hwz⟩
    · simp [Value.cells] at hcs
      obtain ⟨rfl, rfl, rfl⟩ := hcs
      exact ⟨[], .inl ⟨rfl, rfl, rfl, rfl⟩⟩
    · simp [Value.cells] at hcs
      obtain ⟨rfl, rfl, rfl⟩ := hcs
      exact ⟨zs, .inr ⟨_, rfl, hl, hm, by simpa using hz, hcell, hwz⟩⟩
  clear hA0 hval0
  simp only [List.append_nil] at hW'
  refine (walk (w := W) a0 len0 cap0 z0 w0).mono fun e W' ⟨he, bel⟩ => ?_
  subst he
  exact ⟨_, rfl, _, _, _, [], _, [], hW', trodAll_mk1 (shut_bool Try.underlying4 _), (trodAll_cons_mk (Below.trod laidOut (by kernel_rfl) (of_decide_eq_true (by kernel_rfl)) k0 bel lt0) trodAll_mk0), rfl, bel.frame _, fun h => by cases h⟩

theorem over : Rows.fnCommittedRow.holds Try.pinned (OpenSpec.ofChange Rows.fnCommittedSpec) :=
  OpenClaim.holds_of_wide 9 Try.f9 rfl rfl rfl rfl rfl rfl rfl ⟨rfl, rfl, rfl, rfl, rfl⟩ rfl rfl rfl rfl rfl (by kernel_rfl) Try.func9 (by kernel_rfl)
    (of_decide_eq_true (by kernel_rfl)) (by unfold Func.isWrapper; first | (rw [if_pos (by decide +kernel)]; kernel_rfl) | (rw [if_neg (by decide +kernel)]; exact ⟨rfl, rfl⟩))
    (fun os started H enc _ => lifted os started H enc)

/-- The statement. -/
theorem proved : Rows.FnCommittedSaid := over
end Go.Proofs.Ytdmaklgpgdcnpaa.lawFnCommitted
