/- The statement FnField: addition and multiplication satisfy the field axioms. It has no conditions. -/
import Derived.Test.YtdmaklgpgdcnpaaRows
import Derived.WalkKit
import Derived.ProofKit
import Derived.OpenShut
import Derived.ChangeOld
import Derived.Below
import Derived.Lib.SmallJoins
import Derived.Test.YtdmaklgpgdcnpaaDrawCode
import Derived.Test.YtdmaklgpgdcnpaaWords
import Derived.Test.YtdmaklgpgdcnpaaField
import Derived.Test.YtdmaklgpgdcnpaaAlg
import Derived.Test.YtdmaklgpgdcnpaaDrawMore
namespace Go.Proofs.Ytdmaklgpgdcnpaa.lawFnField
open Go.ChangeShapes Go.WideShapes Go.ChangeAt Go.RowKit Go.Joins
set_option linter.unusedVariables false

theorem own : ownKnob Try.prog.godebug = none := by kernel_rfl
theorem laidOut : laidOutB Try.prog = true := by kernel_rfl

theorem SliceI.cell_at {w : World} {B n b off : Nat} {xs : List Int} (h : SliceI w B (some ⟨b, off, none⟩) n xs) (k : Nat) (hk : k < n) : w.cell? ⟨b, off + k, none⟩ = some (.int .i64 (xs.getD k 0)) := by
  obtain ⟨b', off', e, _, hc⟩ := h.at_ hk
  cases e
  exact hc
theorem getD_mem {xs : List Int} {k : Nat} (h : k < xs.length) : xs.getD k 0 ∈ xs := by
  rw [List.getD_eq_getElem?_getD, List.getElem?_eq_getElem h]; exact List.getElem_mem _

set_option maxHeartbeats 2000000 in
theorem walk (w : World) (A : Option Addr) (len cap : Nat) (z : List Int) (h : IsRow .u8 w A len cap z) : Calls Try.prog 10 #[.slice A len cap] w fun e w' => e = .returned (.bool true) ∧ Below w.heap.size w w' := by
  obtain ⟨hU, hA⟩ := h.code
  clear h
  by_cases hbig : 1048576 < (len : Int)
  · go_enter Try.func10, Try.ntmps10
    go_wp2_with (go_at_call 27; (with_reducible refine (c_laws_big _ _ _ _).mono ?_); rintro e w' ⟨rfl, rfl⟩)
    go_ret
    exact ⟨rfl, Below.refl _ _⟩
  have hm : len ≤ 1048576 := by omega
  have bel : Below w.heap.size w w := Below.refl _ _
  have HA := Lib.hid hA
  have HU := Lib.hid hU
  clear hA hU
  have hq0 : w.heap.size ≤ w.heap.size := Nat.le_refl _
  go_enter Try.func10, Try.ntmps10
  go_wp2_with (go_at_call 27; (with_reducible refine (c_laws_big _ _ _ _).mono ?_); rintro e w' ⟨rfl, rfl⟩)
  refine (c_spec_DrawPrime _ _ _ _ _ HU.out (by omega) (by omega)).mono ?_
  rintro e w1 ⟨p, hp, rfl, hb⟩
  have hq1 := hb.size
  replace bel := below_next bel hb
  have HU1 := Lib.hid (HU.out.below' hb (by omega))
  clear HU hb
  have HU := HU1
  clear HU1
  go_wp2_with fail
  refine (c_spec_DrawPlaces _ _ _ _ _ HU.out (by omega) (by omega)).mono ?_
  rintro e w2 ⟨ps, ⟨hpl, hpr⟩, A_p, c_p, rfl, own, hb⟩
  have hq2 := hb.size
  replace bel := below_next bel hb
  clear HU HA hb
  have hlp : 11 < ps.length := by omega
  have HPR := Lib.hid hpr
  have hsl := own.slice
  obtain ⟨g, off, rfl, hgb, _⟩ := hsl.at_ (k := 0) (by omega)
  obtain ⟨q0, hcell0, hq00, hq01⟩ : ∃ q : Int, w2.cell? ⟨g, off + 0, none⟩ = some (.int .i64 q) ∧ 0 ≤ q ∧ q < 10000 := ⟨_, SliceI.cell_at hsl 0 (by omega), HPR.out _ (getD_mem (by omega))⟩
  obtain ⟨q1, hcell1, hq10, hq11⟩ : ∃ q : Int, w2.cell? ⟨g, off + 1, none⟩ = some (.int .i64 q) ∧ 0 ≤ q ∧ q < 10000 := ⟨_, SliceI.cell_at hsl 1 (by omega), HPR.out _ (getD_mem (by omega))⟩
  obtain ⟨q2, hcell2, hq20, hq21⟩ : ∃ q : Int, w2.cell? ⟨g, off + 2, none⟩ = some (.int .i64 q) ∧ 0 ≤ q ∧ q < 10000 := ⟨_, SliceI.cell_at hsl 2 (by omega), HPR.out _ (getD_mem (by omega))⟩
  simp only [Nat.add_zero] at hcell0
  clear hpl hpr
  clear own hsl
  have hf := primes_ok hp
  clear hp
  obtain ⟨hp2, hp1⟩ := fieldOk_range hf
  have HA := Lib.hid (el_mod hf q0)
  have HBB := Lib.hid (el_mod hf q1)
  have HCC := Lib.hid (el_mod hf q2)
  have ra := Lib.hid (el_lt HA.out)
  have d1 := f_distrib HA.out HBB.out HCC.out
  have d2 := f_addsub HA.out HBB.out
  have d3 := f_assoc HA.out HBB.out HCC.out
  have d4 := f_zero HA.out
  have d5 := f_one HA.out
  have e1 : (fmul p (q0 % p) (fadd p (q1 % p) (q2 % p)) == fadd p (fmul p (q0 % p) (q1 % p)) (fmul p (q0 % p) (q2 % p))) = true := by rw [d1]; simp
  have e2 : (fadd p (fsub p (q0 % p) (q1 % p)) (q1 % p) == q0 % p) = true := by rw [d2]; simp
  have e3 : (fmul p (fmul p (q0 % p) (q1 % p)) (q2 % p) == fmul p (q0 % p) (fmul p (q1 % p) (q2 % p))) = true := by rw [d3]; simp
  have e4 : (fadd p (q0 % p) 0 == q0 % p) = true := by rw [d4]; simp
  have e5 : (fmul p (q0 % p) 1 == q0 % p) = true := by rw [d5]; simp
  clear d1 d2 d3 d4 d5 hf
  go_wp2_with (first | (go_at_call 41; (with_reducible refine (c_impl_FAdd _ _ _ _).mono ?_); rintro e w' ⟨rfl, hb⟩; replace bel := below_next bel hb; clear hb) | (go_at_call 40; (with_reducible refine (c_impl_FMul _ _ _ _).mono ?_); rintro e w' ⟨rfl, hb⟩; replace bel := below_next bel hb; clear hb) | (go_at_call 42; (with_reducible refine (c_impl_FSub _ _ _ _).mono ?_); rintro e w' ⟨rfl, hb⟩; replace bel := below_next bel hb; clear hb))
  go_ret
  exact ⟨rfl, bel⟩

set_option maxRecDepth 100000 in
theorem lifted (os : Os) (started : os.Started) (H : Type) (enc : TypeId × Value → H) :
    ReturnsInHanded {} Try.checked os 10 .any (Rows.fnFieldSpec.pre6 enc Try.prog Try.f10 Rows.fnFieldRow.domain false) (Rows.fnFieldSpec.post enc Try.prog Try.f10 false true false false) := by
  refine returnsInHanded_of_change (C := Try.checked) own started (by kernel_rfl) Try.func10
    (ChangeSpec.witness6 (enc := enc) (C := Try.checked) false ⟨#[], #[.slice none 0 0], []⟩ 8 (by kernel_rfl) (by kernel_rfl) (by kernel_rfl) (by kernel_rfl)) ?_
  intro W base args ds gs before hval0 hW hcnd _
  have hval : ∀ (j : Nat) t v, Try.f10.params[j]? = some t → args[j]? = some v → Value.okWide Try.prog W .any base t v := hval0
  have hW' := hW
  obtain ⟨p, q, hA0, hV, rfl, hfz, hnd⟩ := hW
  have hA : DataW.TrodAll enc Try.prog W 0 (fun _ => true) true Try.f10.params.toList args.toList ds p := hA0
  rw [Try.params10] at hA hval
  obtain ⟨v0, vs0, d0, ds0, p0, q0, hargs, rfl, rfl, h0, r0⟩ := trodAll_cons hA
  obtain ⟨rfl, rfl, rfl⟩ := trodAll_nil r0
  obtain rfl : args = #[v0] := by cases args; simp_all
  obtain ⟨rfl, rfl⟩ := trodVars_none hV
  obtain ⟨a0, len0, cap0, rfl⟩ := okWide_slice Try.underlying39 (hval 0 39 v0 rfl rfl)
  have k0 := h0
  have lt0 : ∀ x ∈ p0, x.block < W.heap.size := by obtain ⟨m, hm⟩ := k0; exact DataW.trod_lt m _ _ _ hm
  obtain ⟨z0, w0⟩ : ∃ zs, IsRow .u8 W a0 len0 cap0 zs := by
    obtain ⟨fuel, hf⟩ := h0
    rcases open_ints Try.underlying39 Try.underlying5 (by kernel_rfl) hf with ⟨hcs, _⟩ | ⟨x, l, c, zs, hcs, _, hl, hm, hz, _, hcell, hwz⟩
    · simp [Value.cells] at hcs
      obtain ⟨rfl, rfl, rfl⟩ := hcs
      exact ⟨[], .inl ⟨rfl, rfl, rfl, rfl⟩⟩
    · simp [Value.cells] at hcs
      obtain ⟨rfl, rfl, rfl⟩ := hcs
      exact ⟨zs, .inr ⟨_, rfl, hl, hm, by simpa using hz, hcell, hwz⟩⟩
  clear hA0 hval0
  simp only [List.append_nil] at hW'
  refine (walk (w := W) a0 len0 cap0 z0 w0).mono fun e W' ⟨he, bel⟩ => ?_
  subst he
  exact ⟨_, rfl, _, _, _, [], _, [], hW', trodAll_mk1 (shut_bool Try.underlying4 _), (trodAll_cons_mk (Below.trod laidOut (by kernel_rfl) (of_decide_eq_true (by kernel_rfl)) k0 bel lt0) trodAll_mk0), rfl, bel.frame _, fun h => by cases h⟩

theorem over : Rows.fnFieldRow.holds Try.pinned (OpenSpec.ofChange Rows.fnFieldSpec) :=
  OpenClaim.holds_of_wide 10 Try.f10 rfl rfl rfl rfl rfl rfl rfl ⟨rfl, rfl, rfl, rfl, rfl⟩ rfl rfl rfl rfl rfl (by kernel_rfl) Try.func10 (by kernel_rfl)
    (of_decide_eq_true (by kernel_rfl)) (by unfold Func.isWrapper; first | (rw [if_pos (by decide +kernel)]; kernel_rfl) | (rw [if_neg (by decide +kernel)]; exact ⟨rfl, rfl⟩))
    (fun os started H enc _ => lifted os started H enc)

/-- The statement. -/
theorem proved : Rows.FnFieldSaid := over
end Go.Proofs.Ytdmaklgpgdcnpaa.lawFnField
