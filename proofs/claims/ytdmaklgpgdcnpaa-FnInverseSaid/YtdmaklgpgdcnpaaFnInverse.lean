/- The statement FnInverse: every element except 0 has an inverse, and sums do not depend on the order. It has no conditions. -/
import Derived.Test.YtdmaklgpgdcnpaaRows
import Derived.WalkKit
import Derived.ProofKit
import Derived.OpenShut
import Derived.ChangeOld
import Derived.Below
import Derived.Lib.SmallJoins
import Derived.Test.YtdmaklgpgdcnpaaDrawCode
import Derived.Test.YtdmaklgpgdcnpaaWords
import Derived.Test.YtdmaklgpgdcnpaaField
import Derived.Test.YtdmaklgpgdcnpaaAlg
import Derived.Test.YtdmaklgpgdcnpaaSums
import Derived.Test.YtdmaklgpgdcnpaaDrawMore
namespace Go.Proofs.Ytdmaklgpgdcnpaa.lawFnInverse
open Go.ChangeShapes Go.WideShapes Go.ChangeAt Go.RowKit Go.Joins
set_option linter.unusedVariables false

theorem own : ownKnob Try.prog.godebug = none := by kernel_rfl
theorem laidOut : laidOutB Try.prog = true := by kernel_rfl

theorem SliceI.cell_at {w : World} {B n b off : Nat} {xs : List Int} (h : SliceI w B (some ⟨b, off, none⟩) n xs) (k : Nat) (hk : k < n) : w.cell? ⟨b, off + k, none⟩ = some (.int .i64 (xs.getD k 0)) := by
  obtain ⟨b', off', e, _, hc⟩ := h.at_ hk
  cases e
  exact hc
theorem getD_mem {xs : List Int} {k : Nat} (h : k < xs.length) : xs.getD k 0 ∈ xs := by
  rw [List.getD_eq_getElem?_getD, List.getElem?_eq_getElem h]; exact List.getElem_mem _

theorem fsum_three {p a b c : Int} (ha : isEl p a = true) (hb : isEl p b = true) (hc : isEl p c = true) : fsum p [a, b, c] = (a + b + c) % p := by
  have hal : allEl p [a, b, c] = true := allEl_iff.2 ⟨el_field ha, fun x hx => by
    have h1 := el_lt ha
    have h2 := el_lt hb
    have h3 := el_lt hc
    simp only [List.mem_cons, List.not_mem_nil, or_false] at hx
    rcases hx with rfl | rfl | rfl <;> omega⟩
  unfold fsum
  rw [if_pos hal]
  simp only [sumGo, List.foldl_cons, List.foldl_nil, Int.zero_add, Int.emod_add_emod]
theorem fsum_back {p a b c : Int} (ha : isEl p a = true) (hb : isEl p b = true) (hc : isEl p c = true) : fsum p [c, b, a] = fsum p [a, b, c] := by
  rw [fsum_three ha hb hc, fsum_three hc hb ha, show c + b + a = a + b + c by omega]
theorem fsum_nil {p : Int} (hf : fieldOk p = true) : fsum p [] = 0 := by
  have hal : allEl p [] = true := allEl_iff.2 ⟨hf, fun x hx => by simp at hx⟩
  unfold fsum; rw [if_pos hal]; rfl

set_option maxHeartbeats 2000000 in
theorem walk (w : World) (A : Option Addr) (len cap : Nat) (z : List Int) (h : IsRow .u8 w A len cap z) : Calls Try.prog 11 #[.slice A len cap] w fun e w' => e = .returned (.bool true) ∧ Below w.heap.size w w' := by
  obtain ⟨hU, hA⟩ := h.code
  clear h
  by_cases hbig : 1048576 < (len : Int)
  · go_enter Try.func11, Try.ntmps11
    go_wp2_with (go_at_call 27; (with_reducible refine (c_laws_big _ _ _ _).mono ?_); rintro e w' ⟨rfl, rfl⟩)
    go_ret
    exact ⟨rfl, Below.refl _ _⟩
  have hm : len ≤ 1048576 := by omega
  have bel : Below w.heap.size w w := Below.refl _ _
  have HA := Lib.hid hA
  have HU := Lib.hid hU
  clear hA hU
  have hq0 : w.heap.size ≤ w.heap.size := Nat.le_refl _
  go_enter Try.func11, Try.ntmps11
  go_wp2_with (go_at_call 27; (with_reducible refine (c_laws_big _ _ _ _).mono ?_); rintro e w' ⟨rfl, rfl⟩)
  refine (c_spec_DrawPrime _ _ _ _ _ HU.out (by omega) (by omega)).mono ?_
  rintro e w1 ⟨p, hp, rfl, hb⟩
  have hq1 := hb.size
  replace bel := below_next bel hb
  have HU1 := Lib.hid (HU.out.below' hb (by omega))
  clear HU hb
  have HU := HU1
  clear HU1
  go_wp2_with fail
  refine (c_spec_DrawPlaces _ _ _ _ _ HU.out (by omega) (by omega)).mono ?_
  rintro e w2 ⟨ps, ⟨hpl, hpr⟩, A_p, c_p, rfl, own, hb⟩
  have hq2 := hb.size
  replace bel := below_next bel hb
  clear HU HA hb
  have hlp : 11 < ps.length := by omega
  have HPR := Lib.hid hpr
  have hsl := own.slice
  obtain ⟨g, off, rfl, hgb, _⟩ := hsl.at_ (k := 0) (by omega)
  obtain ⟨q0, hcell0, hq00, hq01⟩ : ∃ q : Int, w2.cell? ⟨g, off + 0, none⟩ = some (.int .i64 q) ∧ 0 ≤ q ∧ q < 10000 := ⟨_, SliceI.cell_at hsl 0 (by omega), HPR.out _ (getD_mem (by omega))⟩
  obtain ⟨q1, hcell1, hq10, hq11⟩ : ∃ q : Int, w2.cell? ⟨g, off + 1, none⟩ = some (.int .i64 q) ∧ 0 ≤ q ∧ q < 10000 := ⟨_, SliceI.cell_at hsl 1 (by omega), HPR.out _ (getD_mem (by omega))⟩
  obtain ⟨q2, hcell2, hq20, hq21⟩ : ∃ q : Int, w2.cell? ⟨g, off + 2, none⟩ = some (.int .i64 q) ∧ 0 ≤ q ∧ q < 10000 := ⟨_, SliceI.cell_at hsl 2 (by omega), HPR.out _ (getD_mem (by omega))⟩
  simp only [Nat.add_zero] at hcell0
  clear hpl hpr
  clear own hsl
  have hf := primes_ok hp
  clear hp
  obtain ⟨hp2, hp1⟩ := fieldOk_range hf
  have HF := Lib.hid hf
  have HA := Lib.hid (el_mod hf q0)
  have HBB := Lib.hid (el_mod hf q1)
  have HCC := Lib.hid (el_mod hf q2)
  clear hf
  have hal1 : ∀ c, (w2.alloc c).cell? ⟨g, off + 1, none⟩ = some (.int .i64 q1) := fun c => (World.cell?_alloc_past _ _ _ (by omega)).trans hcell1
  have hal2 : ∀ c, (w2.alloc c).cell? ⟨g, off + 2, none⟩ = some (.int .i64 q2) := fun c => (World.cell?_alloc_past _ _ _ (by omega)).trans hcell2
  go_wp2_with fail
  refine (c_impl_FInv _ _ _).mono ?_
  rintro e w' ⟨rfl, rfl⟩
  have HI : q0 % p = 0 → finv p (q0 % p) = -1 := fun h => by rw [h]; exact finv_zero HF.out
  have HJ : q0 % p ≠ 0 → isEl p (finv p (q0 % p)) = true ∧ q0 % p * finv p (q0 % p) % p = 1 := fun h => ⟨(finv_good HA.out h).1, (finv_good HA.out h).2.2⟩
  generalize finv p (q0 % p) = x at *
  have HQ := Lib.hid (Eq.refl (q0 % p))
  generalize hqa : q0 % p = a at *
  clear hqa HQ hcell0
  have S1 := fsum_back HA.out HBB.out HCC.out
  have HS := Lib.hid S1
  clear S1
  have f0 := fsum_nil HF.out
  have hfo := HF.out
  have T1 := Lib.hid (SliceI.three w2 a (q1 % p) (q2 % p) 3)
  have T2 := Lib.hid (SliceI.three (w2.alloc (.cells #[.int .i64 a, .int .i64 (q1 % p), .int .i64 (q2 % p)] 3)) (q2 % p) (q1 % p) a 3)
  have T1' := Lib.hid (T1.out.alloc0 (o := .cells #[.int .i64 (q2 % p), .int .i64 (q1 % p), .int .i64 a] 3))
  have B0 : Below w.heap.size w ((w2.alloc (.cells #[.int .i64 a, .int .i64 (q1 % p), .int .i64 (q2 % p)] 3)).alloc (.cells #[.int .i64 (q2 % p), .int .i64 (q1 % p), .int .i64 a] 3)) := (bel.alloc bel.size _).alloc (by simp; omega) _
  go_wp2_with fail
  go_region
  go_wp2_with fail
  go_region
  have hmx := Nat.le_of_ble_eq_true (show Nat.ble 3 maxLen = true from rfl)
  have hm0 := Nat.zero_le maxLen
  generalize hV : ((w2.alloc (.cells #[.int .i64 a, .int .i64 (q1 % p), .int .i64 (q2 % p)] 3)).alloc (.cells #[.int .i64 (q2 % p), .int .i64 (q1 % p), .int .i64 a] 3)) = V at *
  have hVs : V.heap.size = w2.heap.size + 1 + 1 := by rw [← hV]; simp
  have U2 := T2.out
  simp only [World.size_alloc] at U2
  have U1 := T1'.out
  clear T1 T1' T2 hal1 hal2 hV
  replace B0 := B0.drew.drew
  replace U1 := SliceI.keep (w' := V.drew.drew) U1 (fun _ _ _ => rfl)
  replace U2 := SliceI.keep (w' := V.drew.drew) U2 (fun _ _ _ => rfl)
  replace hVs : V.drew.drew.heap.size = w2.heap.size + 1 + 1 := hVs
  generalize V.drew.drew = V at *
  have N1 : ∀ W : World, SliceI (W.alloc (.cells #[] 3)) (W.heap.size + 1) (some ⟨W.heap.size, 0, none⟩) 0 [] := fun W => SliceI.nil
  by_cases h0 : a = 0
  · obtain rfl := HI h0
    clear HI HJ
    subst h0
    have hs1 := Lib.hid HS.out
    go_wp2_with fail
    refine (c_impl_FSum _ _ _ _ _ _ _ U1 hmx).mono ?_
    rintro e w' ⟨rfl, rfl⟩
    go_wp2_with fail
    refine (c_impl_FSum _ _ _ _ _ _ _ U2 hmx).mono ?_
    rintro e w' ⟨rfl, rfl⟩
    rw [hs1.out]
    generalize fsum p [0, q1 % p, q2 % p] = s
    go_wp2_with (first | (go_at_call 44; (with_reducible refine (c_impl_FSum _ _ _ _ 0 _ _ SliceI.nil hm0).mono ?_); rintro e w' ⟨rfl, rfl⟩) | (go_at_call 45; (with_reducible refine (c_impl_FieldOk _ _).mono ?_); rintro e w' ⟨rfl, rfl⟩))
    go_ret
    exact ⟨rfl, B0.alloc (by omega) _⟩
  · obtain ⟨j1, j2⟩ := HJ h0
    have hx0 : x ≠ -1 := by have := el_lt j1; omega
    have hfm : fmul p a x = 1 := by rw [fmul_eq HA.out j1]; exact j2
    have e0 : (a == 0) = false := by simpa using h0
    have e1 : (x == -1) = false := by simpa using hx0
    have hs1 := Lib.hid HS.out
    clear HI HJ h0 hx0 j2
    go_wp2_with fail
    refine (c_impl_FMul _ _ _ _).mono ?_
    rintro e w3 ⟨rfl, hb⟩
    have B1 := below_next B0 hb
    have U1' := U1.below_le hb (by omega)
    have U2' := U2.below_le hb (by omega)
    have hq3 := hb.size
    clear hb U1 U2 B0
    rw [hfm]
    go_wp2_with fail
    refine (c_impl_FSum _ _ _ _ _ _ _ U1' hmx).mono ?_
    rintro e w' ⟨rfl, rfl⟩
    go_wp2_with fail
    refine (c_impl_FSum _ _ _ _ _ _ _ U2' hmx).mono ?_
    rintro e w' ⟨rfl, rfl⟩
    rw [hs1.out]
    generalize fsum p [a, q1 % p, q2 % p] = s
    go_wp2_with (first | (go_at_call 44; (with_reducible refine (c_impl_FSum _ _ _ _ 0 _ _ SliceI.nil hm0).mono ?_); rintro e w' ⟨rfl, rfl⟩) | (go_at_call 45; (with_reducible refine (c_impl_FieldOk _ _).mono ?_); rintro e w' ⟨rfl, rfl⟩))
    go_ret
    exact ⟨rfl, B1.alloc (by omega) _⟩

set_option maxRecDepth 100000 in
theorem lifted (os : Os) (started : os.Started) (H : Type) (enc : TypeId × Value → H) :
    ReturnsInHanded {} Try.checked os 11 .any (Rows.fnInverseSpec.pre6 enc Try.prog Try.f11 Rows.fnInverseRow.domain false) (Rows.fnInverseSpec.post enc Try.prog Try.f11 false true false false) := by
  refine returnsInHanded_of_change (C := Try.checked) own started (by kernel_rfl) Try.func11
    (ChangeSpec.witness6 (enc := enc) (C := Try.checked) false ⟨#[], #[.slice none 0 0], []⟩ 8 (by kernel_rfl) (by kernel_rfl) (by kernel_rfl) (by kernel_rfl)) ?_
  intro W base args ds gs before hval0 hW hcnd _
  have hval : ∀ (j : Nat) t v, Try.f11.params[j]? = some t → args[j]? = some v → Value.okWide Try.prog W .any base t v := hval0
  have hW' := hW
  obtain ⟨p, q, hA0, hV, rfl, hfz, hnd⟩ := hW
  have hA : DataW.TrodAll enc Try.prog W 0 (fun _ => true) true Try.f11.params.toList args.toList ds p := hA0
  rw [Try.params11] at hA hval
  obtain ⟨v0, vs0, d0, ds0, p0, q0, hargs, rfl, rfl, h0, r0⟩ := trodAll_cons hA
  obtain ⟨rfl, rfl, rfl⟩ := trodAll_nil r0
  obtain rfl : args = #[v0] := by cases args; simp_all
  obtain ⟨rfl, rfl⟩ := trodVars_none hV
  obtain ⟨a0, len0, cap0, rfl⟩ := okWide_slice Try.underlying39 (hval 0 39 v0 rfl rfl)
  have k0 := h0
  have lt0 : ∀ x ∈ p0, x.block < W.heap.size := by obtain ⟨m, hm⟩ := k0; exact DataW.trod_lt m _ _ _ hm
  obtain ⟨z0, w0⟩ : ∃ zs, IsRow .u8 W a0 len0 cap0 zs := by
    obtain ⟨fuel, hf⟩ := h0
    rcases open_ints Try.underlying39 Try.underlying5 (by kernel_rfl) hf with ⟨hcs, _⟩ | ⟨x, l, c, zs, hcs, _, hl, hm, hz, _, hcell, hwz⟩
    · simp [Value.cells] at hcs
      obtain ⟨rfl, rfl, rfl⟩ := hcs
      exact ⟨[], .inl ⟨rfl, rfl, rfl, rfl⟩⟩
    · simp [Value.cells] at hcs
      obtain ⟨rfl, rfl, rfl⟩ := hcs
      exact ⟨zs, .inr ⟨_, rfl, hl, hm, by simpa using hz, hcell, hwz⟩⟩
  clear hA0 hval0
  simp only [List.append_nil] at hW'
  refine (walk (w := W) a0 len0 cap0 z0 w0).mono fun e W' ⟨he, bel⟩ => ?_
  subst he
  exact ⟨_, rfl, _, _, _, [], _, [], hW', trodAll_mk1 (shut_bool Try.underlying4 _), (trodAll_cons_mk (Below.trod laidOut (by kernel_rfl) (of_decide_eq_true (by kernel_rfl)) k0 bel lt0) trodAll_mk0), rfl, bel.frame _, fun h => by cases h⟩

theorem over : Rows.fnInverseRow.holds Try.pinned (OpenSpec.ofChange Rows.fnInverseSpec) :=
  OpenClaim.holds_of_wide 11 Try.f11 rfl rfl rfl rfl rfl rfl rfl ⟨rfl, rfl, rfl, rfl, rfl⟩ rfl rfl rfl rfl rfl (by kernel_rfl) Try.func11 (by kernel_rfl)
    (of_decide_eq_true (by kernel_rfl)) (by unfold Func.isWrapper; first | (rw [if_pos (by decide +kernel)]; kernel_rfl) | (rw [if_neg (by decide +kernel)]; exact ⟨rfl, rfl⟩))
    (fun os started H enc _ => lifted os started H enc)

/-- The statement. -/
theorem proved : Rows.FnInverseSaid := over
end Go.Proofs.Ytdmaklgpgdcnpaa.lawFnInverse
