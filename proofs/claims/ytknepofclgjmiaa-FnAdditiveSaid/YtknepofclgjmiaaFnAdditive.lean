/- The statement FnAdditive: additive shares open to their value, also after sums, products with constants and additions of constants. It has no conditions. -/
import Derived.Test.YtknepofclgjmiaaRows
import Derived.WalkKit
import Derived.ProofKit
import Derived.OpenShut
import Derived.ChangeOld
import Derived.Below
import Derived.Lib.SmallJoins
import Derived.Deep.RegionHeld3
import Derived.Deep.DrawnRows
import Derived.Test.YtknepofclgjmiaaDrawCode
import Derived.Test.YtknepofclgjmiaaWords
import Derived.Test.YtknepofclgjmiaaField
import Derived.Test.YtknepofclgjmiaaAlg
import Derived.Test.YtknepofclgjmiaaDrawMore
import Derived.Test.YtknepofclgjmiaaSums
import Derived.Test.YtknepofclgjmiaaShares
import Derived.Test.YtknepofclgjmiaaTape
import Derived.Test.YtknepofclgjmiaaTapeList
import Derived.Test.YtknepofclgjmiaaShareAdd
import Derived.Test.YtknepofclgjmiaaAddPlain
namespace Go.Proofs.Ytknepofclgjmiaa.lawFnAdditive
open Go.ChangeShapes Go.WideShapes Go.ChangeAt Go.RowKit Go.Joins
set_option linter.unusedVariables false

theorem own : ownKnob Try.prog.godebug = none := by kernel_rfl
theorem laidOut : laidOutB Try.prog = true := by kernel_rfl

theorem SliceI.cell_at {w : World} {B n b off : Nat} {xs : List Int} (h : SliceI w B (some ⟨b, off, none⟩) n xs) (k : Nat) (hk : k < n) : w.cell? ⟨b, off + k, none⟩ = some (.int .i64 (xs.getD k 0)) := by
  obtain ⟨b', off', e, _, hc⟩ := h.at_ hk
  cases e
  exact hc
theorem getD_mem {xs : List Int} {k : Nat} (h : k < xs.length) : xs.getD k 0 ∈ xs := by
  rw [List.getD_eq_getElem?_getD, List.getElem?_eq_getElem h]; exact List.getElem_mem _

attribute [local go_sem ↓] Go.wp_at_zero Go.wp_at_succ
theorem own_sliceC {w : World} {lo n : Nat} {v : Value} {xs : List Int} (h : w.ownsRow lo 3 1 v n (vals xs)) (hn : 0 < n) : ∃ g c, v = .slice (some ⟨g, 0, none⟩) n c ∧ n ≤ c ∧ c ≤ maxLen ∧ SliceI w w.heap.size (some ⟨g, 0, none⟩) n xs := by
  rcases h.2 with ⟨_, h0⟩ | ⟨g, c, _, rfl, _, _, h1, h2, _⟩
  · omega
  · exact ⟨g, c, rfl, h1, h2, OwnI.slice (lo := lo) (c := c) h⟩
theorem SliceI.drop1 {w : World} {B n b off : Nat} {xs : List Int} (h : SliceI w B (some ⟨b, off, none⟩) (n + 1) xs) : SliceI w B (some ⟨b, off + 1, none⟩) n (xs.drop 1) := by
  refine ⟨by rw [List.length_drop, h.len]; omega, fun hn => ?_⟩
  obtain ⟨b', off', e, hb, hc⟩ := h.2 (by omega)
  simp only [Option.some.injEq, Addr.mk.injEq, and_true] at e
  obtain ⟨rfl, rfl⟩ := e
  refine ⟨b, off + 1, rfl, hb, fun k hk => ?_⟩
  have := hc (k + 1) (by omega)
  rw [show off + (k + 1) = off + 1 + k by omega] at this
  rw [this]
  congr 2
  simp [List.getD_eq_getElem?_getD]
theorem opens_at {p x : Int} {n c B : Nat} {A : Option Addr} {W : World} {l : List Int} (h : AddShare p x n l) (h1 : 1 ≤ n) (h5 : n ≤ 5) (hs : SliceI W B A n l) :
    Calls Try.prog 26 #[.int .i64 p, .slice A n c] W fun e w' => e = .returned (.int .i64 x) ∧ W = w' := by
  have := c_impl_OpenAdd p A n c B l W hs (by unfold maxLen; omega)
  rw [h.opens h1 h5] at this
  exact this
theorem GivesI.sl {w w' : World} {ys : List Int} {n : Nat} {e : Ending} (h : GivesI w ys e w') (hl : ys.length = n) : ∃ C c, e = .returned (.slice C n c) ∧ SliceI w' w'.heap.size C n ys ∧ Below w.heap.size w w' := by
  subst hl
  obtain ⟨A, c, rfl, o, hb⟩ := h
  exact ⟨A, c, rfl, o.slice, hb⟩
theorem adds_at {p x y : Int} {n c c' B B' : Nat} {A A' : Option Addr} {W : World} {l l' : List Int} (h : AddShare p x n l) (h' : AddShare p y n l') (h5 : n ≤ 5) (hs : SliceI W B A n l) (hs' : SliceI W B' A' n l') (hB : B ≤ W.heap.size) (hB' : B' ≤ W.heap.size) :
    Calls Try.prog 27 #[.int .i64 p, .slice A n c, .slice A' n c'] W fun e w' => ∃ C c, e = .returned (.slice C n c) ∧ SliceI w' w'.heap.size C n (addF p l l') ∧ Below W.heap.size W w' := by
  have e := h.1
  have e' := h'.1
  have := c_impl_AddShares p A A' c c' B B' l l' W (by rw [e]; exact hs) (by rw [e']; exact hs') hB hB' (by omega) (by omega)
  rw [e, e'] at this
  exact this.mono fun _ _ g => GivesI.sl g (h.add h').1
theorem scales_at {p x k : Int} {n c B : Nat} {A : Option Addr} {W : World} {l : List Int} (h : AddShare p x n l) (hk : isEl p k = true) (h5 : n ≤ 5) (hs : SliceI W B A n l) (hB : B ≤ W.heap.size) :
    Calls Try.prog 28 #[.int .i64 p, .slice A n c, .int .i64 k] W fun e w' => ∃ C c, e = .returned (.slice C n c) ∧ SliceI w' w'.heap.size C n (scaleF p l k) ∧ Below W.heap.size W w' :=
  (c_impl_ScaleShares p k A n c B l W hs hB (by omega)).mono fun _ _ g => GivesI.sl g (h.scale hk).1
theorem consts_at {p x k : Int} {n c B : Nat} {A : Option Addr} {W : World} {l : List Int} (h : AddShare p x n l) (hk : isEl p k = true) (h1 : 1 ≤ n) (h5 : n ≤ 5) (hs : SliceI W B A n l) (hB : B ≤ W.heap.size) :
    Calls Try.prog 29 #[.int .i64 p, .slice A n c, .int .i64 k] W fun e w' => ∃ C c, e = .returned (.slice C n c) ∧ SliceI w' w'.heap.size C n (addConstF p l k) ∧ Below W.heap.size W w' := by
  have e := h.1
  have := c_impl_AddConstant p k A c B l W (by rw [e]; exact hs) hB (by omega)
  rw [e] at this
  exact this.mono fun _ _ g => GivesI.sl g (h.const hk h1).1
set_option maxHeartbeats 8000000 in
theorem walk (w : World) (A : Option Addr) (len cap : Nat) (z : List Int) (h : IsRow .u8 w A len cap z) : Calls Try.prog 8 #[.slice A len cap] w fun e w' => e = .returned (.bool true) ∧ Below w.heap.size w w' := by
  obtain ⟨hU, hA⟩ := h.code
  clear h
  by_cases hbig : 1048576 < (len : Int)
  · go_enter Try.func8, Try.ntmps8
    go_wp2_with (go_at_call 11; (with_reducible refine (c_laws_big _ _ _ _).mono ?_); rintro e w' ⟨rfl, rfl⟩)
    go_ret
    exact ⟨rfl, Below.refl _ _⟩
  have hm : len ≤ 1048576 := by omega
  have bel : Below w.heap.size w w := Below.refl _ _
  have HA := Lib.hid hA
  have HU := Lib.hid hU
  clear hA hU
  have hq0 : w.heap.size ≤ w.heap.size := Nat.le_refl _
  go_enter Try.func8, Try.ntmps8
  go_wp2_with (go_at_call 11; (with_reducible refine (c_laws_big _ _ _ _).mono ?_); rintro e w' ⟨rfl, rfl⟩)
  refine (c_spec_DrawPrime _ _ _ _ _ HU.out (by omega) (by omega)).mono ?_
  rintro e w1 ⟨p, hp, rfl, hb⟩
  have hq1 := hb.size
  replace bel := below_next bel hb
  have HU1 := Lib.hid (HU.out.below' hb (by omega))
  clear HU hb
  go_wp2_with fail
  refine (c_spec_DrawTape _ _ _ _ _ HU1.out (by omega) (by omega)).mono ?_
  rintro e w2 ⟨s, t, ⟨hs, ht⟩, rfl, hb⟩
  have hq2 := hb.size
  replace bel := below_next bel hb
  have HU2 := Lib.hid (HU1.out.below' hb (by omega))
  have HS := Lib.hid hs
  have ht' : 0 ≤ t ∧ t < 60 := by omega
  have HT0 := Lib.hid ht'
  have HT := Lib.hid (show 0 ≤ t ∧ t ≤ 900000 by omega)
  clear HU1 hb hs ht ht'
  go_wp2_with fail
  refine (c_spec_DrawPlaces _ _ _ _ _ (HU2.out.alloc (by omega)) (by simp; omega) (by omega)).mono ?_
  rintro e w3 ⟨ps, ⟨hpl, hpr⟩, A_p, c_p, rfl, own, hb⟩
  obtain ⟨bel2, x1⟩ := start1 hb
  have bel := below_next bel bel2
  clear HU2 HA hb bel2
  have hlp : 11 < ps.length := by omega
  have HPR := Lib.hid hpr
  have hsl := own.slice
  obtain ⟨g, off, rfl, hgb, _⟩ := hsl.at_ (k := 0) (by omega)
  obtain ⟨q0, hcell0, hq00, hq01⟩ : ∃ q : Int, w3.cell? ⟨g, off + 0, none⟩ = some (.int .i64 q) ∧ 0 ≤ q ∧ q < 10000 := ⟨_, SliceI.cell_at hsl 0 (by omega), HPR.out _ (getD_mem (by omega))⟩
  obtain ⟨q1, hcell1, hq10, hq11⟩ : ∃ q : Int, w3.cell? ⟨g, off + 1, none⟩ = some (.int .i64 q) ∧ 0 ≤ q ∧ q < 10000 := ⟨_, SliceI.cell_at hsl 1 (by omega), HPR.out _ (getD_mem (by omega))⟩
  obtain ⟨q2, hcell2, hq20, hq21⟩ : ∃ q : Int, w3.cell? ⟨g, off + 2, none⟩ = some (.int .i64 q) ∧ 0 ≤ q ∧ q < 10000 := ⟨_, SliceI.cell_at hsl 2 (by omega), HPR.out _ (getD_mem (by omega))⟩
  obtain ⟨q3, hcell3, hq30, hq31⟩ : ∃ q : Int, w3.cell? ⟨g, off + 3, none⟩ = some (.int .i64 q) ∧ 0 ≤ q ∧ q < 10000 := ⟨_, SliceI.cell_at hsl 3 (by omega), HPR.out _ (getD_mem (by omega))⟩
  simp only [Nat.add_zero] at hcell0
  clear own hsl hpr HPR
  have hf := primes_ok hp
  have HF := Lib.hid hf
  obtain ⟨hp2, hp101⟩ := fieldOk_range hf
  obtain ⟨x, hx1, HX⟩ : ∃ x : Int, q1 % p = x ∧ Hid (isEl p x = true) := ⟨_, rfl, Lib.hid (el_mod hf q1)⟩
  obtain ⟨y, hy1, HY⟩ : ∃ y : Int, q2 % p = y ∧ Hid (isEl p y = true) := ⟨_, rfl, Lib.hid (el_mod hf q2)⟩
  obtain ⟨k, hk1, HK⟩ : ∃ k : Int, q3 % p = k ∧ Hid (isEl p k = true) := ⟨_, rfl, Lib.hid (el_mod hf q3)⟩
  obtain ⟨n, hn1, hn2, hn5⟩ : ∃ n : Nat, 1 + q0 % 5 = (n : Int) ∧ 1 ≤ n ∧ n ≤ 5 := ⟨(1 + q0 % 5).toNat, by omega, by omega, by omega⟩
  have hx0 := (el_lt HX.out).1
  have hxp := (el_lt HX.out).2
  have hy0 := (el_lt HY.out).1
  have hyp := (el_lt HY.out).2
  have hk0 := (el_lt HK.out).1
  have hkp := (el_lt HK.out).2
  have hxk0 : 0 ≤ x * k := Int.mul_nonneg hx0 hk0
  have hxk1 : x * k ≤ 101 * 101 := Int.mul_le_mul (by omega) (by omega) hk0 (by omega)
  have hpp0 : (p == 0) = false := by rw [beq_eq_false_iff_ne]; omega
  have l0 : 0 < ps.length := by omega
  have l1 : 1 < ps.length := by omega
  have l2 : 2 < ps.length := by omega
  have l3 : 3 < ps.length := by omega
  generalize ps.length = mm at *
  have c1 := x1.cell
  have f1 := x1.free
  have z1 := x1.lt
  clear hp hf hpl
  go_wp2_with fail
  simp only [hx1, hy1, hk1]
  refine (c_impl_ShareAdd _ _ _ _ _ _).mono ?_
  obtain ⟨hA, hN⟩ := AddShare.share (n := n) HF.out HX.out hn2 hn5 HS.out HT.out
  rw [hN]
  have HAA := Lib.hid hA
  clear hA hN
  generalize shareF p x (n : Int) s t = SA at HAA ⊢
  rintro e w4 ⟨A_a, c_a, rfl, own, hb⟩
  rw [HAA.out.1] at own ⊢
  have bel4 := below_next bel hb
  have hsa := Lib.hid own.slice
  have haB := Lib.hid own.lt
  clear hb own c1 f1 z1 hcell0 hcell1 hcell2 hcell3 hn1 hx1 hy1 hk1
  have ht2 : 0 ≤ t + ((n : Int) - 1) ∧ t + ((n : Int) - 1) ≤ 900000 := by have := HT0.out; omega
  have HT2 := Lib.hid ht2
  obtain ⟨ht20, ht21⟩ := ht2
  generalize t + ((n : Int) - 1) = t2 at HT2 ht20 ht21 ⊢
  go_wp2_with fail
  refine (c_impl_ShareAdd _ _ _ _ _ _).mono ?_
  obtain ⟨hA, hN⟩ := AddShare.share (n := n) HF.out HY.out hn2 hn5 HS.out HT2.out
  rw [hN]
  have HBB := Lib.hid hA
  clear hA hN
  generalize shareF p y (n : Int) s t2 = SB at HBB ⊢
  rintro e w5 ⟨A_b, c_b, rfl, own, hb⟩
  rw [HBB.out.1] at own ⊢
  obtain ⟨bel5, x2⟩ := start1 hb
  have hsa5 := Lib.hid (SliceI.below_le (SliceI.alloc0 (o := .cells #[.int .i64 s, .int .i64 t2] 29) hsa.out) hb (by simp))
  have hsb5 := Lib.hid own.slice
  have bel6 := below_next bel4 bel5
  have hs45 := bel5.size
  have ht3 : 0 ≤ t2 + ((n : Int) - 1) ∧ t2 + ((n : Int) - 1) ≤ 1900000 := by omega
  generalize t2 + ((n : Int) - 1) = t3 at ht3 ⊢
  clear hb own hsa bel5
  go_wp2_with fail
  have hsa6 := Lib.hid ((SliceI.alloc0 (o := .cells #[.int .i64 s, .int .i64 t3] 29) hsa5.out).more (show w4.heap.size ≤ w5.heap.size by omega))
  have hsb6 := Lib.hid (SliceI.alloc0 (o := .cells #[.int .i64 s, .int .i64 t3] 29) hsb5.out)
  have hs6 : w5.heap.size ≤ (w5.alloc (.cells #[.int .i64 s, .int .i64 t3] 29)).heap.size := by simp
  replace bel := Lib.hid (bel6.alloc bel6.size (.cells #[.int .i64 s, .int .i64 t3] 29))
  generalize w5.alloc (.cells #[.int .i64 s, .int .i64 t3] 29) = w6 at *
  replace bel := Lib.hid bel.out.drew
  replace hsa6 := Lib.hid (SliceI.keep (w' := w6.drew) hsa6.out (fun _ _ _ => rfl))
  replace hsb6 := Lib.hid (SliceI.keep (w' := w6.drew) hsb6.out (fun _ _ _ => rfl))
  replace hs6 : w5.heap.size ≤ w6.drew.heap.size := hs6
  have HAD := Lib.hid (HAA.out.add HBB.out)
  have HSC := Lib.hid (HAA.out.scale HK.out)
  have HCO := Lib.hid (HAA.out.const HK.out hn2)
  clear x2 x1 hsa5 hsb5 bel6 ht3 ht20 ht21 hs45 bel4 haB
  have hr2 : (x * k).tmod p = x * k % p := Int.tmod_eq_emod_of_nonneg hxk0
  have hr1 : (x + y).tmod p = (x + y) % p := Int.tmod_eq_emod_of_nonneg (by omega)
  have hr3 : (x + k).tmod p = (x + k) % p := Int.tmod_eq_emod_of_nonneg (by omega)
  have hp0 : ¬ p = 0 := by omega
  have hw1 : IntKind.i64.wrap (x + y) = x + y := IntWalk.i64_in _ (by omega)
  have hw2 : IntKind.i64.wrap (x * k) = x * k := IntWalk.i64_in _ (by omega)
  have hw3 : IntKind.i64.wrap (x + k) = x + k := IntWalk.i64_in _ (by omega)
  go_region_held3 (fun _ => True) (exact trivial) (first
    | (go_at_call 26; (with_reducible refine (opens_at HAA.out hn2 hn5 hsa6.out).mono ?_); rintro e w' ⟨rfl, rfl⟩)
    | (go_at_call 27; (with_reducible refine (adds_at HAA.out HBB.out hn5 hsa6.out hsb6.out hs6 hs6).mono ?_); rintro e w7 ⟨C1, cC1, rfl, hC1, hb⟩; have hsa7 := Lib.hid (hsa6.out.below_le hb hs6); have bel7 := Lib.hid (below_next bel.out hb); have hs7 := Nat.le_trans hs6 hb.size; clear hb)
    | (go_at_call 26; (with_reducible refine (opens_at HAD.out hn2 hn5 hC1).mono ?_); rintro e w' ⟨rfl, rfl⟩)
    | (go_at_call 28; (with_reducible refine (scales_at HAA.out HK.out hn5 hsa7.out hs7).mono ?_); rintro e w8 ⟨C2, cC2, rfl, hC2, hb⟩; have hsa8 := Lib.hid (hsa7.out.below_le hb hs7); have bel8 := Lib.hid (below_next bel7.out hb); have hs8 := Nat.le_trans hs7 hb.size; clear hb)
    | (go_at_call 26; (with_reducible refine (opens_at HSC.out hn2 hn5 hC2).mono ?_); rintro e w' ⟨rfl, rfl⟩)
    | (go_at_call 29; (with_reducible refine (consts_at HAA.out HK.out hn2 hn5 hsa8.out hs8).mono ?_); rintro e w9 ⟨C3, cC3, rfl, hC3, hb⟩; have bel9 := Lib.hid (below_next bel8.out hb); clear hb)
    | (go_at_call 26; (with_reducible refine (opens_at HCO.out hn2 hn5 hC3).mono ?_); rintro e w' ⟨rfl, rfl⟩))
  all_goals
    go_wp2_with fail
    go_ret
    exact ⟨rfl, bel9.out⟩

set_option maxRecDepth 100000 in
theorem lifted (os : Os) (started : os.Started) (H : Type) (enc : TypeId × Value → H) :
    ReturnsInHanded {} Try.checked os 8 .any (Rows.fnAdditiveSpec.pre6 enc Try.prog Try.f8 Rows.fnAdditiveRow.domain false) (Rows.fnAdditiveSpec.post enc Try.prog Try.f8 false true false false) := by
  refine returnsInHanded_of_change (C := Try.checked) own started (by kernel_rfl) Try.func8
    (ChangeSpec.witness6 (enc := enc) (C := Try.checked) false ⟨#[], #[.slice none 0 0], []⟩ 8 (by kernel_rfl) (by kernel_rfl) (by kernel_rfl) (by kernel_rfl)) ?_
  intro W base args ds gs before hval0 hW hcnd _
  have hval : ∀ (j : Nat) t v, Try.f8.params[j]? = some t → args[j]? = some v → Value.okWide Try.prog W .any base t v := hval0
  have hW' := hW
  obtain ⟨p, q, hA0, hV, rfl, hfz, hnd⟩ := hW
  have hA : DataW.TrodAll enc Try.prog W 0 (fun _ => true) true Try.f8.params.toList args.toList ds p := hA0
  rw [Try.params8] at hA hval
  obtain ⟨v0, vs0, d0, ds0, p0, q0, hargs, rfl, rfl, h0, r0⟩ := trodAll_cons hA
  obtain ⟨rfl, rfl, rfl⟩ := trodAll_nil r0
  obtain rfl : args = #[v0] := by cases args; simp_all
  obtain ⟨rfl, rfl⟩ := trodVars_none hV
  obtain ⟨a0, len0, cap0, rfl⟩ := okWide_slice Try.underlying22 (hval 0 22 v0 rfl rfl)
  have k0 := h0
  have lt0 : ∀ x ∈ p0, x.block < W.heap.size := by obtain ⟨m, hm⟩ := k0; exact DataW.trod_lt m _ _ _ hm
  obtain ⟨z0, w0⟩ : ∃ zs, IsRow .u8 W a0 len0 cap0 zs := by
    obtain ⟨fuel, hf⟩ := h0
    rcases open_ints Try.underlying22 Try.underlying5 (by kernel_rfl) hf with ⟨hcs, _⟩ | ⟨x, l, c, zs, hcs, _, hl, hm, hz, _, hcell, hwz⟩
    · simp [Value.cells] at hcs
      obtain ⟨rfl, rfl, rfl⟩ := hcs
      exact ⟨[], .inl ⟨rfl, rfl, rfl, rfl⟩⟩
    · simp [Value.cells] at hcs
      obtain ⟨rfl, rfl, rfl⟩ := hcs
      exact ⟨zs, .inr ⟨_, rfl, hl, hm, by simpa using hz, hcell, hwz⟩⟩
  clear hA0 hval0
  simp only [List.append_nil] at hW'
  refine (walk (w := W) a0 len0 cap0 z0 w0).mono fun e W' ⟨he, bel⟩ => ?_
  subst he
  exact ⟨_, rfl, _, _, _, [], _, [], hW', trodAll_mk1 (shut_bool Try.underlying4 _), (trodAll_cons_mk (Below.trod laidOut (by kernel_rfl) (of_decide_eq_true (by kernel_rfl)) k0 bel lt0) trodAll_mk0), rfl, bel.frame _, fun h => by cases h⟩

theorem over : Rows.fnAdditiveRow.holds Try.pinned (OpenSpec.ofChange Rows.fnAdditiveSpec) :=
  OpenClaim.holds_of_wide 8 Try.f8 rfl rfl rfl rfl rfl rfl rfl ⟨rfl, rfl, rfl, rfl, rfl⟩ rfl rfl rfl rfl rfl (by kernel_rfl) Try.func8 (by kernel_rfl)
    (of_decide_eq_true (by kernel_rfl)) (by unfold Func.isWrapper; first | (rw [if_pos (by decide +kernel)]; kernel_rfl) | (rw [if_neg (by decide +kernel)]; exact ⟨rfl, rfl⟩))
    (fun os started H enc _ => lifted os started H enc)

/-- The statement. -/
theorem proved : Rows.FnAdditiveSaid := over
end Go.Proofs.Ytknepofclgjmiaa.lawFnAdditive
