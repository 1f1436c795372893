/- The statement FnTapes: a tape gives the same numbers again, one after the other or as a list. It has no conditions. -/
import Derived.Test.YtknepofclgjmiaaRows
import Derived.WalkKit
import Derived.ProofKit
import Derived.OpenShut
import Derived.ChangeOld
import Derived.Below
import Derived.Lib.SmallJoins
import Derived.Test.YtknepofclgjmiaaDrawCode
import Derived.Test.YtknepofclgjmiaaWords
import Derived.Test.YtknepofclgjmiaaField
import Derived.Test.YtknepofclgjmiaaAlg
import Derived.Test.YtknepofclgjmiaaDrawMore
import Derived.Test.YtknepofclgjmiaaTapeList
namespace Go.Proofs.Ytknepofclgjmiaa.lawFnTapes
open Go.ChangeShapes Go.WideShapes Go.ChangeAt Go.RowKit Go.Joins
set_option linter.unusedVariables false

theorem own : ownKnob Try.prog.godebug = none := by kernel_rfl
theorem laidOut : laidOutB Try.prog = true := by kernel_rfl

theorem SliceI.cell_at {w : World} {B n b off : Nat} {xs : List Int} (h : SliceI w B (some ⟨b, off, none⟩) n xs) (k : Nat) (hk : k < n) : w.cell? ⟨b, off + k, none⟩ = some (.int .i64 (xs.getD k 0)) := by
  obtain ⟨b', off', e, _, hc⟩ := h.at_ hk
  cases e
  exact hc
theorem getD_mem {xs : List Int} {k : Nat} (h : k < xs.length) : xs.getD k 0 ∈ xs := by
  rw [List.getD_eq_getElem?_getD, List.getElem?_eq_getElem h]; exact List.getElem_mem _

theorem tapeL_get {s t n : Int} {k j : Nat} (h : j < k) : (tapeL s t n k).getD j 0 = tapeV s (t + (j : Int)) / 256 % n := by simp [tapeL, h]
set_option maxHeartbeats 8000000 in
theorem walk (w : World) (A : Option Addr) (len cap : Nat) (z : List Int) (h : IsRow .u8 w A len cap z) : Calls Try.prog 5 #[.slice A len cap] w fun e w' => e = .returned (.bool true) ∧ Below w.heap.size w w' := by
  obtain ⟨hU, hA⟩ := h.code
  clear h
  by_cases hbig : 1048576 < (len : Int)
  · go_enter Try.func5, Try.ntmps5
    go_wp2_with (go_at_call 11; (with_reducible refine (c_laws_big _ _ _ _).mono ?_); rintro e w' ⟨rfl, rfl⟩)
    go_ret
    exact ⟨rfl, Below.refl _ _⟩
  have hm : len ≤ 1048576 := by omega
  have bel : Below w.heap.size w w := Below.refl _ _
  have HA := Lib.hid hA
  have HU := Lib.hid hU
  clear hA hU
  have hq0 : w.heap.size ≤ w.heap.size := Nat.le_refl _
  go_enter Try.func5, Try.ntmps5
  go_wp2_with (go_at_call 11; (with_reducible refine (c_laws_big _ _ _ _).mono ?_); rintro e w' ⟨rfl, rfl⟩)
  refine (c_spec_DrawTape _ _ _ _ _ HU.out (by omega) (by omega)).mono ?_
  rintro e w1 ⟨s, t, ⟨⟨s0, s1⟩, t0, t1⟩, rfl, hb⟩
  have hq1 := hb.size
  replace bel := below_next bel hb
  have HU1 := Lib.hid (HU.out.below' hb (by omega))
  clear HU hb
  have HU := HU1
  clear HU1
  go_wp2_with fail
  refine (c_spec_DrawPlaces _ _ _ _ _ (HU.out.alloc (by omega)) (by simp; omega) (by omega)).mono ?_
  rintro e w2 ⟨ps, ⟨hpl, hpr⟩, A_p, c_p, rfl, own, hb⟩
  obtain ⟨bel2, x1⟩ := start1 hb
  have bel := below_next bel bel2
  clear HU HA hb bel2
  have hlp : 11 < ps.length := by omega
  have HPR := Lib.hid hpr
  have hsl := own.slice
  obtain ⟨g, off, rfl, hgb, _⟩ := hsl.at_ (k := 0) (by omega)
  obtain ⟨q0, hcell0, hq00, hq01⟩ : ∃ q : Int, w2.cell? ⟨g, off + 0, none⟩ = some (.int .i64 q) ∧ 0 ≤ q ∧ q < 10000 := ⟨_, SliceI.cell_at hsl 0 (by omega), HPR.out _ (getD_mem (by omega))⟩
  obtain ⟨q1, hcell1, hq10, hq11⟩ : ∃ q : Int, w2.cell? ⟨g, off + 1, none⟩ = some (.int .i64 q) ∧ 0 ≤ q ∧ q < 10000 := ⟨_, SliceI.cell_at hsl 1 (by omega), HPR.out _ (getD_mem (by omega))⟩
  simp only [Nat.add_zero] at hcell0
  clear hpl hpr own HPR hsl
  have l0 : 0 < ps.length := by omega
  have l1 : 1 < ps.length := by omega
  generalize ps.length = mm at *
  have c1 := x1.cell
  have f1 := x1.free
  have z1 := x1.lt
  obtain ⟨k, hk1, hk2⟩ : ∃ k : Nat, q1 % 12 = (k : Int) ∧ k ≤ 11 := ⟨(q1 % 12).toNat, by omega, by omega⟩
  obtain ⟨n, hn1, hn2, hn3⟩ : ∃ n : Int, 1 + q0 % 200 = n ∧ 1 ≤ n ∧ n ≤ 200 := ⟨1 + q0 % 200, rfl, by omega, by omega⟩
  have hok : tapeLok s t n (k : Int) = true := by
    simp only [tapeLok, Bool.and_eq_true, inB_iff, tapeOk_iff, decide_eq_true_eq]
    omega
  have HOK := Lib.hid hok
  have e1 := Lib.hid (show tapeLF s t n (k : Int) = tapeL s t n k by simp [tapeLF, hok])
  have e2 := Lib.hid (show tapeLN s t n (k : Int) = t + (k : Int) by simp [tapeLN, hok])
  clear hok
  go_wp2_with fail
  refine (c_impl_TapeList _ _ _ _ _).mono ?_
  rw [e1.out, e2.out]
  rintro e w3 ⟨A_l, c_l, rfl, own, hb⟩
  have x1' := x1.below hb
  have bel3 := below_next bel hb
  have hsl := Lib.hid own.slice
  rw [tapeL_len] at hsl
  rw [tapeL_len]
  have HK1 := Lib.hid hk1
  clear own hb c1 f1 z1 hcell0 hcell1 hk1 hn1
  have c1 := x1'.cell
  have z1 := x1'.lt
  have hd10 : decide (1048576 < (len : Int)) = false := by rw [decide_eq_false_iff_not]; omega
  go_wp2_with fail
  have TP := 29
  have b1 := (x1'.alloc (.cells #[.int .i64 s, .int .i64 (t + (k : Int))] 29)).alloc (.cells #[.int .i64 s, .int .i64 t] 29)
  have bn := (Box.new w3 29 #[.int .i64 s, .int .i64 (t + (k : Int))]).alloc (.cells #[.int .i64 s, .int .i64 t] 29)
  have bx : Box ((w3.alloc (.cells #[.int .i64 s, .int .i64 (t + (k : Int))] 29)).alloc (.cells #[.int .i64 s, .int .i64 t] 29)) (w3.heap.size + 1) 29 #[.int .i64 s, .int .i64 (t + ((0 : Nat) : Int))] := by simpa using Box.new (w3.alloc (.cells #[.int .i64 s, .int .i64 (t + (k : Int))] 29)) 29 #[.int .i64 s, .int .i64 t]
  have HSL0 := Lib.hid (SliceI.alloc0 (o := .cells #[.int .i64 s, .int .i64 t] 29) (SliceI.alloc0 (o := .cells #[.int .i64 s, .int .i64 (t + (k : Int))] 29) hsl.out))
  have belW := (bel3.alloc bel3.size (.cells #[.int .i64 s, .int .i64 (t + (k : Int))] 29)).alloc (by have := bel3.size; simp; omega) (.cells #[.int .i64 s, .int .i64 t] 29)
  have hz3 := bel3.size
  generalize (w3.alloc (.cells #[.int .i64 s, .int .i64 (t + (k : Int))] 29)).alloc (.cells #[.int .i64 s, .int .i64 t] 29) = w4 at *
  have hz4 := bx.lt
  have B1 := Lib.hid b1
  have BN := Lib.hid bn
  clear c1 x1' b1 bn TP
  go_loopw [10] (fun i wr => ∃ j : Nat, j ≤ k ∧ i = .int .i64 j ∧ Box wr (w3.heap.size + 1) 29 #[.int .i64 s, .int .i64 (t + (j : Int))] ∧ Below (w3.heap.size + 1) w4 wr) (fun i _ => k - (intOf i).toNat)
  case atStart => exact ⟨0, by omega, rfl, bx, Below.refl _ _⟩
  case round =>
    obtain ⟨j, hj, rfl, bxr, hbr⟩ := hrel
    have cx := bxr.cell
    have fx := bxr.free
    have zx := bxr.lt
    by_cases hlt : j < k
    · obtain ⟨bl, ol, rfl, hbl, hcl⟩ := (HSL0.out.below_le hbr (by omega)).at_ hlt
      rw [tapeL_get hlt] at hcl
      have hv := tapeB_in HOK.out (m := j) (by omega)
      have HT := Lib.hid (fun W => c_impl_TapeBelow s (t + (j : Int)) n W)
      rw [hv.1, hv.2] at HT
      clear hv
      have hb1 := tapeV_bounds s (t + (j : Int))
      have hx0 : 0 ≤ tapeV s (t + (j : Int)) / 256 % n := Int.emod_nonneg _ (by omega)
      have hx1 : tapeV s (t + (j : Int)) / 256 % n < n := Int.emod_lt_of_pos _ (by omega)
      clear hb1
      generalize tapeV s (t + (j : Int)) / 256 % n = x at HT hcl hx0 hx1
      have hlt' : (j : Int) < (k : Int) := by omega
      have hx2 : ¬ x < 0 := by omega
      have hx3 : ¬ n ≤ x := by omega
      go_wp2_with (go_at_call 17; (with_reducible refine (HT.out _).mono ?_); rintro e w5 ⟨rfl, hb⟩; have bxq := bxr.below hb; have hclq := (hb.cell (p := ⟨bl, ol + j, none⟩) (show bl < wr.heap.size by omega)).trans hcl; have hcl2 : (w5.alloc (.cells #[.int .i64 s, .int .i64 (t + (j : Int) + 1)] 29)).cell? ⟨bl, ol + j, none⟩ = some (.int .i64 x) := (by rw [World.cell?_alloc_some _ _ _ (by rw [hclq]; rfl)]; exact hclq); have hbr2 := hbr.trans (hb.mono (show w3.heap.size + 1 ≤ wr.heap.size by omega)); clear hb cx fx zx; have cx := bxq.cell; have fx := bxq.free; have zx := bxq.lt)
      go_roundw
      case rel => exact ⟨j + 1, by omega, by go_num, by first | exact (by simpa [Int.add_assoc] using ((bxq.set 0 (.int .i64 s)).set 1 (.int .i64 (t + (j : Int) + 1))).alloc _) | exact (by simpa [Int.add_assoc] using ((bxq.alloc _).set 0 (.int .i64 s)).set 1 (.int .i64 (t + (j : Int) + 1))), by go_grown⟩
      case measure => simp [intOf]; omega
    · obtain rfl : j = k := by omega
      have b1r : Box wr w1.heap.size 29 #[.int .i64 s, .int .i64 t] := (hbr.block _ (by omega)).trans B1.out
      have bnr : Box wr w3.heap.size 29 #[.int .i64 s, .int .i64 (t + (j : Int))] := (hbr.block _ (by omega)).trans BN.out
      have k1 := b1r.cell
      have kn := bnr.cell
      have htk : tapeOk s (t + (j : Int)) = true := tapeOk_iff.2 (by omega)
      have hk1 := HK1.out
      have belr : Below w.heap.size w wr := belW.trans (hbr.mono (by omega))
      go_wp2_with (go_at_call 18; (with_reducible refine (c_impl_TapeOk _ _ _).mono ?_); rintro e w5 ⟨rfl, hb⟩; have bel5 := below_next belr hb)
      go_ret
      exact ⟨rfl, bel5⟩

set_option maxRecDepth 100000 in
theorem lifted (os : Os) (started : os.Started) (H : Type) (enc : TypeId × Value → H) :
    ReturnsInHanded {} Try.checked os 5 .any (Rows.fnTapesSpec.pre6 enc Try.prog Try.f5 Rows.fnTapesRow.domain false) (Rows.fnTapesSpec.post enc Try.prog Try.f5 false true false false) := by
  refine returnsInHanded_of_change (C := Try.checked) own started (by kernel_rfl) Try.func5
    (ChangeSpec.witness6 (enc := enc) (C := Try.checked) false ⟨#[], #[.slice none 0 0], []⟩ 8 (by kernel_rfl) (by kernel_rfl) (by kernel_rfl) (by kernel_rfl)) ?_
  intro W base args ds gs before hval0 hW hcnd _
  have hval : ∀ (j : Nat) t v, Try.f5.params[j]? = some t → args[j]? = some v → Value.okWide Try.prog W .any base t v := hval0
  have hW' := hW
  obtain ⟨p, q, hA0, hV, rfl, hfz, hnd⟩ := hW
  have hA : DataW.TrodAll enc Try.prog W 0 (fun _ => true) true Try.f5.params.toList args.toList ds p := hA0
  rw [Try.params5] at hA hval
  obtain ⟨v0, vs0, d0, ds0, p0, q0, hargs, rfl, rfl, h0, r0⟩ := trodAll_cons hA
  obtain ⟨rfl, rfl, rfl⟩ := trodAll_nil r0
  obtain rfl : args = #[v0] := by cases args; simp_all
  obtain ⟨rfl, rfl⟩ := trodVars_none hV
  obtain ⟨a0, len0, cap0, rfl⟩ := okWide_slice Try.underlying22 (hval 0 22 v0 rfl rfl)
  have k0 := h0
  have lt0 : ∀ x ∈ p0, x.block < W.heap.size := by obtain ⟨m, hm⟩ := k0; exact DataW.trod_lt m _ _ _ hm
  obtain ⟨z0, w0⟩ : ∃ zs, IsRow .u8 W a0 len0 cap0 zs := by
    obtain ⟨fuel, hf⟩ := h0
    rcases open_ints Try.underlying22 Try.underlying5 (by kernel_rfl) hf with ⟨hcs, _⟩ | ⟨x, l, c, zs, hcs, _, hl, hm, hz, _, hcell, hwz⟩
    · simp [Value.cells] at hcs
      obtain ⟨rfl, rfl, rfl⟩ := hcs
      exact ⟨[], .inl ⟨rfl, rfl, rfl, rfl⟩⟩
    · simp [Value.cells] at hcs
      obtain ⟨rfl, rfl, rfl⟩ := hcs
      exact ⟨zs, .inr ⟨_, rfl, hl, hm, by simpa using hz, hcell, hwz⟩⟩
  clear hA0 hval0
  simp only [List.append_nil] at hW'
  refine (walk (w := W) a0 len0 cap0 z0 w0).mono fun e W' ⟨he, bel⟩ => ?_
  subst he
  exact ⟨_, rfl, _, _, _, [], _, [], hW', trodAll_mk1 (shut_bool Try.underlying4 _), (trodAll_cons_mk (Below.trod laidOut (by kernel_rfl) (of_decide_eq_true (by kernel_rfl)) k0 bel lt0) trodAll_mk0), rfl, bel.frame _, fun h => by cases h⟩

theorem over : Rows.fnTapesRow.holds Try.pinned (OpenSpec.ofChange Rows.fnTapesSpec) :=
  OpenClaim.holds_of_wide 5 Try.f5 rfl rfl rfl rfl rfl rfl rfl ⟨rfl, rfl, rfl, rfl, rfl⟩ rfl rfl rfl rfl rfl (by kernel_rfl) Try.func5 (by kernel_rfl)
    (of_decide_eq_true (by kernel_rfl)) (by unfold Func.isWrapper; first | (rw [if_pos (by decide +kernel)]; kernel_rfl) | (rw [if_neg (by decide +kernel)]; exact ⟨rfl, rfl⟩))
    (fun os started H enc _ => lifted os started H enc)

/-- The statement. -/
theorem proved : Rows.FnTapesSaid := over
end Go.Proofs.Ytknepofclgjmiaa.lawFnTapes
