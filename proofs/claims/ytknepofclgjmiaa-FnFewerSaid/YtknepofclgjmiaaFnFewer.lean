/- The statement FnFewer: as many shares as the degree say nothing about the value. It has no conditions. -/
import Derived.Test.YtknepofclgjmiaaRows
import Derived.WalkKit
import Derived.ProofKit
import Derived.OpenShut
import Derived.ChangeOld
import Derived.Below
import Derived.Lib.SmallJoins
import Derived.RegionTactic
import Derived.Deep.RegionHeld3
import Derived.Deep.DrawnRows
import Derived.Handy
import Derived.Test.YtknepofclgjmiaaDrawCode
import Derived.Test.YtknepofclgjmiaaWords
import Derived.Test.YtknepofclgjmiaaField
import Derived.Test.YtknepofclgjmiaaAlg
import Derived.Test.YtknepofclgjmiaaDrawMore
import Derived.Test.YtknepofclgjmiaaPolyCount
import Derived.Test.YtknepofclgjmiaaCountPoly
namespace Go.Proofs.Ytknepofclgjmiaa.lawFnFewer
open Go.ChangeShapes Go.WideShapes Go.ChangeAt Go.RowKit Go.Joins
set_option linter.unusedVariables false

theorem own : ownKnob Try.prog.godebug = none := by kernel_rfl
theorem laidOut : laidOutB Try.prog = true := by kernel_rfl

theorem SliceI.cell_at {w : World} {B n b off : Nat} {xs : List Int} (h : SliceI w B (some ⟨b, off, none⟩) n xs) (k : Nat) (hk : k < n) : w.cell? ⟨b, off + k, none⟩ = some (.int .i64 (xs.getD k 0)) := by
  obtain ⟨b', off', e, _, hc⟩ := h.at_ hk
  cases e
  exact hc
theorem getD_mem {xs : List Int} {k : Nat} (h : k < xs.length) : xs.getD k 0 ∈ xs := by
  rw [List.getD_eq_getElem?_getD, List.getElem?_eq_getElem h]; exact List.getElem_mem _

attribute [local go_sem ↓] Go.wp_at_zero Go.wp_at_succ
theorem own_sliceC {w : World} {lo n : Nat} {v : Value} {xs : List Int} (h : w.ownsRow lo 3 1 v n (vals xs)) (hn : 0 < n) : ∃ g c, v = .slice (some ⟨g, 0, none⟩) n c ∧ n ≤ c ∧ c ≤ maxLen ∧ SliceI w w.heap.size (some ⟨g, 0, none⟩) n xs := by
  rcases h.2 with ⟨_, h0⟩ | ⟨g, c, _, rfl, _, _, h1, h2, _⟩
  · omega
  · exact ⟨g, c, rfl, h1, h2, OwnI.slice (lo := lo) (c := c) h⟩
theorem SliceI.drop1 {w : World} {B n b off : Nat} {xs : List Int} (h : SliceI w B (some ⟨b, off, none⟩) (n + 1) xs) : SliceI w B (some ⟨b, off + 1, none⟩) n (xs.drop 1) := by
  refine ⟨by rw [List.length_drop, h.len]; omega, fun hn => ?_⟩
  obtain ⟨b', off', e, hb, hc⟩ := h.2 (by omega)
  simp only [Option.some.injEq, Addr.mk.injEq, and_true] at e
  obtain ⟨rfl, rfl⟩ := e
  refine ⟨b, off + 1, rfl, hb, fun k hk => ?_⟩
  have := hc (k + 1) (by omega)
  rw [show off + (k + 1) = off + 1 + k by omega] at this
  rw [this]
  congr 2
  simp [List.getD_eq_getElem?_getD]
def fewAll : Bool := [3, 5].all fun (p : Nat) => [1, 2].all fun (k : Nat) => (List.range p).all fun x => (List.range p).all fun a => (List.range p).all fun b =>
  polysF (p : Int) (x : Int) (k : Int) (([1, 2] : List Int).take k) (([(a : Int), (b : Int)] : List Int).take k) == 1 && polysF (p : Int) (x : Int) (k : Int) ((([1, 2] : List Int).take k).drop 1) ((([(a : Int), (b : Int)] : List Int).take k).drop 1) == (p : Int)
theorem fewAll_true : fewAll = true := by decide +kernel
theorem few_is {p k x a b : Nat} (hp : p = 3 ∨ p = 5) (hk : k = 1 ∨ k = 2) (hx : x < p) (ha : a < p) (hb : b < p) :
    polysF (p : Int) (x : Int) (k : Int) (([1, 2] : List Int).take k) (([(a : Int), (b : Int)] : List Int).take k) = 1 ∧ polysF (p : Int) (x : Int) (k : Int) ((([1, 2] : List Int).take k).drop 1) ((([(a : Int), (b : Int)] : List Int).take k).drop 1) = (p : Int) := by
  have h1 := List.all_eq_true.1 fewAll_true p (by simpa using hp)
  have h2 := List.all_eq_true.1 h1 k (by simpa using hk)
  have h3 := List.all_eq_true.1 h2 x (List.mem_range.2 hx)
  have h4 := List.all_eq_true.1 h3 a (List.mem_range.2 ha)
  have h5 := List.all_eq_true.1 h4 b (List.mem_range.2 hb)
  simpa only [Bool.and_eq_true, beq_iff_eq] using h5
theorem SliceI.dropK {w : World} {B n b : Nat} {xs : List Int} (h : SliceI w B (some ⟨b, 0, none⟩) n xs) (hn : 1 ≤ n) : SliceI w B (some ⟨b, 1, none⟩) (n - 1) (xs.drop 1) := by
  obtain ⟨m, rfl⟩ : ∃ m, n = m + 1 := ⟨n - 1, by omega⟩
  exact SliceI.drop1 h
theorem polys_at {p x k r : Int} {n c c' B B' : Nat} {A A' : Option Addr} {pts vs : List Int} {W : World} (hr : polysF p x k pts vs = r) (hx : SliceI W B A n pts) (hy : SliceI W B' A' n vs) (hB : B ≤ W.heap.size) (hB' : B' ≤ W.heap.size) (hn : n ≤ 5) :
    Calls Try.prog 14 #[.int .i64 p, .int .i64 x, .int .i64 k, .slice A n c, .slice A' n c'] W fun e w' => e = .returned (.int .i64 r) ∧ Below W.heap.size W w' := by
  subst hr
  have l0 := hx.len
  have l1 := hy.len
  have h := c_impl_CountPolys p x k A A' c c' B B' pts vs W (by rw [l0]; exact hx) (by rw [l1]; exact hy) hB hB' (by rw [l0]; unfold maxLen; omega) (by rw [l1]; unfold maxLen; omega)
  rw [l0, l1] at h
  exact h
theorem SliceI.takeK {w : World} {B n : Nat} {A : Option Addr} {xs : List Int} (h : SliceI w B A n xs) {m : Nat} (hm : m ≤ n) : SliceI w B A m (xs.take m) := by
  refine ⟨by rw [List.length_take, h.len]; omega, fun h0 => ?_⟩
  obtain ⟨b, off, e, hb, hc⟩ := h.2 (by omega)
  refine ⟨b, off, e, hb, fun k hk => ?_⟩
  rw [hc k (by omega)]
  congr 2
  simp [List.getD_eq_getElem?_getD, hk]
set_option maxHeartbeats 8000000 in
theorem walk (w : World) (A : Option Addr) (len cap : Nat) (z : List Int) (h : IsRow .u8 w A len cap z) : Calls Try.prog 4 #[.slice A len cap] w fun e w' => e = .returned (.bool true) ∧ Below w.heap.size w w' := by
  obtain ⟨hU, hA⟩ := h.code
  clear h
  by_cases hbig : 1048576 < (len : Int)
  · go_enter Try.func4, Try.ntmps4
    go_wp2_with (go_at_call 11; (with_reducible refine (c_laws_big _ _ _ _).mono ?_); rintro e w' ⟨rfl, rfl⟩)
    go_ret
    exact ⟨rfl, Below.refl _ _⟩
  have hm : len ≤ 1048576 := by omega
  have bel : Below w.heap.size w w := Below.refl _ _
  have HA := Lib.hid hA
  have HU := Lib.hid hU
  clear hA hU
  have hq0 : w.heap.size ≤ w.heap.size := Nat.le_refl _
  go_enter Try.func4, Try.ntmps4
  go_wp2_with (go_at_call 11; (with_reducible refine (c_laws_big _ _ _ _).mono ?_); rintro e w' ⟨rfl, rfl⟩)
  refine (c_spec_DrawPlaces _ _ _ _ _ HU.out (by omega) (by omega)).mono ?_
  rintro e w2 ⟨ps, ⟨hpl, hpr⟩, A_p, c_p, rfl, own, hb⟩
  have hq2 := hb.size
  replace bel := below_next bel hb
  clear HU HA hb
  have hlp : 11 < ps.length := by omega
  have HPR := Lib.hid hpr
  have hsl := own.slice
  obtain ⟨g, off, rfl, hgb, _⟩ := hsl.at_ (k := 0) (by omega)
  obtain ⟨q0, hcell0, hq00, hq01⟩ : ∃ q : Int, w2.cell? ⟨g, off + 0, none⟩ = some (.int .i64 q) ∧ 0 ≤ q ∧ q < 10000 := ⟨_, SliceI.cell_at hsl 0 (by omega), HPR.out _ (getD_mem (by omega))⟩
  obtain ⟨q1, hcell1, hq10, hq11⟩ : ∃ q : Int, w2.cell? ⟨g, off + 1, none⟩ = some (.int .i64 q) ∧ 0 ≤ q ∧ q < 10000 := ⟨_, SliceI.cell_at hsl 1 (by omega), HPR.out _ (getD_mem (by omega))⟩
  obtain ⟨q2, hcell2, hq20, hq21⟩ : ∃ q : Int, w2.cell? ⟨g, off + 2, none⟩ = some (.int .i64 q) ∧ 0 ≤ q ∧ q < 10000 := ⟨_, SliceI.cell_at hsl 2 (by omega), HPR.out _ (getD_mem (by omega))⟩
  obtain ⟨q3, hcell3, hq30, hq31⟩ : ∃ q : Int, w2.cell? ⟨g, off + 3, none⟩ = some (.int .i64 q) ∧ 0 ≤ q ∧ q < 10000 := ⟨_, SliceI.cell_at hsl 3 (by omega), HPR.out _ (getD_mem (by omega))⟩
  simp only [Nat.add_zero] at hcell0
  clear own hsl hpr hpl HPR
  obtain ⟨r, hr1, hr2⟩ : ∃ r : Nat, q0 % 2 = (r : Int) ∧ r < 2 := ⟨(q0 % 2).toNat, by omega, by omega⟩
  obtain ⟨p, hpp, hpc⟩ : ∃ p : Nat, (p = 3 ∨ p = 5) ∧ (w2.alloc (.cells #[.int .i64 3, .int .i64 5] 3)).cell? ⟨w2.heap.size, r, none⟩ = some (.int .i64 (p : Int)) := by
    have hb := Box.new w2 3 #[.int .i64 3, .int .i64 5]
    have h3 : r = 0 ∨ r = 1 := by omega
    rcases h3 with rfl | rfl
    · exact ⟨3, .inl rfl, hb.cell 0⟩
    · exact ⟨5, .inr rfl, hb.cell 1⟩
  have HPP := Lib.hid hpp
  have hp3 : 3 ≤ p := by omega
  have hp5 : p ≤ 5 := by omega
  clear hpp
  obtain ⟨k, hk1, hk2⟩ : ∃ k : Nat, 1 + q1 % 2 = (k : Int) ∧ (k = 1 ∨ k = 2) := ⟨(1 + q1 % 2).toNat, by omega, by omega⟩
  have HK := Lib.hid hk2
  have hk0 : 1 ≤ k := by omega
  have hk3 : k ≤ 2 := by omega
  clear hk2
  have hmod : ∀ q : Int, 0 ≤ q % (p : Int) ∧ q % (p : Int) < (p : Int) := fun q => ⟨Int.emod_nonneg _ (by omega), Int.emod_lt_of_pos _ (by omega)⟩
  obtain ⟨a, ha1, ha2⟩ : ∃ a : Nat, q2 % (p : Int) = (a : Int) ∧ a < p := ⟨(q2 % (p : Int)).toNat, by have := hmod q2; omega, by have := hmod q2; omega⟩
  obtain ⟨b, hb1, hb2⟩ : ∃ a : Nat, q3 % (p : Int) = (a : Int) ∧ a < p := ⟨(q3 % (p : Int)).toNat, by have := hmod q3; omega, by have := hmod q3; omega⟩
  clear hmod
  have hm2 : q2.tmod (p : Int) = (a : Int) := (Int.tmod_eq_emod_of_nonneg hq20).trans ha1
  have hm3 : q3.tmod (p : Int) = (b : Int) := (Int.tmod_eq_emod_of_nonneg hq30).trans hb1
  have l3 : 3 < ps.length := by omega
  generalize ps.length = mm at *
  have l0 : 0 < mm := by omega
  have l1 : 1 < mm := by omega
  have i2 : (2 : Int) < (mm : Int) := by omega
  have i3 : (3 : Int) < (mm : Int) := by omega
  have hr0 : (0 : Int) ≤ (r : Int) := by omega
  have hr3 : (r : Int) < 2 := by omega
  have hpp0 : ((p : Int) == 0) = false := by rw [beq_eq_false_iff_ne]; omega
  have hp0 : ¬ (p : Int) = 0 := by omega
  have kk0 : (0 : Int) ≤ (k : Int) := by omega
  have kk2 : (k : Int) ≤ 2 := by omega
  have hd10 : decide (1048576 < (len : Int)) = false := by rw [decide_eq_false_iff_not]; omega
  have HA1 := Lib.hid ha1
  have HB1 := Lib.hid hb1
  have HK1 := Lib.hid hk1
  clear ha1 hb1
  go_wp2_with fail
  try simp only [HK1.out]
  have r2 : ((w2.alloc (.cells #[.int .i64 3, .int .i64 5] 3)).alloc (.cells #[.int .i64 1, .int .i64 2] 3)).cell? ⟨g, off + 2, none⟩ = some (.int .i64 q2) := (World.cell?_alloc_past _ _ _ (by simp; omega)).trans ((World.cell?_alloc_past _ _ _ hgb).trans hcell2)
  have r3 : ((w2.alloc (.cells #[.int .i64 3, .int .i64 5] 3)).alloc (.cells #[.int .i64 1, .int .i64 2] 3)).cell? ⟨g, off + 3, none⟩ = some (.int .i64 q3) := (World.cell?_alloc_past _ _ _ (by simp; omega)).trans ((World.cell?_alloc_past _ _ _ hgb).trans hcell3)
  have SP := Lib.hid (SliceI.takeK (m := k) (SliceI.two (w2.alloc (.cells #[.int .i64 3, .int .i64 5] 3)) 1 2 3) (by omega))
  have BEL := Lib.hid ((bel.alloc bel.size (.cells #[.int .i64 3, .int .i64 5] 3)).alloc (by simp; omega) (.cells #[.int .i64 1, .int .i64 2] 3))
  have hzz : w2.heap.size + 1 < ((w2.alloc (.cells #[.int .i64 3, .int .i64 5] 3)).alloc (.cells #[.int .i64 1, .int .i64 2] 3)).heap.size := by simp
  simp only [World.size_alloc] at SP
  generalize (w2.alloc (.cells #[.int .i64 3, .int .i64 5] 3)).alloc (.cells #[.int .i64 1, .int .i64 2] 3) = w4 at *
  clear hpc hcell0 hcell1 hcell2 hcell3 hr1 hk1 bel
  go_region
  have SV := Lib.hid (SliceI.takeK (m := k) (SliceI.two w4 (a : Int) (b : Int) 3) (by omega))
  have SP5 := Lib.hid (SliceI.keep (w' := (w4.alloc (.cells #[.int .i64 (a : Int), .int .i64 (b : Int)] 3)).drew) (SliceI.alloc0 (o := .cells #[.int .i64 (a : Int), .int .i64 (b : Int)] 3) SP.out) (fun _ _ _ => rfl))
  have SV5 := Lib.hid (SliceI.keep (w' := (w4.alloc (.cells #[.int .i64 (a : Int), .int .i64 (b : Int)] 3)).drew) SV.out (fun _ _ _ => rfl))
  have BEL5 := Lib.hid ((BEL.out.alloc BEL.out.size (.cells #[.int .i64 (a : Int), .int .i64 (b : Int)] 3)).drew)
  have hz5 : w4.heap.size + 1 ≤ (w4.alloc (.cells #[.int .i64 (a : Int), .int .i64 (b : Int)] 3)).drew.heap.size := by show w4.heap.size + 1 ≤ (w4.alloc _).heap.size; simp
  generalize (w4.alloc (.cells #[.int .i64 (a : Int), .int .i64 (b : Int)] 3)).drew = w5 at *
  clear r2 r3 hm2 hm3 SP SV
  have SPD := Lib.hid (SliceI.dropK SP5.out hk0)
  have SVD := Lib.hid (SliceI.dropK SV5.out hk0)
  have hone : (1 : Int) ≤ (k : Int) := by omega
  have hFEW : ∀ x : Nat, x < p → polysF (p : Int) (x : Int) (k : Int) (([1, 2] : List Int).take k) (([(a : Int), (b : Int)] : List Int).take k) = 1 ∧ polysF (p : Int) (x : Int) (k : Int) ((([1, 2] : List Int).take k).drop 1) ((([(a : Int), (b : Int)] : List Int).take k).drop 1) = (p : Int) := fun x hx => few_is HPP.out HK.out hx ha2 hb2
  have FEW := Lib.hid hFEW
  clear hFEW BEL
  go_wp2_with fail
  go_loopw [8] (fun i wr => ∃ j : Nat, j ≤ p ∧ i = .int .i64 j ∧ Below w5.heap.size w5 wr) (fun i _ => p - (intOf i).toNat)
  case atStart => exact ⟨0, by omega, rfl, Below.refl _ _⟩
  case round =>
    obtain ⟨j, hj, rfl, hbr⟩ := hrel
    by_cases hlt : j < p
    · have hlt' : (j : Int) < (p : Int) := by omega
      have hz6 := hbr.size
      have E1 := Lib.hid (FEW.out j hlt).1
      have E2 := Lib.hid (FEW.out j hlt).2
      have P1 := Lib.hid (SliceI.keep (w' := wr.drew) (SP5.out.below_le hbr (by omega)) (fun _ _ _ => rfl))
      have V1 := Lib.hid (SliceI.keep (w' := wr.drew) (SV5.out.below_le hbr (by omega)) (fun _ _ _ => rfl))
      have P2 := Lib.hid (SPD.out.below_le hbr (by omega))
      have V2 := Lib.hid (SVD.out.below_le hbr (by omega))
      have hBP : w2.heap.size + 1 + 1 ≤ wr.heap.size := by omega
      have hBV : w4.heap.size + 1 ≤ wr.heap.size := by omega
      have hBPd : w2.heap.size + 1 + 1 ≤ wr.drew.heap.size := hBP
      have hBVd : w4.heap.size + 1 ≤ wr.drew.heap.size := hBV
      go_wp2_with fail
      go_region_held3 (fun _ => True) (exact trivial) (first | (go_at_call 14; (with_reducible refine (polys_at E1.out P1.out V1.out hBPd hBVd (by omega)).mono ?_); rintro e w7 ⟨rfl, hb7⟩; have B7 : Below wr.heap.size wr w7 := (Below.refl _ _).drew.trans hb7; have P3 := Lib.hid (P2.out.below_le B7 hBP); have V3 := Lib.hid (V2.out.below_le B7 hBV); have hBP3 := Nat.le_trans hBP B7.size; have hBV3 := Nat.le_trans hBV B7.size) | (go_at_call 14; (with_reducible refine (polys_at E2.out P3.out V3.out hBP3 hBV3 (by omega)).mono ?_); rintro e w8 ⟨rfl, hb8⟩; have B8 := below_next B7 hb8))
      all_goals
        go_wp2_with fail
        go_roundw
        case rel => exact ⟨j + 1, by omega, by go_num, below_next hbr B8⟩
        case measure => simp [intOf]; omega
    · obtain rfl : j = p := by omega
      have hlt' : ¬ (j : Int) < (j : Int) := by omega
      go_wp2_with fail
      go_ret
      exact ⟨rfl, below_next BEL5.out hbr⟩

set_option maxRecDepth 100000 in
theorem lifted (os : Os) (started : os.Started) (H : Type) (enc : TypeId × Value → H) :
    ReturnsInHanded {} Try.checked os 4 .any (Rows.fnFewerSpec.pre6 enc Try.prog Try.f4 Rows.fnFewerRow.domain false) (Rows.fnFewerSpec.post enc Try.prog Try.f4 false true false false) := by
  refine returnsInHanded_of_change (C := Try.checked) own started (by kernel_rfl) Try.func4
    (ChangeSpec.witness6 (enc := enc) (C := Try.checked) false ⟨#[], #[.slice none 0 0], []⟩ 8 (by kernel_rfl) (by kernel_rfl) (by kernel_rfl) (by kernel_rfl)) ?_
  intro W base args ds gs before hval0 hW hcnd _
  have hval : ∀ (j : Nat) t v, Try.f4.params[j]? = some t → args[j]? = some v → Value.okWide Try.prog W .any base t v := hval0
  have hW' := hW
  obtain ⟨p, q, hA0, hV, rfl, hfz, hnd⟩ := hW
  have hA : DataW.TrodAll enc Try.prog W 0 (fun _ => true) true Try.f4.params.toList args.toList ds p := hA0
  rw [Try.params4] at hA hval
  obtain ⟨v0, vs0, d0, ds0, p0, q0, hargs, rfl, rfl, h0, r0⟩ := trodAll_cons hA
  obtain ⟨rfl, rfl, rfl⟩ := trodAll_nil r0
  obtain rfl : args = #[v0] := by cases args; simp_all
  obtain ⟨rfl, rfl⟩ := trodVars_none hV
  obtain ⟨a0, len0, cap0, rfl⟩ := okWide_slice Try.underlying22 (hval 0 22 v0 rfl rfl)
  have k0 := h0
  have lt0 : ∀ x ∈ p0, x.block < W.heap.size := by obtain ⟨m, hm⟩ := k0; exact DataW.trod_lt m _ _ _ hm
  obtain ⟨z0, w0⟩ : ∃ zs, IsRow .u8 W a0 len0 cap0 zs := by
    obtain ⟨fuel, hf⟩ := h0
    rcases open_ints Try.underlying22 Try.underlying5 (by kernel_rfl) hf with ⟨hcs, _⟩ | ⟨x, l, c, zs, hcs, _, hl, hm, hz, _, hcell, hwz⟩
    · simp [Value.cells] at hcs
      obtain ⟨rfl, rfl, rfl⟩ := hcs
      exact ⟨[], .inl ⟨rfl, rfl, rfl, rfl⟩⟩
    · simp [Value.cells] at hcs
      obtain ⟨rfl, rfl, rfl⟩ := hcs
      exact ⟨zs, .inr ⟨_, rfl, hl, hm, by simpa using hz, hcell, hwz⟩⟩
  clear hA0 hval0
  simp only [List.append_nil] at hW'
  refine (walk (w := W) a0 len0 cap0 z0 w0).mono fun e W' ⟨he, bel⟩ => ?_
  subst he
  exact ⟨_, rfl, _, _, _, [], _, [], hW', trodAll_mk1 (shut_bool Try.underlying4 _), (trodAll_cons_mk (Below.trod laidOut (by kernel_rfl) (of_decide_eq_true (by kernel_rfl)) k0 bel lt0) trodAll_mk0), rfl, bel.frame _, fun h => by cases h⟩

theorem over : Rows.fnFewerRow.holds Try.pinned (OpenSpec.ofChange Rows.fnFewerSpec) :=
  OpenClaim.holds_of_wide 4 Try.f4 rfl rfl rfl rfl rfl rfl rfl ⟨rfl, rfl, rfl, rfl, rfl⟩ rfl rfl rfl rfl rfl (by kernel_rfl) Try.func4 (by kernel_rfl)
    (of_decide_eq_true (by kernel_rfl)) (by unfold Func.isWrapper; first | (rw [if_pos (by decide +kernel)]; kernel_rfl) | (rw [if_neg (by decide +kernel)]; exact ⟨rfl, rfl⟩))
    (fun os started H enc _ => lifted os started H enc)

/-- The statement. -/
theorem proved : Rows.FnFewerSaid := over
end Go.Proofs.Ytknepofclgjmiaa.lawFnFewer
