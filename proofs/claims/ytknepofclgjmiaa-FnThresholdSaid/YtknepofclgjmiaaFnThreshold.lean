/- The statement FnThreshold: more shares than the degree open the value, whichever they are. It has no conditions. -/
import Derived.Test.YtknepofclgjmiaaRows
import Derived.WalkKit
import Derived.ProofKit
import Derived.OpenShut
import Derived.ChangeOld
import Derived.Below
import Derived.Lib.SmallJoins
import Derived.Test.YtknepofclgjmiaaDrawCode
import Derived.Test.YtknepofclgjmiaaWords
import Derived.Test.YtknepofclgjmiaaField
import Derived.Test.YtknepofclgjmiaaAlg
import Derived.Test.YtknepofclgjmiaaDrawMore
import Derived.Test.YtknepofclgjmiaaInterp
namespace Go.Proofs.Ytknepofclgjmiaa.lawFnThreshold
open Go.ChangeShapes Go.WideShapes Go.ChangeAt Go.RowKit Go.Joins
set_option linter.unusedVariables false

theorem own : ownKnob Try.prog.godebug = none := by kernel_rfl
theorem laidOut : laidOutB Try.prog = true := by kernel_rfl

theorem SliceI.cell_at {w : World} {B n b off : Nat} {xs : List Int} (h : SliceI w B (some ⟨b, off, none⟩) n xs) (k : Nat) (hk : k < n) : w.cell? ⟨b, off + k, none⟩ = some (.int .i64 (xs.getD k 0)) := by
  obtain ⟨b', off', e, _, hc⟩ := h.at_ hk
  cases e
  exact hc
theorem getD_mem {xs : List Int} {k : Nat} (h : k < xs.length) : xs.getD k 0 ∈ xs := by
  rw [List.getD_eq_getElem?_getD, List.getElem?_eq_getElem h]; exact List.getElem_mem _

theorem own_sliceC {w : World} {lo n : Nat} {v : Value} {xs : List Int} (h : w.ownsRow lo 3 1 v n (vals xs)) (hn : 0 < n) : ∃ g c, v = .slice (some ⟨g, 0, none⟩) n c ∧ n ≤ c ∧ c ≤ maxLen ∧ SliceI w w.heap.size (some ⟨g, 0, none⟩) n xs := by
  rcases h.2 with ⟨_, h0⟩ | ⟨g, c, _, rfl, _, _, h1, h2, _⟩
  · omega
  · exact ⟨g, c, rfl, h1, h2, OwnI.slice (lo := lo) (c := c) h⟩
theorem SliceI.drop1 {w : World} {B n b off : Nat} {xs : List Int} (h : SliceI w B (some ⟨b, off, none⟩) (n + 1) xs) : SliceI w B (some ⟨b, off + 1, none⟩) n (xs.drop 1) := by
  refine ⟨by rw [List.length_drop, h.len]; omega, fun hn => ?_⟩
  obtain ⟨b', off', e, hb, hc⟩ := h.2 (by omega)
  simp only [Option.some.injEq, Addr.mk.injEq, and_true] at e
  obtain ⟨rfl, rfl⟩ := e
  refine ⟨b, off + 1, rfl, hb, fun k hk => ?_⟩
  have := hc (k + 1) (by omega)
  rw [show off + (k + 1) = off + 1 + k by omega] at this
  rw [this]
  congr 2
  simp [List.getD_eq_getElem?_getD]
theorem ptsF_succ (f j : Nat) : vals (ptsF f j) ++ [.int .i64 ((f : Int) + (j : Int) + 1)] = vals (ptsF f (j + 1)) := by simp [ptsF, vals, List.range_succ]
theorem SliceI.mid {w : World} {B n b : Nat} {xs : List Int} (h : SliceI w B (some ⟨b, 0, none⟩) n xs) {f m : Nat} (hf : f + m ≤ n) : SliceI w B (some ⟨b, f, none⟩) m ((xs.drop f).take m) := by
  refine ⟨by rw [List.length_take, List.length_drop, h.len]; omega, fun hn => ?_⟩
  obtain ⟨b', off', e, hb, hc⟩ := h.2 (by omega)
  simp only [Option.some.injEq, Addr.mk.injEq, and_true] at e
  obtain ⟨rfl, rfl⟩ := e
  refine ⟨b, f, rfl, hb, fun k hk => ?_⟩
  rw [drop_take_get hk]
  have := hc (f + k) (by omega)
  rw [Nat.zero_add] at this
  exact this
theorem own_nil_at' {W : World} {base g : Nat} (h : W.heap.size = g) (hb : base ≤ g) : (W.alloc (.cells #[] 3)).ownsRow base 3 1 (.slice (some ⟨g, 0, none⟩) 0 0) 0 (vals []) := by
  subst h
  exact World.ownsRow_lit W #[] 0 hb (by simp [maxLen]) rfl
theorem tapeL_share {p x s t : Int} {n k : Nat} (hp : primes4 p) (hx : isEl p x = true) (hn : 1 ≤ n) (hn5 : n ≤ 5) (hk : k < n) (hs : 0 ≤ s ∧ s ≤ 4294967295) (ht : 0 ≤ t ∧ t < 60) :
    polyF p x (n : Int) (k : Int) s t = polyVals p (x :: tapeL s t p k) n ∧ polyN p x (n : Int) (k : Int) s t = t + (k : Int) := by
  have hb := primes4_big hp
  have h2 : tapeLok s t p (k : Int) = true := by
    simp only [tapeLok, Bool.and_eq_true, inB_iff, tapeOk_iff, decide_eq_true_eq]; omega
  have h1 : polyOk p x (n : Int) (k : Int) s t = true := by
    simp only [polyOk, Bool.and_eq_true, inB_iff, decide_eq_true_eq, tapeLow, tapeOk_iff]
    exact ⟨⟨⟨⟨hx, by omega⟩, by omega⟩, by omega⟩, by omega⟩
  constructor
  · unfold polyF; rw [if_pos h1]; unfold tapeLF; rw [if_pos h2, Int.toNat_natCast, Int.toNat_natCast]
  · unfold polyN; rw [if_pos h1]; unfold tapeLN; rw [if_pos h2]
theorem coef_el {p x s t : Int} {k : Nat} (hp : primes4 p) (hx : isEl p x = true) : allEl p (x :: tapeL s t p k) = true := allEl_cons hx (tapeL_el (primes4_field hp) k)
theorem coef_len {p x s t : Int} {k : Nat} : (x :: tapeL s t p k).length = k + 1 := by simp [tapeL_len]
theorem polyV_zero (x : Int) (l : List Int) : polyV 0 (x :: l) = x := by simp [polyV]
set_option maxHeartbeats 8000000 in
theorem walk (w : World) (A : Option Addr) (len cap : Nat) (z : List Int) (h : IsRow .u8 w A len cap z) : Calls Try.prog 9 #[.slice A len cap] w fun e w' => e = .returned (.bool true) ∧ Below w.heap.size w w' := by
  obtain ⟨hU, hA⟩ := h.code
  clear h
  by_cases hbig : 1048576 < (len : Int)
  · go_enter Try.func9, Try.ntmps9
    go_wp2_with (go_at_call 11; (with_reducible refine (c_laws_big _ _ _ _).mono ?_); rintro e w' ⟨rfl, rfl⟩)
    go_ret
    exact ⟨rfl, Below.refl _ _⟩
  have hm : len ≤ 1048576 := by omega
  have bel : Below w.heap.size w w := Below.refl _ _
  have HA := Lib.hid hA
  have HU := Lib.hid hU
  clear hA hU
  have hq0 : w.heap.size ≤ w.heap.size := Nat.le_refl _
  go_enter Try.func9, Try.ntmps9
  go_wp2_with (go_at_call 11; (with_reducible refine (c_laws_big _ _ _ _).mono ?_); rintro e w' ⟨rfl, rfl⟩)
  obtain ⟨i0, hi, hz0, hz1, hz2⟩ := info_parts int_info
  have HZ := Lib.hid (And.intro hz1 hz2)
  clear hz1 hz2
  refine (c_spec_DrawPlaces _ _ _ _ _ HU.out (by omega) (by omega)).mono ?_
  rintro e w2 ⟨ps, ⟨hpl, hpr⟩, A_p, c_p, rfl, own, hb⟩
  have hq2 := hb.size
  replace bel := below_next bel hb
  have HU2 := Lib.hid (HU.out.below' hb (by omega))
  clear HU HA hb
  have hlp : 11 < ps.length := by omega
  have HPR := Lib.hid hpr
  have hsl := own.slice
  obtain ⟨g, off, rfl, hgb, _⟩ := hsl.at_ (k := 0) (by omega)
  obtain ⟨q0, hcell0, hq00, hq01⟩ : ∃ q : Int, w2.cell? ⟨g, off + 0, none⟩ = some (.int .i64 q) ∧ 0 ≤ q ∧ q < 10000 := ⟨_, SliceI.cell_at hsl 0 (by omega), HPR.out _ (getD_mem (by omega))⟩
  obtain ⟨q1, hcell1, hq10, hq11⟩ : ∃ q : Int, w2.cell? ⟨g, off + 1, none⟩ = some (.int .i64 q) ∧ 0 ≤ q ∧ q < 10000 := ⟨_, SliceI.cell_at hsl 1 (by omega), HPR.out _ (getD_mem (by omega))⟩
  obtain ⟨q2, hcell2, hq20, hq21⟩ : ∃ q : Int, w2.cell? ⟨g, off + 2, none⟩ = some (.int .i64 q) ∧ 0 ≤ q ∧ q < 10000 := ⟨_, SliceI.cell_at hsl 2 (by omega), HPR.out _ (getD_mem (by omega))⟩
  obtain ⟨q3, hcell3, hq30, hq31⟩ : ∃ q : Int, w2.cell? ⟨g, off + 3, none⟩ = some (.int .i64 q) ∧ 0 ≤ q ∧ q < 10000 := ⟨_, SliceI.cell_at hsl 3 (by omega), HPR.out _ (getD_mem (by omega))⟩
  obtain ⟨q4, hcell4, hq40, hq41⟩ : ∃ q : Int, w2.cell? ⟨g, off + 4, none⟩ = some (.int .i64 q) ∧ 0 ≤ q ∧ q < 10000 := ⟨_, SliceI.cell_at hsl 4 (by omega), HPR.out _ (getD_mem (by omega))⟩
  simp only [Nat.add_zero] at hcell0
  clear own hsl hpr hpl HPR
  obtain ⟨r, hr1, hr2⟩ : ∃ r : Nat, q0 % 4 = (r : Int) ∧ r < 4 := ⟨(q0 % 4).toNat, by omega, by omega⟩
  obtain ⟨p, hpp, hpc⟩ : ∃ p : Int, primes4 p ∧ (w2.alloc (.cells #[.int .i64 7, .int .i64 11, .int .i64 13, .int .i64 97] 3)).cell? ⟨w2.heap.size, r, none⟩ = some (.int .i64 p) := by
    have hb := Box.new w2 3 #[.int .i64 7, .int .i64 11, .int .i64 13, .int .i64 97]
    have h3 : r = 0 ∨ r = 1 ∨ r = 2 ∨ r = 3 := by omega
    rcases h3 with rfl | rfl | rfl | rfl
    · exact ⟨7, by unfold primes4; omega, hb.cell 0⟩
    · exact ⟨11, by unfold primes4; omega, hb.cell 1⟩
    · exact ⟨13, by unfold primes4; omega, hb.cell 2⟩
    · exact ⟨97, by unfold primes4; omega, hb.cell 3⟩
  have HP := Lib.hid hpp
  have hpb := primes4_big hpp
  have hp7 := hpb.1
  have hp97 := hpb.2
  clear hpp hpb
  have lps : 4 < ps.length := by omega
  have l0 : 0 < ps.length := by omega
  have l1 : 1 < ps.length := by omega
  have l2 : 2 < ps.length := by omega
  have l3 : 3 < ps.length := by omega
  generalize ps.length = mm at *
  obtain ⟨n, hn1, hn2, hn5⟩ : ∃ n : Nat, 2 + q1 % 4 = (n : Int) ∧ 2 ≤ n ∧ n ≤ 5 := ⟨(2 + q1 % 4).toNat, by omega, by omega, by omega⟩
  have hmod : 0 ≤ q2 % (n : Int) ∧ q2 % (n : Int) < (n : Int) := ⟨Int.emod_nonneg _ (by omega), Int.emod_lt_of_pos _ (by omega)⟩
  obtain ⟨k, hk1, hk2⟩ : ∃ k : Nat, q2 % (n : Int) = (k : Int) ∧ k < n := ⟨(q2 % (n : Int)).toNat, by omega, by omega⟩
  clear hmod
  have hmod : 0 ≤ q4 % ((n : Int) - (k : Int)) ∧ q4 % ((n : Int) - (k : Int)) < (n : Int) - (k : Int) := ⟨Int.emod_nonneg _ (by omega), Int.emod_lt_of_pos _ (by omega)⟩
  obtain ⟨f, hf1, hf2⟩ : ∃ f : Nat, q4 % ((n : Int) - (k : Int)) = (f : Int) ∧ f + k < n := ⟨(q4 % ((n : Int) - (k : Int))).toNat, by omega, by omega⟩
  clear hmod
  obtain ⟨x, hx1, HX⟩ : ∃ x : Int, q3 % p = x ∧ Hid (isEl p x = true) := ⟨_, rfl, Lib.hid (el_mod (primes4_field HP.out) q3)⟩
  have hx0 := el_lo HX.out
  have hxp := el_hi HX.out
  have hr0 : (0 : Int) ≤ (r : Int) := by omega
  have hr3 : (r : Int) < 4 := by omega
  have hpp0 : (p == 0) = false := by rw [beq_eq_false_iff_ne]; omega
  have hnn0 : ((n : Int) == 0) = false := by rw [beq_eq_false_iff_ne]; omega
  have hd10 : decide (1048576 < (len : Int)) = false := by rw [decide_eq_false_iff_not]; omega
  go_wp2_with fail
  simp only [hk1, hx1]
  refine (c_spec_DrawTape _ _ _ _ _ (HU2.out.alloc (by omega)) (by simp; omega) (by omega)).mono ?_
  rintro e w3 ⟨s, t, ⟨hs, ht⟩, rfl, hb⟩
  obtain ⟨bel2, _⟩ := start1 hb
  have bel3 := below_next bel bel2
  have hcell4' := (bel2.cell (p := ⟨g, off + 4, none⟩) hgb).trans hcell4
  have hgb3 := Nat.lt_of_lt_of_le hgb bel2.size
  have HS := Lib.hid hs
  have ht' : 0 ≤ t ∧ t < 60 := by omega
  have HT := Lib.hid ht'
  clear hb bel2 hpc hcell0 hcell1 hcell2 hcell3 hcell4 hs ht ht'
  have HF := Lib.hid hf1
  clear hr1 hn1 hk1 hx1 hf1
  go_wp2_with fail
  refine (c_impl_SharePoly _ _ _ _ _ _ _).mono ?_
  obtain ⟨e1, e2⟩ := tapeL_share (n := n) (k := k) HP.out HX.out (by omega) hn5 hk2 HS.out HT.out
  have HSH := Lib.hid (share_vals (n := n) HP.out hn5 (coef_el (s := s) (t := t) (k := k) HP.out HX.out))
  have HV0 := Lib.hid (show polyV 0 (x :: tapeL s t p k) % p = x by rw [polyV_zero, el_same HX.out])
  have HCL := Lib.hid (coef_len (p := p) (x := x) (s := s) (t := t) (k := k))
  rw [e1, e2]
  clear e1 e2
  generalize polyVals p (x :: tapeL s t p k) n = S at HSH ⊢
  generalize x :: tapeL s t p k = cs at HSH HV0 HCL
  rintro e w4 ⟨A_s, c_s, rfl, own, hb⟩
  have hSl := HSH.out.1
  rw [hSl] at own ⊢
  have HSL := Lib.hid hSl
  clear hSl
  obtain ⟨gs, c_s', hv, hcs, hcm, hsl⟩ := own_sliceC own (by omega)
  simp only [Value.slice.injEq] at hv
  obtain ⟨rfl, _, rfl⟩ := hv
  have HSS := Lib.hid hsl
  have hgs := OwnI.lt own _ rfl
  have bel4 := below_next bel3 hb
  have hcell4 := (hb.cell (p := ⟨g, off + 4, none⟩) hgb3).trans hcell4'
  unfold maxLen at hcm
  clear own hb hsl hcell4' hgb3
  have hcell5 : (w4.alloc (.cells #[.int .i64 s, .int .i64 (t + (k : Int))] 29)).cell? ⟨g, off + 4, none⟩ = some (.int .i64 q4) := by rw [World.cell?_alloc_some _ _ _ (by rw [hcell4]; rfl)]; exact hcell4
  have hnk1 : (1 : Int) ≤ (n : Int) - (k : Int) := by omega
  have hnk2 : ¬ (n : Int) - (k : Int) = 0 := by omega
  have hf1 := HF.out
  have hnk : (((n : Int) - (k : Int)) == 0) = false := by rw [beq_eq_false_iff_ne]; omega
  go_wp2_with fail
  try simp only [hf1]

  have hb9 := (bel4.alloc bel4.size (.cells #[.int .i64 s, .int .i64 (t + (k : Int))] 29))
  have HSS5 := Lib.hid (SliceI.alloc0 (o := .cells #[.int .i64 s, .int .i64 (t + (k : Int))] 29) HSS.out)
  have HS5 := Lib.hid (show (w4.alloc (.cells #[.int .i64 s, .int .i64 (t + (k : Int))] 29)).heap.size = w4.heap.size + 1 by simp)
  have hz5 : w4.heap.size < (w4.alloc (.cells #[.int .i64 s, .int .i64 (t + (k : Int))] 29)).heap.size := by simp
  generalize w4.alloc (.cells #[.int .i64 s, .int .i64 (t + (k : Int))] 29) = w5 at *
  clear hcell4 hcell5 hf1
  go_loopw [11, 12] (fun v i wr => ∃ j : Nat, j ≤ k + 1 ∧ i = .int .i64 ((f : Int) + (j : Int)) ∧ wr.ownsRow w5.heap.size 3 1 v j (vals (ptsF f j)) ∧ Below w5.heap.size w5 wr) (fun _ i _ => (f + k + 1 - (intOf i).toNat))
  case atStart => exact ⟨0, by omega, by simp, own_nil_at' HS5.out (Nat.le_of_eq HS5.out), (Below.refl _ _).alloc (Nat.le_refl _) _⟩
  case round =>
    obtain ⟨j, hj, rfl, hown, hbr⟩ := hrel
    by_cases hlt : j < k + 1
    · have HOWN := Lib.hid hown
      clear hown
      have hst := Lib.hid (ptsF_succ f j)
      have hlt' : (f : Int) + (j : Int) ≤ (f : Int) + (k : Int) := by omega
      go_wp2_with (at_builtin; refine wpList_append_own _ rfl (.tmp 69) (.tmp 72) 24 rfl w5.heap.size 3 i0 (.int .i64 0) 1 8 Try.underlying24 hi hz0 HZ.out.1 HZ.out.2 rfl (by decide) _ _ _ rfl (HOWN.out.alloc _) ⟨_, 0, none⟩ 1 1 [.int .i64 _] rfl rfl (cell_one_new _ _ _) (by simp [Value.oneCell']) (by unfold maxLen; omega) (by omega) (by have := hbr.size; simp; omega) ?_; intro v' w6 hown6 hgrow6 _)
      have hb3 := below_app hbr HOWN.out hgrow6
      go_roundw
      case rel => exact ⟨j + 1, by omega, by first | go_num | (congr 1; omega), by rw [← hst.out]; exact hown6, hb3⟩
      case measure => simp [intOf]; omega
    · obtain rfl : j = k + 1 := by omega
      obtain ⟨gv, cv, rfl, hcn, hcm2, hsv⟩ := own_sliceC hown (by omega)
      have hlt' : ¬ (f : Int) + ((k + 1 : Nat) : Int) ≤ (f : Int) + (k : Int) := by omega
      have hsr := HSS5.out.below_le hbr (by omega)
      have belr := below_next hb9 hbr
      have hszr := hbr.size
      have HMID := Lib.hid (SliceI.mid hsr (f := f) (m := k + 1) (by omega))
      have HSR := Lib.hid (hsr.more (show w4.heap.size ≤ wr.heap.size by omega))
      have HSVV := Lib.hid hsv
      have hlm : ((S.drop f).take (k + 1)).length = k + 1 := by rw [List.length_take, List.length_drop, HSL.out]; omega
      have HO : Hid (Calls Try.prog 30 #[.int .i64 p, .slice (some ⟨gv, 0, none⟩) (k + 1) cv, .slice (some ⟨gs, f, none⟩) (f + k + 1 - f) (c_s - f)] wr fun e w' => e = .returned (.int .i64 x) ∧ Below wr.heap.size wr w') := by
        have h := c_impl_OpenPoly p (some ⟨gv, 0, none⟩) (some ⟨gs, f, none⟩) cv (c_s - f) _ _ (ptsF f (k + 1)) ((S.drop f).take (k + 1)) wr (by rw [ptsF_len]; exact hsv) (by rw [hlm]; exact HMID.out) (Nat.le_refl _) (by omega) (by rw [ptsF_len]; unfold maxLen; omega) (by rw [hlm]; unfold maxLen; omega) (by rw [ptsF_len]; exact hcn)
        rw [ptsF_len, hlm, share_open HP.out HSH.out (by omega) (Nat.le_of_eq HCL.out) (by omega) hn5, HV0.out] at h
        rw [show f + k + 1 - f = k + 1 by omega]
        exact h
      have HC : Hid (∀ W : World, Below wr.heap.size wr W → Calls Try.prog 23 #[.int .i64 p, .slice (some ⟨gs, 0, none⟩) n c_s, .int .i64 (k : Int)] W fun e w' => e = .returned (.bool true) ∧ Below W.heap.size W w') := by
        intro W hW
        have h := c_impl_PolyConsistent p (k : Int) (some ⟨gs, 0, none⟩) c_s W.heap.size S W (by rw [HSL.out]; exact HSR.out.next hW) (Nat.le_refl _) (by rw [HSL.out]; unfold maxLen; omega) (by rw [HSL.out]; exact hcs)
        rw [HSL.out, share_cons HP.out HSH.out (Nat.le_of_eq HCL.out) (by omega) hn5] at h
        exact h
      have HPA : Hid (∀ W : World, Calls Try.prog 31 #[.int .i64 p, .slice (some ⟨W.heap.size, 0, none⟩) 1 1, .int .i64 3] (W.alloc (.cells #[.int .i64 x] 3)) fun e w' => e = .returned (.int .i64 x) ∧ (W.alloc (.cells #[.int .i64 x] 3)) = w') := by
        intro W
        have h := c_impl_PolyAt p 3 (some ⟨W.heap.size, 0, none⟩) 1 1 _ [x] (W.alloc (.cells #[.int .i64 x] 3)) (SliceI.one W x _) (by unfold maxLen; omega)
        have hf := primes4_field HP.out
        rw [show polyAt p [x] 3 = x by
          have h3 : isEl p 3 = true := isEl_iff.2 ⟨hf, by omega, by omega⟩
          have hc : allEl p [x] = true := allEl_cons HX.out (allEl_iff.2 ⟨hf, by simp⟩)
          simp [polyAt, h3, hc, horner, el_same HX.out]] at h
        exact h
      have hi1 : (0 : Int) ≤ (f : Int) := by omega
      have hi2 : (f : Int) ≤ (f : Int) + (k : Int) + 1 := by omega
      have hi3 : (f : Int) + (k : Int) + 1 ≤ (c_s : Int) := by omega
      have hi4 : ¬ f = c_s := by omega
      have hi5 : f < c_s := by omega
      clear hown hsv hsr hlm

      go_wp2_with (first | (go_at_call 30; (with_reducible refine HO.out.mono ?_); rintro e w7 ⟨rfl, hb7⟩) | (go_at_call 23; (with_reducible refine (HC.out _ hb7).mono ?_); rintro e w8 ⟨rfl, hb8⟩) | (go_at_call 31; (with_reducible refine (HPA.out _).mono ?_); rintro e w' ⟨rfl, rfl⟩))
      go_ret
      have bel9 := below_next (below_next belr hb7) hb8
      exact ⟨rfl, bel9.alloc bel9.size _⟩

set_option maxRecDepth 100000 in
theorem lifted (os : Os) (started : os.Started) (H : Type) (enc : TypeId × Value → H) :
    ReturnsInHanded {} Try.checked os 9 .any (Rows.fnThresholdSpec.pre6 enc Try.prog Try.f9 Rows.fnThresholdRow.domain false) (Rows.fnThresholdSpec.post enc Try.prog Try.f9 false true false false) := by
  refine returnsInHanded_of_change (C := Try.checked) own started (by kernel_rfl) Try.func9
    (ChangeSpec.witness6 (enc := enc) (C := Try.checked) false ⟨#[], #[.slice none 0 0], []⟩ 8 (by kernel_rfl) (by kernel_rfl) (by kernel_rfl) (by kernel_rfl)) ?_
  intro W base args ds gs before hval0 hW hcnd _
  have hval : ∀ (j : Nat) t v, Try.f9.params[j]? = some t → args[j]? = some v → Value.okWide Try.prog W .any base t v := hval0
  have hW' := hW
  obtain ⟨p, q, hA0, hV, rfl, hfz, hnd⟩ := hW
  have hA : DataW.TrodAll enc Try.prog W 0 (fun _ => true) true Try.f9.params.toList args.toList ds p := hA0
  rw [Try.params9] at hA hval
  obtain ⟨v0, vs0, d0, ds0, p0, q0, hargs, rfl, rfl, h0, r0⟩ := trodAll_cons hA
  obtain ⟨rfl, rfl, rfl⟩ := trodAll_nil r0
  obtain rfl : args = #[v0] := by cases args; simp_all
  obtain ⟨rfl, rfl⟩ := trodVars_none hV
  obtain ⟨a0, len0, cap0, rfl⟩ := okWide_slice Try.underlying22 (hval 0 22 v0 rfl rfl)
  have k0 := h0
  have lt0 : ∀ x ∈ p0, x.block < W.heap.size := by obtain ⟨m, hm⟩ := k0; exact DataW.trod_lt m _ _ _ hm
  obtain ⟨z0, w0⟩ : ∃ zs, IsRow .u8 W a0 len0 cap0 zs := by
    obtain ⟨fuel, hf⟩ := h0
    rcases open_ints Try.underlying22 Try.underlying5 (by kernel_rfl) hf with ⟨hcs, _⟩ | ⟨x, l, c, zs, hcs, _, hl, hm, hz, _, hcell, hwz⟩
    · simp [Value.cells] at hcs
      obtain ⟨rfl, rfl, rfl⟩ := hcs
      exact ⟨[], .inl ⟨rfl, rfl, rfl, rfl⟩⟩
    · simp [Value.cells] at hcs
      obtain ⟨rfl, rfl, rfl⟩ := hcs
      exact ⟨zs, .inr ⟨_, rfl, hl, hm, by simpa using hz, hcell, hwz⟩⟩
  clear hA0 hval0
  simp only [List.append_nil] at hW'
  refine (walk (w := W) a0 len0 cap0 z0 w0).mono fun e W' ⟨he, bel⟩ => ?_
  subst he
  exact ⟨_, rfl, _, _, _, [], _, [], hW', trodAll_mk1 (shut_bool Try.underlying4 _), (trodAll_cons_mk (Below.trod laidOut (by kernel_rfl) (of_decide_eq_true (by kernel_rfl)) k0 bel lt0) trodAll_mk0), rfl, bel.frame _, fun h => by cases h⟩

theorem over : Rows.fnThresholdRow.holds Try.pinned (OpenSpec.ofChange Rows.fnThresholdSpec) :=
  OpenClaim.holds_of_wide 9 Try.f9 rfl rfl rfl rfl rfl rfl rfl ⟨rfl, rfl, rfl, rfl, rfl⟩ rfl rfl rfl rfl rfl (by kernel_rfl) Try.func9 (by kernel_rfl)
    (of_decide_eq_true (by kernel_rfl)) (by unfold Func.isWrapper; first | (rw [if_pos (by decide +kernel)]; kernel_rfl) | (rw [if_neg (by decide +kernel)]; exact ⟨rfl, rfl⟩))
    (fun os started H enc _ => lifted os started H enc)

/-- The statement. -/
theorem proved : Rows.FnThresholdSaid := over
end Go.Proofs.Ytknepofclgjmiaa.lawFnThreshold
