/- The statement FnAllButOne: the shares of all parties but one say nothing about the value. It has no conditions. -/
import Derived.Test.YtknepofclgjmiaaRows
import Derived.WalkKit
import Derived.ProofKit
import Derived.OpenShut
import Derived.ChangeOld
import Derived.Below
import Derived.Lib.SmallJoins
import Derived.Test.YtknepofclgjmiaaDrawCode
import Derived.Test.YtknepofclgjmiaaWords
import Derived.Test.YtknepofclgjmiaaField
import Derived.Test.YtknepofclgjmiaaAlg
import Derived.Test.YtknepofclgjmiaaDrawMore
import Derived.Test.YtknepofclgjmiaaCount
namespace Go.Proofs.Ytknepofclgjmiaa.lawFnAllButOne
open Go.ChangeShapes Go.WideShapes Go.ChangeAt Go.RowKit Go.Joins
set_option linter.unusedVariables false

theorem own : ownKnob Try.prog.godebug = none := by kernel_rfl
theorem laidOut : laidOutB Try.prog = true := by kernel_rfl

theorem SliceI.cell_at {w : World} {B n b off : Nat} {xs : List Int} (h : SliceI w B (some ⟨b, off, none⟩) n xs) (k : Nat) (hk : k < n) : w.cell? ⟨b, off + k, none⟩ = some (.int .i64 (xs.getD k 0)) := by
  obtain ⟨b', off', e, _, hc⟩ := h.at_ hk
  cases e
  exact hc
theorem getD_mem {xs : List Int} {k : Nat} (h : k < xs.length) : xs.getD k 0 ∈ xs := by
  rw [List.getD_eq_getElem?_getD, List.getElem?_eq_getElem h]; exact List.getElem_mem _

theorem own_sliceC {w : World} {lo n : Nat} {v : Value} {xs : List Int} (h : w.ownsRow lo 3 1 v n (vals xs)) (hn : 0 < n) : ∃ g c, v = .slice (some ⟨g, 0, none⟩) n c ∧ n ≤ c ∧ c ≤ maxLen ∧ SliceI w w.heap.size (some ⟨g, 0, none⟩) n xs := by
  rcases h.2 with ⟨_, h0⟩ | ⟨g, c, _, rfl, _, _, h1, h2, _⟩
  · omega
  · exact ⟨g, c, rfl, h1, h2, OwnI.slice (lo := lo) (c := c) h⟩
theorem SliceI.drop1 {w : World} {B n b off : Nat} {xs : List Int} (h : SliceI w B (some ⟨b, off, none⟩) (n + 1) xs) : SliceI w B (some ⟨b, off + 1, none⟩) n (xs.drop 1) := by
  refine ⟨by rw [List.length_drop, h.len]; omega, fun hn => ?_⟩
  obtain ⟨b', off', e, hb, hc⟩ := h.2 (by omega)
  simp only [Option.some.injEq, Addr.mk.injEq, and_true] at e
  obtain ⟨rfl, rfl⟩ := e
  refine ⟨b, off + 1, rfl, hb, fun k hk => ?_⟩
  have := hc (k + 1) (by omega)
  rw [show off + (k + 1) = off + 1 + k by omega] at this
  rw [this]
  congr 2
  simp [List.getD_eq_getElem?_getD]
theorem count1 {p a n : Int} {vs : List Int} (hf : fieldOk p = true) (h13 : p ≤ 13) (ha : isEl p a = true) (hn : 1 ≤ n) (hn4 : n ≤ 4) (hl : (vs.length : Int) + 1 = n) (hv : allEl p vs = true) : countF p a n vs = 1 := by
  rw [countF_yes ha (inB_iff.2 ⟨hn, hn4⟩) (by omega) hv h13, show (n - (vs.length : Int)).toNat = 1 by omega]
  simp [cntv]
theorem count2 {p a n : Int} {vs : List Int} (hf : fieldOk p = true) (h13 : p ≤ 13) (ha : isEl p a = true) (hn : 1 ≤ n) (hn4 : n ≤ 4) (hl : (vs.length : Int) + 2 = n) (hv : allEl p vs = true) : countF p a n vs = p := by
  rw [countF_yes ha (inB_iff.2 ⟨hn, hn4⟩) (by omega) hv h13, show (n - (vs.length : Int)).toNat = 2 by omega]
  simp [cntv, Int.pow_succ]
theorem allEl_drop {p : Int} {vs : List Int} (h : allEl p vs = true) : allEl p (vs.drop 1) = true :=
  allEl_iff.2 ⟨(allEl_iff.1 h).1, fun a ha => (allEl_iff.1 h).2 a (List.mem_of_mem_drop ha)⟩
theorem allEl_snoc {p a : Int} {vs : List Int} (h : allEl p vs = true) (ha : isEl p a = true) : allEl p (vs ++ [a]) = true :=
  allEl_iff.2 ⟨(allEl_iff.1 h).1, fun b hb => by
    rcases List.mem_append.1 hb with hb | hb
    · exact (allEl_iff.1 h).2 b hb
    · simp at hb; subst hb; exact (isEl_iff.1 ha).2⟩
theorem prime3 {p : Int} (h : p = 2 ∨ p = 3 ∨ p = 5) : fieldOk p = true := by rcases h with rfl | rfl | rfl <;> decide +kernel
theorem own_nil_at' {W : World} {base g : Nat} (h : W.heap.size = g) (hb : base ≤ g) : (W.alloc (.cells #[] 3)).ownsRow base 3 1 (.slice (some ⟨g, 0, none⟩) 0 0) 0 (vals []) := by
  subst h
  exact World.ownsRow_lit W #[] 0 hb (by simp [maxLen]) rfl
theorem box_at' {W : World} {cs : Array Value} {t : TypeId} {g : Nat} (h : W.heap.size = g) : Box (W.alloc (.cells cs t)) g t cs := h ▸ Box.new W t cs
set_option maxHeartbeats 8000000 in
theorem walk (w : World) (A : Option Addr) (len cap : Nat) (z : List Int) (h : IsRow .u8 w A len cap z) : Calls Try.prog 3 #[.slice A len cap] w fun e w' => e = .returned (.bool true) ∧ Below w.heap.size w w' := by
  obtain ⟨hU, hA⟩ := h.code
  clear h
  by_cases hbig : 1048576 < (len : Int)
  · go_enter Try.func3, Try.ntmps3
    go_wp2_with (go_at_call 11; (with_reducible refine (c_laws_big _ _ _ _).mono ?_); rintro e w' ⟨rfl, rfl⟩)
    go_ret
    exact ⟨rfl, Below.refl _ _⟩
  have hm : len ≤ 1048576 := by omega
  have bel : Below w.heap.size w w := Below.refl _ _
  have HA := Lib.hid hA
  have HU := Lib.hid hU
  clear hA hU
  have hq0 : w.heap.size ≤ w.heap.size := Nat.le_refl _
  go_enter Try.func3, Try.ntmps3
  go_wp2_with (go_at_call 11; (with_reducible refine (c_laws_big _ _ _ _).mono ?_); rintro e w' ⟨rfl, rfl⟩)
  obtain ⟨i0, hi, hz0, hz1, hz2⟩ := info_parts int_info
  have HZ := Lib.hid (And.intro hz1 hz2)
  clear hz1 hz2
  refine (c_spec_DrawPlaces _ _ _ _ _ HU.out (by omega) (by omega)).mono ?_
  rintro e w2 ⟨ps, ⟨hpl, hpr⟩, A_p, c_p, rfl, own, hb⟩
  have hq2 := hb.size
  replace bel := below_next bel hb
  clear HU HA hb
  have hlp : 11 < ps.length := by omega
  have HPR := Lib.hid hpr
  have hsl := own.slice
  obtain ⟨g, off, rfl, hgb, _⟩ := hsl.at_ (k := 0) (by omega)
  obtain ⟨q0, hcell0, hq00, hq01⟩ : ∃ q : Int, w2.cell? ⟨g, off + 0, none⟩ = some (.int .i64 q) ∧ 0 ≤ q ∧ q < 10000 := ⟨_, SliceI.cell_at hsl 0 (by omega), HPR.out _ (getD_mem (by omega))⟩
  obtain ⟨q1, hcell1, hq10, hq11⟩ : ∃ q : Int, w2.cell? ⟨g, off + 1, none⟩ = some (.int .i64 q) ∧ 0 ≤ q ∧ q < 10000 := ⟨_, SliceI.cell_at hsl 1 (by omega), HPR.out _ (getD_mem (by omega))⟩
  simp only [Nat.add_zero] at hcell0
  have HSL := Lib.hid hsl
  clear own hsl hpr hpl
  obtain ⟨m, hm1, hm2⟩ : ∃ m : Nat, q1 % 3 = (m : Int) ∧ m ≤ 2 := ⟨(q1 % 3).toNat, by omega, by omega⟩
  obtain ⟨r, hr1, hr2⟩ : ∃ r : Nat, q0 % 3 = (r : Int) ∧ r < 3 := ⟨(q0 % 3).toNat, by omega, by omega⟩
  obtain ⟨p, hpp, hpc⟩ : ∃ p : Int, (p = 2 ∨ p = 3 ∨ p = 5) ∧ (w2.alloc (.cells #[.int .i64 2, .int .i64 3, .int .i64 5] 3)).cell? ⟨w2.heap.size, r, none⟩ = some (.int .i64 p) := by
    have hb := Box.new w2 3 #[.int .i64 2, .int .i64 3, .int .i64 5]
    have h3 : r = 0 ∨ r = 1 ∨ r = 2 := by omega
    rcases h3 with rfl | rfl | rfl
    · exact ⟨2, by omega, hb.cell 0⟩
    · exact ⟨3, by omega, hb.cell 1⟩
    · exact ⟨5, by omega, hb.cell 2⟩
  have HF := Lib.hid (prime3 hpp)
  have hp2 : 2 ≤ p := by omega
  have hp5 : p ≤ 5 := by omega
  clear hpp
  have l0 : 0 < ps.length := by omega
  have l1 : 1 < ps.length := by omega
  have hr0 : (0 : Int) ≤ (r : Int) := by omega
  have hr3 : (r : Int) < 3 := by omega
  have hpp0 : (p == 0) = false := by rw [beq_eq_false_iff_ne]; omega
  have hd10 : decide (1048576 < (len : Int)) = false := by rw [decide_eq_false_iff_not]; omega
  go_wp2_with fail
  have HS3 := Lib.hid (show (w2.alloc (.cells #[.int .i64 2, .int .i64 3, .int .i64 5] 3)).heap.size = w2.heap.size + 1 by simp)
  have hz3 : w2.heap.size < (w2.alloc (.cells #[.int .i64 2, .int .i64 3, .int .i64 5] 3)).heap.size := by simp
  have HSL3 := Lib.hid (SliceI.alloc0 (o := .cells #[.int .i64 2, .int .i64 3, .int .i64 5] 3) HSL.out)
  have bel3 := bel.alloc bel.size (.cells #[.int .i64 2, .int .i64 3, .int .i64 5] 3)
  generalize w2.alloc (.cells #[.int .i64 2, .int .i64 3, .int .i64 5] 3) = w3 at *
  clear hpc hcell0 hcell1 hr1 hm1
  go_loopw [6, 7] (fun v i wr => ∃ (j : Nat) (vs : List Int), j ≤ m + 1 ∧ i = .int .i64 j ∧ vs.length = j ∧ allEl p vs = true ∧ wr.ownsRow w3.heap.size 3 1 v j (vals vs) ∧ Below w3.heap.size w3 wr) (fun _ i _ => (m + 1 - (intOf i).toNat))
  case atStart => exact ⟨0, [], by omega, rfl, rfl, allEl_iff.2 ⟨HF.out, by simp⟩, own_nil_at' HS3.out (Nat.le_of_eq HS3.out), (Below.refl _ _).alloc (Nat.le_refl _) _⟩
  case round =>
    obtain ⟨j, vs, hj, rfl, hvl, hva, hown, hbr⟩ := hrel
    have HVL := Lib.hid hvl
    have HVA := Lib.hid hva
    clear hvl hva
    by_cases hlt : j < m + 1
    · have HOWN := Lib.hid hown
      clear hown
      have hlr := HSL3.out.below_le hbr (by omega)
      obtain ⟨y, hcy, hy0, hy1⟩ : ∃ q : Int, wr.cell? ⟨g, off + (2 + j), none⟩ = some (.int .i64 q) ∧ 0 ≤ q ∧ q < 10000 := ⟨_, SliceI.cell_at hlr (2 + j) (by omega), HPR.out _ (getD_mem (by omega))⟩
      clear hlr
      have hst := Lib.hid (show vals vs ++ [.int .i64 (y % p)] = vals (vs ++ [y % p]) by simp [vals])
      have hne := Lib.hid (allEl_snoc HVA.out (el_mod HF.out y))
      have hi1 : (2 : Int) + (j : Int) < (ps.length : Int) := by omega
      have hi0 : (0 : Int) ≤ 2 + (j : Int) := by omega
      have hlt' : (j : Int) < 2 + (m : Int) - 1 := by omega
      go_wp2_with (at_builtin; refine wpList_append_own _ rfl (.tmp 32) (.tmp 40) 24 rfl w3.heap.size 3 i0 (.int .i64 0) 1 8 Try.underlying24 hi hz0 HZ.out.1 HZ.out.2 rfl (by decide) _ _ _ rfl (HOWN.out.alloc _) ⟨_, 0, none⟩ 1 1 [.int .i64 _] rfl rfl (cell_one_new _ _ _) (by simp [Value.oneCell']) (by unfold maxLen; omega) (by omega) (by have := hbr.size; simp; omega) ?_; intro v' w6 hown6 hgrow6 _)
      have hb3 := below_app hbr HOWN.out hgrow6
      go_roundw
      case rel => exact ⟨j + 1, vs ++ [y % p], by omega, by go_num, by simp [HVL.out], hne.out, by rw [← hst.out]; exact hown6, hb3⟩
      case measure => simp [intOf]; omega
    · obtain rfl : j = m + 1 := by omega
      obtain ⟨gv, cv, rfl, hcn, hcm, hsv⟩ := own_sliceC hown (by omega)
      have HSV := Lib.hid hsv
      have HSD := Lib.hid (SliceI.drop1 hsv)
      have hbelr := below_next bel3 hbr
      unfold maxLen at hcm
      clear hown hsv
      have hlt' : ¬ ((m + 1 : Nat) : Int) < 2 + (m : Int) - 1 := by omega
      have HV5 := Lib.hid (show vs.length ≤ maxLen by rw [HVL.out]; unfold maxLen; omega)
      have HD5 := Lib.hid (show (vs.drop 1).length ≤ maxLen by rw [List.length_drop, HVL.out]; unfold maxLen; omega)
      have HC1 := Lib.hid (fun (a : Int) (ha : isEl p a = true) (B : Nat) (hB : SliceI wr B (some ⟨gv, 0, none⟩) vs.length vs) => c_impl_CountSharings p a (2 + (m : Int)) _ cv B vs wr hB HV5.out)
      have HC1' : Hid (∀ a : Int, isEl p a = true → Calls Try.prog 13 #[.int .i64 p, .int .i64 a, .int .i64 (2 + (m : Int)), .slice (some ⟨gv, 0, none⟩) (m + 1) cv] wr fun e w' => e = .returned (.int .i64 1) ∧ wr = w') := by
        intro a ha
        have h := HC1.out a ha _ (by rw [HVL.out]; exact HSV.out)
        rw [HVL.out, count1 HF.out (by omega) ha (by omega) (by omega) (by rw [HVL.out]; omega) HVA.out] at h
        exact h
      have HC2 : Hid (∀ (a : Int) (A : Option Addr) (c : Nat), isEl p a = true → SliceI wr wr.heap.size A m (vs.drop 1) → Calls Try.prog 13 #[.int .i64 p, .int .i64 a, .int .i64 (2 + (m : Int)), .slice A m c] wr fun e w' => e = .returned (.int .i64 p) ∧ wr = w') := by
        intro a A c ha hs
        have hl : (vs.drop 1).length = m := by rw [List.length_drop, HVL.out]; omega
        have h := c_impl_CountSharings p a (2 + (m : Int)) A c _ (vs.drop 1) wr (by rw [hl]; exact hs) HD5.out
        rw [hl, count2 HF.out (by omega) ha (by omega) (by omega) (by rw [hl]; omega) (allEl_drop HVA.out)] at h
        exact h
      clear HC1
      have hcv1 : (1 : Int) ≤ (cv : Int) := by omega
      have hone : (1 : Int) ≤ ((m + 1 : Nat) : Int) := by omega
      by_cases hcv : cv = 1
      · subst hcv
        have hm0 : m ≤ 0 := by omega
        have HSE := Lib.hid (fun A => show SliceI wr wr.heap.size A m (vs.drop 1) from ⟨by rw [List.length_drop, HVL.out]; omega, fun h => absurd h (by omega)⟩)
        have HC20 : Hid (∀ (a : Int) (A : Option Addr) (c : Nat), isEl p a = true → Calls Try.prog 13 #[.int .i64 p, .int .i64 a, .int .i64 (2 + (m : Int)), .slice A 0 c] wr fun e w' => e = .returned (.int .i64 p) ∧ wr = w') := by
          intro a A c ha
          have h := HC2.out a A c ha (HSE.out A)
          have e0 : (Value.slice A m c) = Value.slice A 0 c := by rw [show m = 0 by omega]
          rw [e0] at h
          exact h
        go_wp2_with fail
        go_loop [8] (fun i => ∃ a : Nat, (a : Int) ≤ p ∧ i = .int .i64 a) (fun i => (p - intOf i).toNat)
        case atStart => exact ⟨0, by omega, rfl⟩
        case round =>
          obtain ⟨a, ha, rfl⟩ := hrel
          by_cases hap : (a : Int) < p
          · have HA := Lib.hid (show isEl p (a : Int) = true from isEl_iff.2 ⟨HF.out, by omega, by omega⟩)
            go_wp2_with (first | (go_at_call 13; (with_reducible refine (HC1'.out _ HA.out).mono ?_); rintro e w' ⟨rfl, rfl⟩) | (go_at_call 13; (with_reducible refine (HC20.out _ _ _ HA.out).mono ?_); rintro e w' ⟨rfl, rfl⟩))
            go_round
            case rel => exact ⟨a + 1, by omega, by go_num⟩
            case measure => simp [intOf]; omega
          · go_wp2_with fail
            go_ret
            exact ⟨rfl, hbelr⟩
      · have hcv2 : 1 < cv := by omega
        have HSD1 := Lib.hid (show SliceI wr wr.heap.size (some ⟨gv, 1, none⟩) m (vs.drop 1) by simpa using HSD.out)
        have hcv3 : ¬ (1 : Int) = (cv : Int) := by omega
        have hcv4 : (1 : Int) < (cv : Int) := by omega
        have hcv5 : ((1 : Int) == (cv : Int)) = false := by rw [beq_eq_false_iff_ne]; omega
        go_wp2_with fail
        go_loop [8] (fun i => ∃ a : Nat, (a : Int) ≤ p ∧ i = .int .i64 a) (fun i => (p - intOf i).toNat)
        case atStart => exact ⟨0, by omega, rfl⟩
        case round =>
          obtain ⟨a, ha, rfl⟩ := hrel
          by_cases hap : (a : Int) < p
          · have HA := Lib.hid (show isEl p (a : Int) = true from isEl_iff.2 ⟨HF.out, by omega, by omega⟩)
            go_wp2_with (first | (go_at_call 13; (with_reducible refine (HC1'.out _ HA.out).mono ?_); rintro e w' ⟨rfl, rfl⟩) | (go_at_call 13; (with_reducible refine (HC2.out _ _ _ HA.out HSD1.out).mono ?_); rintro e w' ⟨rfl, rfl⟩))
            go_round
            case rel => exact ⟨a + 1, by omega, by go_num⟩
            case measure => simp [intOf]; omega
          · go_wp2_with fail
            go_ret
            exact ⟨rfl, hbelr⟩

set_option maxRecDepth 100000 in
theorem lifted (os : Os) (started : os.Started) (H : Type) (enc : TypeId × Value → H) :
    ReturnsInHanded {} Try.checked os 3 .any (Rows.fnAllButOneSpec.pre6 enc Try.prog Try.f3 Rows.fnAllButOneRow.domain false) (Rows.fnAllButOneSpec.post enc Try.prog Try.f3 false true false false) := by
  refine returnsInHanded_of_change (C := Try.checked) own started (by kernel_rfl) Try.func3
    (ChangeSpec.witness6 (enc := enc) (C := Try.checked) false ⟨#[], #[.slice none 0 0], []⟩ 8 (by kernel_rfl) (by kernel_rfl) (by kernel_rfl) (by kernel_rfl)) ?_
  intro W base args ds gs before hval0 hW hcnd _
  have hval : ∀ (j : Nat) t v, Try.f3.params[j]? = some t → args[j]? = some v → Value.okWide Try.prog W .any base t v := hval0
  have hW' := hW
  obtain ⟨p, q, hA0, hV, rfl, hfz, hnd⟩ := hW
  have hA : DataW.TrodAll enc Try.prog W 0 (fun _ => true) true Try.f3.params.toList args.toList ds p := hA0
  rw [Try.params3] at hA hval
  obtain ⟨v0, vs0, d0, ds0, p0, q0, hargs, rfl, rfl, h0, r0⟩ := trodAll_cons hA
  obtain ⟨rfl, rfl, rfl⟩ := trodAll_nil r0
  obtain rfl : args = #[v0] := by cases args; simp_all
  obtain ⟨rfl, rfl⟩ := trodVars_none hV
  obtain ⟨a0, len0, cap0, rfl⟩ := okWide_slice Try.underlying22 (hval 0 22 v0 rfl rfl)
  have k0 := h0
  have lt0 : ∀ x ∈ p0, x.block < W.heap.size := by obtain ⟨m, hm⟩ := k0; exact DataW.trod_lt m _ _ _ hm
  obtain ⟨z0, w0⟩ : ∃ zs, IsRow .u8 W a0 len0 cap0 zs := by
    obtain ⟨fuel, hf⟩ := h0
    rcases open_ints Try.underlying22 Try.underlying5 (by kernel_rfl) hf with ⟨hcs, _⟩ | ⟨x, l, c, zs, hcs, _, hl, hm, hz, _, hcell, hwz⟩
    · simp [Value.cells] at hcs
      obtain ⟨rfl, rfl, rfl⟩ := hcs
      exact ⟨[], .inl ⟨rfl, rfl, rfl, rfl⟩⟩
    · simp [Value.cells] at hcs
      obtain ⟨rfl, rfl, rfl⟩ := hcs
      exact ⟨zs, .inr ⟨_, rfl, hl, hm, by simpa using hz, hcell, hwz⟩⟩
  clear hA0 hval0
  simp only [List.append_nil] at hW'
  refine (walk (w := W) a0 len0 cap0 z0 w0).mono fun e W' ⟨he, bel⟩ => ?_
  subst he
  exact ⟨_, rfl, _, _, _, [], _, [], hW', trodAll_mk1 (shut_bool Try.underlying4 _), (trodAll_cons_mk (Below.trod laidOut (by kernel_rfl) (of_decide_eq_true (by kernel_rfl)) k0 bel lt0) trodAll_mk0), rfl, bel.frame _, fun h => by cases h⟩

theorem over : Rows.fnAllButOneRow.holds Try.pinned (OpenSpec.ofChange Rows.fnAllButOneSpec) :=
  OpenClaim.holds_of_wide 3 Try.f3 rfl rfl rfl rfl rfl rfl rfl ⟨rfl, rfl, rfl, rfl, rfl⟩ rfl rfl rfl rfl rfl (by kernel_rfl) Try.func3 (by kernel_rfl)
    (of_decide_eq_true (by kernel_rfl)) (by unfold Func.isWrapper; first | (rw [if_pos (by decide +kernel)]; kernel_rfl) | (rw [if_neg (by decide +kernel)]; exact ⟨rfl, rfl⟩))
    (fun os started H enc _ => lifted os started H enc)

/-- The statement. -/
theorem proved : Rows.FnAllButOneSaid := over
end Go.Proofs.Ytknepofclgjmiaa.lawFnAllButOne
