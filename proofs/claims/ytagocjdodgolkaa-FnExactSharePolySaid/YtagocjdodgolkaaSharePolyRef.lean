/- The walks of the reference's SharePoly. -/
import Derived.Test.YtagocjdodgolkaaRows
import Derived.Test.YtagocjdodgolkaaPlain
import Derived.Test.YtagocjdodgolkaaMem
import Derived.Test.YtagocjdodgolkaaWords
import Derived.Test.YtagocjdodgolkaaList
import Derived.Test.YtagocjdodgolkaaField
import Derived.Test.YtagocjdodgolkaaSums
import Derived.Test.YtagocjdodgolkaaTape
import Derived.Test.YtagocjdodgolkaaTapeList
import Derived.WalkKit
import Derived.WalkSpells
import Derived.WalkLawsBesides
import Derived.OwnWalk
import Derived.Handy
import Derived.RegionTactic
import Derived.Deep.RegionLaw
import Derived.Deep.AppendLies
import Derived.Maps.AppendAt
import Derived.Deep.Onto
import Derived.Lib.Hide
import Derived.Test.YtagocjdodgolkaaTapeListRef
import Derived.Test.YtagocjdodgolkaaShareAddRef
import Derived.Test.YtagocjdodgolkaaSharePoly
namespace Go.Proofs.Ytagocjdodgolkaa
open Go.RowKit
theorem c_spec_l07At_el (p x : Int) (A : Option Addr) (n c B : Nat) (cs : List Int) (w : World) (hcs : SliceI w B A n cs) (hmax : n ≤ maxLen) (hall : allEl p cs = true) (hx : isEl p x = true) :
    Calls Try.prog 48 #[.int .i64 p, .slice A n c, .int .i64 x] w fun e w' => e = .returned (.int .i64 (polyAt p cs x)) ∧ w = w' := by
  have h := c_spec_l07At p x A n c B cs w hcs hmax hall (isEl_iff.1 hx).2.1 (isEl_iff.1 hx).2.2
  rwa [show horner p x cs = polyAt p cs x by simp [polyAt, hx, hall]] at h
set_option maxHeartbeats 8000000 in
theorem c_spec_SharePoly_lo (p x n k s t : Int) (w : World) (h8 : p - 1 < 5) :
    Calls Try.prog 39 #[.int .i64 p, .int .i64 x, .int .i64 n, .int .i64 k, .agg #[.int .i64 s, .int .i64 t]] w (GivesLT w (polyF p x n k s t) s (polyN p x n k s t)) := by
  obtain ⟨i0, hi, hz0, hz1, hz2⟩ := info_parts int_info
  have HZ := Lib.hid (And.intro hz1 hz2)
  clear hz1 hz2
  cases h1 : isEl p x
  · skip
    have hno : polyOk p x n k s t = false := by simp [polyOk, h1]
    have e1 := Lib.hid (show polyF p x n k s t = [] by simp [polyF, hno])
    have e2 := Lib.hid (show polyN p x n k s t = t by simp [polyN, hno])
    clear hno
    go_enter Try.func39, Try.ntmps39
    go_wp2_with (first | (go_at_call 50; (with_reducible refine (c_spec_l01In _ _ _ _).mono ?_); rintro e w' ⟨rfl, rfl⟩) | (go_at_call 47; (with_reducible refine (c_spec_IsElement _ _ _).mono ?_); rintro e w' ⟨rfl, rfl⟩) | (go_at_call 63; (with_reducible refine (c_spec_l06Tape _ _ _).mono ?_); rintro e w1 ⟨rfl, hb⟩; obtain ⟨bel, b1, b2⟩ := start2 hb; have c1 := b1.cell; have c2 := b2.cell; have f1 := b1.free; have f2 := b2.free; have hz := b2.lt; have hz1 := b1.lt; clear hb))
    go_region
    all_goals
      go_wp2
      refine bodyPost_ret (v := .tuple #[.slice (some ⟨w.heap.size + 2, 0, none⟩) 0 0, .agg #[.int .i64 s, .int .i64 t]]) (by simp [results, Try.results39, go_sem, *]) rfl ?_
      rw [e1.out, e2.out]
      refine GivesLT.lit0 (g := w.heap.size + 2) ?_ (by omega) (by go_grown)
      repeat (first | exact box_at (by simp) | refine Box.far ?_ (by simp; omega) _ | refine Box.drew ?_ | refine Box.drewN ?_ _)
  have hE := isEl_iff.1 h1
  have hr := fieldOk_range hE.1
  have hp2 := hr.1
  have hp1 := hr.2
  have HF := Lib.hid hE.1
  clear hr hE
  cases h2 : inB n 1 (p - 1)
  · skip
    have hno : polyOk p x n k s t = false := by have hh := inB_no.1 h2; rw [Bool.eq_false_iff]; intro h; simp only [polyOk, Bool.and_eq_true, inB_iff, decide_eq_true_eq] at h; omega
    have e1 := Lib.hid (show polyF p x n k s t = [] by simp [polyF, hno])
    have e2 := Lib.hid (show polyN p x n k s t = t by simp [polyN, hno])
    clear hno
    go_enter Try.func39, Try.ntmps39
    go_wp2_with (first | (go_at_call 50; (with_reducible refine (c_spec_l01In _ _ _ _).mono ?_); rintro e w' ⟨rfl, rfl⟩) | (go_at_call 47; (with_reducible refine (c_spec_IsElement _ _ _).mono ?_); rintro e w' ⟨rfl, rfl⟩) | (go_at_call 63; (with_reducible refine (c_spec_l06Tape _ _ _).mono ?_); rintro e w1 ⟨rfl, hb⟩; obtain ⟨bel, b1, b2⟩ := start2 hb; have c1 := b1.cell; have c2 := b2.cell; have f1 := b1.free; have f2 := b2.free; have hz := b2.lt; have hz1 := b1.lt; clear hb))
    go_region
    all_goals
      go_wp2
      refine bodyPost_ret (v := .tuple #[.slice (some ⟨w.heap.size + 2, 0, none⟩) 0 0, .agg #[.int .i64 s, .int .i64 t]]) (by simp [results, Try.results39, go_sem, *]) rfl ?_
      rw [e1.out, e2.out]
      refine GivesLT.lit0 (g := w.heap.size + 2) ?_ (by omega) (by go_grown)
      repeat (first | exact box_at (by simp) | refine Box.far ?_ (by simp; omega) _ | refine Box.drew ?_ | refine Box.drewN ?_ _)
  have hn := inB_iff.1 h2
  have hn0 := hn.1
  have hn1 : n ≤ 5 := by omega
  have h5 : n < p := by omega
  clear hn
  cases h6 : inB k 0 (n - 1)
  · skip
    have hno : polyOk p x n k s t = false := by simp [polyOk, h6]
    have e1 := Lib.hid (show polyF p x n k s t = [] by simp [polyF, hno])
    have e2 := Lib.hid (show polyN p x n k s t = t by simp [polyN, hno])
    clear hno
    go_enter Try.func39, Try.ntmps39
    go_wp2_with (first | (go_at_call 50; (with_reducible refine (c_spec_l01In _ _ _ _).mono ?_); rintro e w' ⟨rfl, rfl⟩) | (go_at_call 47; (with_reducible refine (c_spec_IsElement _ _ _).mono ?_); rintro e w' ⟨rfl, rfl⟩) | (go_at_call 63; (with_reducible refine (c_spec_l06Tape _ _ _).mono ?_); rintro e w1 ⟨rfl, hb⟩; obtain ⟨bel, b1, b2⟩ := start2 hb; have c1 := b1.cell; have c2 := b2.cell; have f1 := b1.free; have f2 := b2.free; have hz := b2.lt; have hz1 := b1.lt; clear hb))
    go_region
    all_goals
      go_wp2
      refine bodyPost_ret (v := .tuple #[.slice (some ⟨w.heap.size + 2, 0, none⟩) 0 0, .agg #[.int .i64 s, .int .i64 t]]) (by simp [results, Try.results39, go_sem, *]) rfl ?_
      rw [e1.out, e2.out]
      refine GivesLT.lit0 (g := w.heap.size + 2) ?_ (by omega) (by go_grown)
      repeat (first | exact box_at (by simp) | refine Box.far ?_ (by simp; omega) _ | refine Box.drew ?_ | refine Box.drewN ?_ _)
  have hk := inB_iff.1 h6
  have hk0 := hk.1
  have hk1 := hk.2
  clear hk
  cases h3 : tapeLow s t
  · skip
    have hno : polyOk p x n k s t = false := by simp [polyOk, h3]
    have e1 := Lib.hid (show polyF p x n k s t = [] by simp [polyF, hno])
    have e2 := Lib.hid (show polyN p x n k s t = t by simp [polyN, hno])
    clear hno
    go_enter Try.func39, Try.ntmps39
    go_wp2_with (first | (go_at_call 50; (with_reducible refine (c_spec_l01In _ _ _ _).mono ?_); rintro e w' ⟨rfl, rfl⟩) | (go_at_call 47; (with_reducible refine (c_spec_IsElement _ _ _).mono ?_); rintro e w' ⟨rfl, rfl⟩) | (go_at_call 63; (with_reducible refine (c_spec_l06Tape _ _ _).mono ?_); rintro e w1 ⟨rfl, hb⟩; obtain ⟨bel, b1, b2⟩ := start2 hb; have c1 := b1.cell; have c2 := b2.cell; have f1 := b1.free; have f2 := b2.free; have hz := b2.lt; have hz1 := b1.lt; clear hb))
    go_region
    all_goals
      go_wp2
      refine bodyPost_ret (v := .tuple #[.slice (some ⟨w1.heap.size, 0, none⟩) 0 0, .agg #[.int .i64 s, .int .i64 t]]) (by simp [results, Try.results39, go_sem, *]) rfl ?_
      rw [e1.out, e2.out]
      refine GivesLT.lit0 (g := w1.heap.size) ?_ (by omega) (by go_grown)
      repeat (first | exact box_at (by simp) | refine Box.far ?_ (by simp; omega) _ | refine Box.drew ?_ | refine Box.drewN ?_ _)
  have hyes : polyOk p x n k s t = true := by have h7 : inB n 1 5 = true := inB_iff.2 ⟨hn0, hn1⟩; simp [polyOk, h1, h7, h3, h6]; omega
  have e1 := Lib.hid (show polyF p x n k s t = polyVals p (x :: tapeLF s t p k) n.toNat by simp [polyF, hyes])
  have e2 := Lib.hid (show polyN p x n k s t = tapeLN s t p k by simp [polyN, hyes])
  have hlen := tapeLF_len s t p k
  have HE := Lib.hid (allEl_cons h1 (tapeLF_el (s := s) (t := t) (k := k) HF.out))
  clear hyes
  go_enter Try.func39, Try.ntmps39
  go_wp2_with (first | (go_at_call 50; (with_reducible refine (c_spec_l01In _ _ _ _).mono ?_); rintro e w' ⟨rfl, rfl⟩) | (go_at_call 47; (with_reducible refine (c_spec_IsElement _ _ _).mono ?_); rintro e w' ⟨rfl, rfl⟩) | (go_at_call 63; (with_reducible refine (c_spec_l06Tape _ _ _).mono ?_); rintro e w1 ⟨rfl, hb⟩; obtain ⟨bel, b1, b2⟩ := start2 hb; have c1 := b1.cell; have c2 := b2.cell; have f1 := b1.free; have f2 := b2.free; have hz := b2.lt; have hz1 := b1.lt; clear hb))
  (with_reducible refine (c_spec_TapeList _ _ _ _ _).mono ?_)
  rintro e w2 ⟨A, c, rfl, hown, hb⟩
  have b2' := b2.below hb
  have bel' := below_next bel hb
  have hsz2 := hb.size
  have hz2 := b2'.lt
  clear hb c1 c2 f1 f2 b1 b2 bel
  generalize tapeLF s t p k = l at hown hlen e1 HE
  generalize tapeLN s t p k = t1 at e2
  obtain ⟨m, rfl⟩ : ∃ m : Nat, n = (m : Int) := ⟨n.toNat, by omega⟩
  rw [Int.toNat_natCast] at e1
  have HM := Lib.hid (show m ≤ 5 by omega)
  have hcase := hown.2
  rcases hcase with ⟨hv, h0⟩ | ⟨g, cap, cur, hv, _⟩
  · obtain rfl : l = [] := List.eq_nil_of_length_eq_zero h0
    simp only [Value.slice.injEq] at hv
    obtain ⟨rfl, _, rfl⟩ := hv
    clear hown h0
    go_wp2_with (at_builtin; refine wpList_append_none _ rfl (.tmp 51) (.tmp 52) 22 rfl w2.heap.size 3 i0 Try.underlying22 hi 1 _ 1 (vals [x]) rfl (own_lit_at (by simp) (by omega)) rfl ?_; have hsc := sliceI_lit_at (W := w2.alloc (.cells #[.int .i64 s, .int .i64 t1] 40)) (g := w2.heap.size + 1) (x := x) (by simp); have b25 := (b2'.alloc (.cells #[.int .i64 s, .int .i64 t1] 40)).alloc (.cells #[.int .i64 x] 3); have b35 := (Box.new w2 40 #[.int .i64 s, .int .i64 t1]).alloc (.cells #[.int .i64 x] 3); have bel5 := (bel'.alloc bel'.size (.cells #[.int .i64 s, .int .i64 t1] 40)).alloc (by have := bel'.size; simp; omega) (.cells #[.int .i64 x] 3))
    have HS5 := Lib.hid (show ((w2.alloc (.cells #[.int .i64 s, .int .i64 t1] 40)).alloc (.cells #[.int .i64 x] 3)).heap.size = w2.heap.size + 1 + 1 by simp)
    have hsz5 : w.heap.size ≤ ((w2.alloc (.cells #[.int .i64 s, .int .i64 t1] 40)).alloc (.cells #[.int .i64 x] 3)).heap.size := bel5.size
    generalize (w2.alloc (.cells #[.int .i64 s, .int .i64 t1] 40)).alloc (.cells #[.int .i64 x] 3) = w5 at *
    have HSC := Lib.hid hsc
    have hz25 := b25.lt
    clear hsc
    go_loopw [15, 16] (fun v i wr => ∃ j : Nat, j ≤ m ∧ i = .int .i64 ((j : Int) + 1) ∧ wr.ownsRow w5.heap.size 3 1 v j (vals (polyVals p ([x]) j)) ∧ Below w5.heap.size w5 wr) (fun _ i _ => (m + 1 - (intOf i).toNat))
    case atStart => exact ⟨0, by omega, by simp, own_nil_at HS5.out (Nat.le_of_eq HS5.out), (Below.refl _ _).alloc (Nat.le_refl _) _⟩
    case round =>
      obtain ⟨j, hj, rfl, hown, hbr⟩ := hrel
      have HOWN := Lib.hid hown
      clear hown
      have HM5 := HM.out
      by_cases hlt : j < m
      · have HCS := Lib.hid (HSC.out.below_le hbr (Nat.le_refl _))
        have HMX := Lib.hid (show 1 ≤ maxLen by unfold maxLen; omega)
        have HEJ := Lib.hid (show isEl p ((j : Int) + 1) = true from isEl_iff.2 ⟨HF.out, by omega, by omega⟩)
        have hst := Lib.hid (polyVals_succ p ([x]) j)
        have hlt' : (j : Int) + 1 ≤ (m : Int) := by omega
        go_wp2_with (first | (go_at_call 48; (with_reducible refine (c_spec_l07At_el _ _ _ _ _ _ _ _ HCS.out HMX.out HE.out HEJ.out).mono ?_); rintro e w' ⟨rfl, rfl⟩) | (at_builtin; refine wpList_append_own _ rfl (.tmp 60) (.tmp 65) 22 rfl w5.heap.size 3 i0 (.int .i64 0) 1 8 Try.underlying22 hi hz0 HZ.out.1 HZ.out.2 rfl (by decide) _ _ _ rfl (HOWN.out.alloc _) ⟨_, 0, none⟩ 1 1 [.int .i64 _] rfl rfl (cell_one_new _ _ _) (by simp [Value.oneCell']) (by unfold maxLen; omega) (by omega) (by have := hbr.size; simp; omega) ?_; intro v' w6 hown6 hgrow6 _))
        have hb3 := below_app hbr HOWN.out hgrow6
        go_roundw
        case rel => exact ⟨j + 1, by omega, by first | go_num | (congr 1), by rw [← hst.out]; exact hown6, hb3⟩
        case measure => simp [intOf]; omega
      · obtain rfl : j = m := by omega
        have hlt' : ¬ (j : Int) + 1 ≤ (j : Int) := by omega
        have b2 := b25.below hbr
        have b3 := b35.below hbr
        have belr := below_next bel5 hbr
        have c2 := b2.cell
        have f2 := b2.free
        have c3 := b3.cell
        go_wp2_with fail
        go_region
        all_goals
          go_wp2
          refine bodyPost_ret (v := .tuple #[u15, .agg #[.int .i64 s, .int .i64 t1]]) (by simp [results, Try.results39, go_sem, *]) rfl ?_
          rw [e1.out, e2.out]
          refine GivesLT.of (lo := w5.heap.size) (n := j) ?_ (by omega) ?_
          · have h1 := own_far (p := ⟨w.heap.size + 1, 0, none⟩) (u := .int .i64 s) HOWN.out (own_ne HOWN.out hz25)
            have h2 := own_far (p := ⟨w.heap.size + 1, 1, none⟩) (u := .int .i64 t1) h1 (own_ne h1 hz25)
            first | exact h2 | exact World.ownsRow.drew h2
          · go_grown
  · simp only [Value.slice.injEq] at hv
    obtain ⟨rfl, _, rfl⟩ := hv
    have hsl := OwnI.slice hown
    have HN := Lib.hid (SliceI.news (SliceI.alloc0 (o := .cells #[.int .i64 x] 3) (SliceI.alloc0 (o := .cells #[.int .i64 s, .int .i64 t1] 40) hsl)))
    clear hown hsl
    go_wp2_with (at_builtin; go_loud (refine wpList_append_own _ rfl (.tmp 51) (.tmp 52) 22 rfl w2.heap.size 3 i0 (.int .i64 0) 1 8 Try.underlying22 hi hz0 HZ.out.1 HZ.out.2 rfl (by decide) _ 1 (vals [x]) rfl (own_lit_at (by simp) (by omega)) ⟨g, 0, none⟩ l.length c (vals l) rfl (by simp [vals]) HN.out (by simp [vals, Value.oneCell']) (by unfold maxLen; omega) (by omega) (by simp; omega) ?_; intro v' w5 hown5 hgrow5 _); go_loud (have b25 := Box.grown ((b2'.alloc (.cells #[.int .i64 s, .int .i64 t1] 40)).alloc (.cells #[.int .i64 x] 3)) hgrow5 (lit_ne (by omega))); go_loud (have b35 := Box.grown ((Box.new w2 40 #[.int .i64 s, .int .i64 t1]).alloc (.cells #[.int .i64 x] 3)) hgrow5 (lit_ne (by omega))); go_loud (have bel5 := Below.grown ((bel'.alloc bel'.size (.cells #[.int .i64 s, .int .i64 t1] 40)).alloc (by have := bel'.size; simp; omega) (.cells #[.int .i64 x] 3)) hgrow5 (by have := bel'.size; simp; omega) (fun j hj => lit_ge (by have := bel'.size; omega) hj)); go_loud (rw [show vals [x] ++ vals l = vals (x :: l) by simp [vals]] at hown5; obtain ⟨gc, cc, rfl, hsc⟩ := ownsRow.sliceI hown5 (by omega); clear hown5 hgrow5))
    have HS5 := Lib.hid (show w5.heap.size = w5.heap.size from rfl)
    have hsz5 : w.heap.size ≤ w5.heap.size := bel5.size
    have HSC := Lib.hid hsc
    have hz25 := b25.lt
    clear hsc
    go_loopw [15, 16] (fun v i wr => ∃ j : Nat, j ≤ m ∧ i = .int .i64 ((j : Int) + 1) ∧ wr.ownsRow w5.heap.size 3 1 v j (vals (polyVals p (x :: l) j)) ∧ Below w5.heap.size w5 wr) (fun _ i _ => (m + 1 - (intOf i).toNat))
    case atStart => exact ⟨0, by omega, by simp, own_nil_at HS5.out (Nat.le_of_eq HS5.out), (Below.refl _ _).alloc (Nat.le_refl _) _⟩
    case round =>
      obtain ⟨j, hj, rfl, hown, hbr⟩ := hrel
      have HOWN := Lib.hid hown
      clear hown
      have HM5 := HM.out
      by_cases hlt : j < m
      · have HCS := Lib.hid (HSC.out.below_le hbr (Nat.le_refl _))
        have HMX := Lib.hid (show 1 + l.length ≤ maxLen by unfold maxLen; omega)
        have HEJ := Lib.hid (show isEl p ((j : Int) + 1) = true from isEl_iff.2 ⟨HF.out, by omega, by omega⟩)
        have hst := Lib.hid (polyVals_succ p (x :: l) j)
        have hlt' : (j : Int) + 1 ≤ (m : Int) := by omega
        go_wp2_with (first | (go_at_call 48; (with_reducible refine (c_spec_l07At_el _ _ _ _ _ _ _ _ HCS.out HMX.out HE.out HEJ.out).mono ?_); rintro e w' ⟨rfl, rfl⟩) | (at_builtin; refine wpList_append_own _ rfl (.tmp 60) (.tmp 65) 22 rfl w5.heap.size 3 i0 (.int .i64 0) 1 8 Try.underlying22 hi hz0 HZ.out.1 HZ.out.2 rfl (by decide) _ _ _ rfl (HOWN.out.alloc _) ⟨_, 0, none⟩ 1 1 [.int .i64 _] rfl rfl (cell_one_new _ _ _) (by simp [Value.oneCell']) (by unfold maxLen; omega) (by omega) (by have := hbr.size; simp; omega) ?_; intro v' w6 hown6 hgrow6 _))
        have hb3 := below_app hbr HOWN.out hgrow6
        go_roundw
        case rel => exact ⟨j + 1, by omega, by first | go_num | (congr 1), by rw [← hst.out]; exact hown6, hb3⟩
        case measure => simp [intOf]; omega
      · obtain rfl : j = m := by omega
        have hlt' : ¬ (j : Int) + 1 ≤ (j : Int) := by omega
        have b2 := b25.below hbr
        have b3 := b35.below hbr
        have belr := below_next bel5 hbr
        have c2 := b2.cell
        have f2 := b2.free
        have c3 := b3.cell
        go_wp2_with fail
        go_region
        all_goals
          go_wp2
          refine bodyPost_ret (v := .tuple #[u15, .agg #[.int .i64 s, .int .i64 t1]]) (by simp [results, Try.results39, go_sem, *]) rfl ?_
          rw [e1.out, e2.out]
          refine GivesLT.of (lo := w5.heap.size) (n := j) ?_ (by omega) ?_
          · have h1 := own_far (p := ⟨w.heap.size + 1, 0, none⟩) (u := .int .i64 s) HOWN.out (own_ne HOWN.out hz25)
            have h2 := own_far (p := ⟨w.heap.size + 1, 1, none⟩) (u := .int .i64 t1) h1 (own_ne h1 hz25)
            first | exact h2 | exact World.ownsRow.drew h2
          · go_grown
set_option maxHeartbeats 8000000 in
theorem c_spec_SharePoly_hi (p x n k s t : Int) (w : World) (h8 : ¬ p - 1 < 5) :
    Calls Try.prog 39 #[.int .i64 p, .int .i64 x, .int .i64 n, .int .i64 k, .agg #[.int .i64 s, .int .i64 t]] w (GivesLT w (polyF p x n k s t) s (polyN p x n k s t)) := by
  obtain ⟨i0, hi, hz0, hz1, hz2⟩ := info_parts int_info
  have HZ := Lib.hid (And.intro hz1 hz2)
  clear hz1 hz2
  cases h1 : isEl p x
  · skip
    have hno : polyOk p x n k s t = false := by simp [polyOk, h1]
    have e1 := Lib.hid (show polyF p x n k s t = [] by simp [polyF, hno])
    have e2 := Lib.hid (show polyN p x n k s t = t by simp [polyN, hno])
    clear hno
    go_enter Try.func39, Try.ntmps39
    go_wp2_with (first | (go_at_call 50; (with_reducible refine (c_spec_l01In _ _ _ _).mono ?_); rintro e w' ⟨rfl, rfl⟩) | (go_at_call 47; (with_reducible refine (c_spec_IsElement _ _ _).mono ?_); rintro e w' ⟨rfl, rfl⟩) | (go_at_call 63; (with_reducible refine (c_spec_l06Tape _ _ _).mono ?_); rintro e w1 ⟨rfl, hb⟩; obtain ⟨bel, b1, b2⟩ := start2 hb; have c1 := b1.cell; have c2 := b2.cell; have f1 := b1.free; have f2 := b2.free; have hz := b2.lt; have hz1 := b1.lt; clear hb))
    go_region
    all_goals
      go_wp2
      refine bodyPost_ret (v := .tuple #[.slice (some ⟨w.heap.size + 2, 0, none⟩) 0 0, .agg #[.int .i64 s, .int .i64 t]]) (by simp [results, Try.results39, go_sem, *]) rfl ?_
      rw [e1.out, e2.out]
      refine GivesLT.lit0 (g := w.heap.size + 2) ?_ (by omega) (by go_grown)
      repeat (first | exact box_at (by simp) | refine Box.far ?_ (by simp; omega) _ | refine Box.drew ?_ | refine Box.drewN ?_ _)
  have hE := isEl_iff.1 h1
  have hr := fieldOk_range hE.1
  have hp2 := hr.1
  have hp1 := hr.2
  have HF := Lib.hid hE.1
  clear hr hE
  cases h2 : inB n 1 5
  · skip
    have hno : polyOk p x n k s t = false := by have hh := inB_no.1 h2; rw [Bool.eq_false_iff]; intro h; simp only [polyOk, Bool.and_eq_true, inB_iff, decide_eq_true_eq] at h; omega
    have e1 := Lib.hid (show polyF p x n k s t = [] by simp [polyF, hno])
    have e2 := Lib.hid (show polyN p x n k s t = t by simp [polyN, hno])
    clear hno
    go_enter Try.func39, Try.ntmps39
    go_wp2_with (first | (go_at_call 50; (with_reducible refine (c_spec_l01In _ _ _ _).mono ?_); rintro e w' ⟨rfl, rfl⟩) | (go_at_call 47; (with_reducible refine (c_spec_IsElement _ _ _).mono ?_); rintro e w' ⟨rfl, rfl⟩) | (go_at_call 63; (with_reducible refine (c_spec_l06Tape _ _ _).mono ?_); rintro e w1 ⟨rfl, hb⟩; obtain ⟨bel, b1, b2⟩ := start2 hb; have c1 := b1.cell; have c2 := b2.cell; have f1 := b1.free; have f2 := b2.free; have hz := b2.lt; have hz1 := b1.lt; clear hb))
    go_region
    all_goals
      go_wp2
      refine bodyPost_ret (v := .tuple #[.slice (some ⟨w.heap.size + 2, 0, none⟩) 0 0, .agg #[.int .i64 s, .int .i64 t]]) (by simp [results, Try.results39, go_sem, *]) rfl ?_
      rw [e1.out, e2.out]
      refine GivesLT.lit0 (g := w.heap.size + 2) ?_ (by omega) (by go_grown)
      repeat (first | exact box_at (by simp) | refine Box.far ?_ (by simp; omega) _ | refine Box.drew ?_ | refine Box.drewN ?_ _)
  have hn := inB_iff.1 h2
  have hn0 := hn.1
  have hn1 : n ≤ 5 := by omega
  have h5 : n < p := by omega
  clear hn
  cases h6 : inB k 0 (n - 1)
  · skip
    have hno : polyOk p x n k s t = false := by simp [polyOk, h6]
    have e1 := Lib.hid (show polyF p x n k s t = [] by simp [polyF, hno])
    have e2 := Lib.hid (show polyN p x n k s t = t by simp [polyN, hno])
    clear hno
    go_enter Try.func39, Try.ntmps39
    go_wp2_with (first | (go_at_call 50; (with_reducible refine (c_spec_l01In _ _ _ _).mono ?_); rintro e w' ⟨rfl, rfl⟩) | (go_at_call 47; (with_reducible refine (c_spec_IsElement _ _ _).mono ?_); rintro e w' ⟨rfl, rfl⟩) | (go_at_call 63; (with_reducible refine (c_spec_l06Tape _ _ _).mono ?_); rintro e w1 ⟨rfl, hb⟩; obtain ⟨bel, b1, b2⟩ := start2 hb; have c1 := b1.cell; have c2 := b2.cell; have f1 := b1.free; have f2 := b2.free; have hz := b2.lt; have hz1 := b1.lt; clear hb))
    go_region
    all_goals
      go_wp2
      refine bodyPost_ret (v := .tuple #[.slice (some ⟨w.heap.size + 2, 0, none⟩) 0 0, .agg #[.int .i64 s, .int .i64 t]]) (by simp [results, Try.results39, go_sem, *]) rfl ?_
      rw [e1.out, e2.out]
      refine GivesLT.lit0 (g := w.heap.size + 2) ?_ (by omega) (by go_grown)
      repeat (first | exact box_at (by simp) | refine Box.far ?_ (by simp; omega) _ | refine Box.drew ?_ | refine Box.drewN ?_ _)
  have hk := inB_iff.1 h6
  have hk0 := hk.1
  have hk1 := hk.2
  clear hk
  cases h3 : tapeLow s t
  · skip
    have hno : polyOk p x n k s t = false := by simp [polyOk, h3]
    have e1 := Lib.hid (show polyF p x n k s t = [] by simp [polyF, hno])
    have e2 := Lib.hid (show polyN p x n k s t = t by simp [polyN, hno])
    clear hno
    go_enter Try.func39, Try.ntmps39
    go_wp2_with (first | (go_at_call 50; (with_reducible refine (c_spec_l01In _ _ _ _).mono ?_); rintro e w' ⟨rfl, rfl⟩) | (go_at_call 47; (with_reducible refine (c_spec_IsElement _ _ _).mono ?_); rintro e w' ⟨rfl, rfl⟩) | (go_at_call 63; (with_reducible refine (c_spec_l06Tape _ _ _).mono ?_); rintro e w1 ⟨rfl, hb⟩; obtain ⟨bel, b1, b2⟩ := start2 hb; have c1 := b1.cell; have c2 := b2.cell; have f1 := b1.free; have f2 := b2.free; have hz := b2.lt; have hz1 := b1.lt; clear hb))
    go_region
    all_goals
      go_wp2
      refine bodyPost_ret (v := .tuple #[.slice (some ⟨w1.heap.size, 0, none⟩) 0 0, .agg #[.int .i64 s, .int .i64 t]]) (by simp [results, Try.results39, go_sem, *]) rfl ?_
      rw [e1.out, e2.out]
      refine GivesLT.lit0 (g := w1.heap.size) ?_ (by omega) (by go_grown)
      repeat (first | exact box_at (by simp) | refine Box.far ?_ (by simp; omega) _ | refine Box.drew ?_ | refine Box.drewN ?_ _)
  have hyes : polyOk p x n k s t = true := by have h7 : inB n 1 5 = true := inB_iff.2 ⟨hn0, hn1⟩; simp [polyOk, h1, h7, h3, h6]; omega
  have e1 := Lib.hid (show polyF p x n k s t = polyVals p (x :: tapeLF s t p k) n.toNat by simp [polyF, hyes])
  have e2 := Lib.hid (show polyN p x n k s t = tapeLN s t p k by simp [polyN, hyes])
  have hlen := tapeLF_len s t p k
  have HE := Lib.hid (allEl_cons h1 (tapeLF_el (s := s) (t := t) (k := k) HF.out))
  clear hyes
  go_enter Try.func39, Try.ntmps39
  go_wp2_with (first | (go_at_call 50; (with_reducible refine (c_spec_l01In _ _ _ _).mono ?_); rintro e w' ⟨rfl, rfl⟩) | (go_at_call 47; (with_reducible refine (c_spec_IsElement _ _ _).mono ?_); rintro e w' ⟨rfl, rfl⟩) | (go_at_call 63; (with_reducible refine (c_spec_l06Tape _ _ _).mono ?_); rintro e w1 ⟨rfl, hb⟩; obtain ⟨bel, b1, b2⟩ := start2 hb; have c1 := b1.cell; have c2 := b2.cell; have f1 := b1.free; have f2 := b2.free; have hz := b2.lt; have hz1 := b1.lt; clear hb))
  (with_reducible refine (c_spec_TapeList _ _ _ _ _).mono ?_)
  rintro e w2 ⟨A, c, rfl, hown, hb⟩
  have b2' := b2.below hb
  have bel' := below_next bel hb
  have hsz2 := hb.size
  have hz2 := b2'.lt
  clear hb c1 c2 f1 f2 b1 b2 bel
  generalize tapeLF s t p k = l at hown hlen e1 HE
  generalize tapeLN s t p k = t1 at e2
  obtain ⟨m, rfl⟩ : ∃ m : Nat, n = (m : Int) := ⟨n.toNat, by omega⟩
  rw [Int.toNat_natCast] at e1
  have HM := Lib.hid (show m ≤ 5 by omega)
  have hcase := hown.2
  rcases hcase with ⟨hv, h0⟩ | ⟨g, cap, cur, hv, _⟩
  · obtain rfl : l = [] := List.eq_nil_of_length_eq_zero h0
    simp only [Value.slice.injEq] at hv
    obtain ⟨rfl, _, rfl⟩ := hv
    clear hown h0
    go_wp2_with (at_builtin; refine wpList_append_none _ rfl (.tmp 51) (.tmp 52) 22 rfl w2.heap.size 3 i0 Try.underlying22 hi 1 _ 1 (vals [x]) rfl (own_lit_at (by simp) (by omega)) rfl ?_; have hsc := sliceI_lit_at (W := w2.alloc (.cells #[.int .i64 s, .int .i64 t1] 40)) (g := w2.heap.size + 1) (x := x) (by simp); have b25 := (b2'.alloc (.cells #[.int .i64 s, .int .i64 t1] 40)).alloc (.cells #[.int .i64 x] 3); have b35 := (Box.new w2 40 #[.int .i64 s, .int .i64 t1]).alloc (.cells #[.int .i64 x] 3); have bel5 := (bel'.alloc bel'.size (.cells #[.int .i64 s, .int .i64 t1] 40)).alloc (by have := bel'.size; simp; omega) (.cells #[.int .i64 x] 3))
    have HS5 := Lib.hid (show ((w2.alloc (.cells #[.int .i64 s, .int .i64 t1] 40)).alloc (.cells #[.int .i64 x] 3)).heap.size = w2.heap.size + 1 + 1 by simp)
    have hsz5 : w.heap.size ≤ ((w2.alloc (.cells #[.int .i64 s, .int .i64 t1] 40)).alloc (.cells #[.int .i64 x] 3)).heap.size := bel5.size
    generalize (w2.alloc (.cells #[.int .i64 s, .int .i64 t1] 40)).alloc (.cells #[.int .i64 x] 3) = w5 at *
    have HSC := Lib.hid hsc
    have hz25 := b25.lt
    clear hsc
    go_loopw [15, 16] (fun v i wr => ∃ j : Nat, j ≤ m ∧ i = .int .i64 ((j : Int) + 1) ∧ wr.ownsRow w5.heap.size 3 1 v j (vals (polyVals p ([x]) j)) ∧ Below w5.heap.size w5 wr) (fun _ i _ => (m + 1 - (intOf i).toNat))
    case atStart => exact ⟨0, by omega, by simp, own_nil_at HS5.out (Nat.le_of_eq HS5.out), (Below.refl _ _).alloc (Nat.le_refl _) _⟩
    case round =>
      obtain ⟨j, hj, rfl, hown, hbr⟩ := hrel
      have HOWN := Lib.hid hown
      clear hown
      have HM5 := HM.out
      by_cases hlt : j < m
      · have HCS := Lib.hid (HSC.out.below_le hbr (Nat.le_refl _))
        have HMX := Lib.hid (show 1 ≤ maxLen by unfold maxLen; omega)
        have HEJ := Lib.hid (show isEl p ((j : Int) + 1) = true from isEl_iff.2 ⟨HF.out, by omega, by omega⟩)
        have hst := Lib.hid (polyVals_succ p ([x]) j)
        have hlt' : (j : Int) + 1 ≤ (m : Int) := by omega
        go_wp2_with (first | (go_at_call 48; (with_reducible refine (c_spec_l07At_el _ _ _ _ _ _ _ _ HCS.out HMX.out HE.out HEJ.out).mono ?_); rintro e w' ⟨rfl, rfl⟩) | (at_builtin; refine wpList_append_own _ rfl (.tmp 60) (.tmp 65) 22 rfl w5.heap.size 3 i0 (.int .i64 0) 1 8 Try.underlying22 hi hz0 HZ.out.1 HZ.out.2 rfl (by decide) _ _ _ rfl (HOWN.out.alloc _) ⟨_, 0, none⟩ 1 1 [.int .i64 _] rfl rfl (cell_one_new _ _ _) (by simp [Value.oneCell']) (by unfold maxLen; omega) (by omega) (by have := hbr.size; simp; omega) ?_; intro v' w6 hown6 hgrow6 _))
        have hb3 := below_app hbr HOWN.out hgrow6
        go_roundw
        case rel => exact ⟨j + 1, by omega, by first | go_num | (congr 1), by rw [← hst.out]; exact hown6, hb3⟩
        case measure => simp [intOf]; omega
      · obtain rfl : j = m := by omega
        have hlt' : ¬ (j : Int) + 1 ≤ (j : Int) := by omega
        have b2 := b25.below hbr
        have b3 := b35.below hbr
        have belr := below_next bel5 hbr
        have c2 := b2.cell
        have f2 := b2.free
        have c3 := b3.cell
        go_wp2_with fail
        go_region
        all_goals
          go_wp2
          refine bodyPost_ret (v := .tuple #[u15, .agg #[.int .i64 s, .int .i64 t1]]) (by simp [results, Try.results39, go_sem, *]) rfl ?_
          rw [e1.out, e2.out]
          refine GivesLT.of (lo := w5.heap.size) (n := j) ?_ (by omega) ?_
          · have h1 := own_far (p := ⟨w.heap.size + 1, 0, none⟩) (u := .int .i64 s) HOWN.out (own_ne HOWN.out hz25)
            have h2 := own_far (p := ⟨w.heap.size + 1, 1, none⟩) (u := .int .i64 t1) h1 (own_ne h1 hz25)
            first | exact h2 | exact World.ownsRow.drew h2
          · go_grown
  · simp only [Value.slice.injEq] at hv
    obtain ⟨rfl, _, rfl⟩ := hv
    have hsl := OwnI.slice hown
    have HN := Lib.hid (SliceI.news (SliceI.alloc0 (o := .cells #[.int .i64 x] 3) (SliceI.alloc0 (o := .cells #[.int .i64 s, .int .i64 t1] 40) hsl)))
    clear hown hsl
    go_wp2_with (at_builtin; go_loud (refine wpList_append_own _ rfl (.tmp 51) (.tmp 52) 22 rfl w2.heap.size 3 i0 (.int .i64 0) 1 8 Try.underlying22 hi hz0 HZ.out.1 HZ.out.2 rfl (by decide) _ 1 (vals [x]) rfl (own_lit_at (by simp) (by omega)) ⟨g, 0, none⟩ l.length c (vals l) rfl (by simp [vals]) HN.out (by simp [vals, Value.oneCell']) (by unfold maxLen; omega) (by omega) (by simp; omega) ?_; intro v' w5 hown5 hgrow5 _); go_loud (have b25 := Box.grown ((b2'.alloc (.cells #[.int .i64 s, .int .i64 t1] 40)).alloc (.cells #[.int .i64 x] 3)) hgrow5 (lit_ne (by omega))); go_loud (have b35 := Box.grown ((Box.new w2 40 #[.int .i64 s, .int .i64 t1]).alloc (.cells #[.int .i64 x] 3)) hgrow5 (lit_ne (by omega))); go_loud (have bel5 := Below.grown ((bel'.alloc bel'.size (.cells #[.int .i64 s, .int .i64 t1] 40)).alloc (by have := bel'.size; simp; omega) (.cells #[.int .i64 x] 3)) hgrow5 (by have := bel'.size; simp; omega) (fun j hj => lit_ge (by have := bel'.size; omega) hj)); go_loud (rw [show vals [x] ++ vals l = vals (x :: l) by simp [vals]] at hown5; obtain ⟨gc, cc, rfl, hsc⟩ := ownsRow.sliceI hown5 (by omega); clear hown5 hgrow5))
    have HS5 := Lib.hid (show w5.heap.size = w5.heap.size from rfl)
    have hsz5 : w.heap.size ≤ w5.heap.size := bel5.size
    have HSC := Lib.hid hsc
    have hz25 := b25.lt
    clear hsc
    go_loopw [15, 16] (fun v i wr => ∃ j : Nat, j ≤ m ∧ i = .int .i64 ((j : Int) + 1) ∧ wr.ownsRow w5.heap.size 3 1 v j (vals (polyVals p (x :: l) j)) ∧ Below w5.heap.size w5 wr) (fun _ i _ => (m + 1 - (intOf i).toNat))
    case atStart => exact ⟨0, by omega, by simp, own_nil_at HS5.out (Nat.le_of_eq HS5.out), (Below.refl _ _).alloc (Nat.le_refl _) _⟩
    case round =>
      obtain ⟨j, hj, rfl, hown, hbr⟩ := hrel
      have HOWN := Lib.hid hown
      clear hown
      have HM5 := HM.out
      by_cases hlt : j < m
      · have HCS := Lib.hid (HSC.out.below_le hbr (Nat.le_refl _))
        have HMX := Lib.hid (show 1 + l.length ≤ maxLen by unfold maxLen; omega)
        have HEJ := Lib.hid (show isEl p ((j : Int) + 1) = true from isEl_iff.2 ⟨HF.out, by omega, by omega⟩)
        have hst := Lib.hid (polyVals_succ p (x :: l) j)
        have hlt' : (j : Int) + 1 ≤ (m : Int) := by omega
        go_wp2_with (first | (go_at_call 48; (with_reducible refine (c_spec_l07At_el _ _ _ _ _ _ _ _ HCS.out HMX.out HE.out HEJ.out).mono ?_); rintro e w' ⟨rfl, rfl⟩) | (at_builtin; refine wpList_append_own _ rfl (.tmp 60) (.tmp 65) 22 rfl w5.heap.size 3 i0 (.int .i64 0) 1 8 Try.underlying22 hi hz0 HZ.out.1 HZ.out.2 rfl (by decide) _ _ _ rfl (HOWN.out.alloc _) ⟨_, 0, none⟩ 1 1 [.int .i64 _] rfl rfl (cell_one_new _ _ _) (by simp [Value.oneCell']) (by unfold maxLen; omega) (by omega) (by have := hbr.size; simp; omega) ?_; intro v' w6 hown6 hgrow6 _))
        have hb3 := below_app hbr HOWN.out hgrow6
        go_roundw
        case rel => exact ⟨j + 1, by omega, by first | go_num | (congr 1), by rw [← hst.out]; exact hown6, hb3⟩
        case measure => simp [intOf]; omega
      · obtain rfl : j = m := by omega
        have hlt' : ¬ (j : Int) + 1 ≤ (j : Int) := by omega
        have b2 := b25.below hbr
        have b3 := b35.below hbr
        have belr := below_next bel5 hbr
        have c2 := b2.cell
        have f2 := b2.free
        have c3 := b3.cell
        go_wp2_with fail
        go_region
        all_goals
          go_wp2
          refine bodyPost_ret (v := .tuple #[u15, .agg #[.int .i64 s, .int .i64 t1]]) (by simp [results, Try.results39, go_sem, *]) rfl ?_
          rw [e1.out, e2.out]
          refine GivesLT.of (lo := w5.heap.size) (n := j) ?_ (by omega) ?_
          · have h1 := own_far (p := ⟨w.heap.size + 1, 0, none⟩) (u := .int .i64 s) HOWN.out (own_ne HOWN.out hz25)
            have h2 := own_far (p := ⟨w.heap.size + 1, 1, none⟩) (u := .int .i64 t1) h1 (own_ne h1 hz25)
            first | exact h2 | exact World.ownsRow.drew h2
          · go_grown
theorem c_spec_SharePoly (p x n k s t : Int) (w : World) :
    Calls Try.prog 39 #[.int .i64 p, .int .i64 x, .int .i64 n, .int .i64 k, .agg #[.int .i64 s, .int .i64 t]] w (GivesLT w (polyF p x n k s t) s (polyN p x n k s t)) := by
  by_cases h8 : p - 1 < 5
  · exact c_spec_SharePoly_lo p x n k s t w h8
  · exact c_spec_SharePoly_hi p x n k s t w h8

end Go.Proofs.Ytagocjdodgolkaa
