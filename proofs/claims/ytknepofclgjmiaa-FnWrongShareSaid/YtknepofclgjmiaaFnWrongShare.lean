/- The statement FnWrongShare: one wrong share among enough shares is detected. It has no conditions. -/
import Derived.Test.YtknepofclgjmiaaRows
import Derived.WalkKit
import Derived.ProofKit
import Derived.OpenShut
import Derived.ChangeOld
import Derived.Below
import Derived.Lib.SmallJoins
import Derived.RegionTactic
import Derived.Deep.RegionHeld3
import Derived.Deep.DeepCutAuto
import Derived.Deep.DrawnRows
import Derived.Deep.QuietTactic
import Derived.BigQuiet
import Derived.Handy
import Derived.Test.YtknepofclgjmiaaDrawCode
import Derived.Test.YtknepofclgjmiaaWords
import Derived.Test.YtknepofclgjmiaaField
import Derived.Test.YtknepofclgjmiaaAlg
import Derived.Test.YtknepofclgjmiaaDrawMore
import Derived.Test.YtknepofclgjmiaaInterp
import Derived.Test.YtknepofclgjmiaaLinPlain
namespace Go.Proofs.Ytknepofclgjmiaa.lawFnWrongShare
open Go.ChangeShapes Go.WideShapes Go.ChangeAt Go.RowKit Go.Joins
set_option linter.unusedVariables false

theorem own : ownKnob Try.prog.godebug = none := by kernel_rfl
theorem laidOut : laidOutB Try.prog = true := by kernel_rfl

theorem SliceI.cell_at {w : World} {B n b off : Nat} {xs : List Int} (h : SliceI w B (some ⟨b, off, none⟩) n xs) (k : Nat) (hk : k < n) : w.cell? ⟨b, off + k, none⟩ = some (.int .i64 (xs.getD k 0)) := by
  obtain ⟨b', off', e, _, hc⟩ := h.at_ hk
  cases e
  exact hc
theorem getD_mem {xs : List Int} {k : Nat} (h : k < xs.length) : xs.getD k 0 ∈ xs := by
  rw [List.getD_eq_getElem?_getD, List.getElem?_eq_getElem h]; exact List.getElem_mem _

attribute [local go_sem ↓] Go.wp_at_zero Go.wp_at_succ
theorem own_sliceC {w : World} {lo n : Nat} {v : Value} {xs : List Int} (h : w.ownsRow lo 3 1 v n (vals xs)) (hn : 0 < n) : ∃ g c, v = .slice (some ⟨g, 0, none⟩) n c ∧ n ≤ c ∧ c ≤ maxLen ∧ SliceI w w.heap.size (some ⟨g, 0, none⟩) n xs := by
  rcases h.2 with ⟨_, h0⟩ | ⟨g, c, _, rfl, _, _, h1, h2, _⟩
  · omega
  · exact ⟨g, c, rfl, h1, h2, OwnI.slice (lo := lo) (c := c) h⟩
theorem SliceI.drop1 {w : World} {B n b off : Nat} {xs : List Int} (h : SliceI w B (some ⟨b, off, none⟩) (n + 1) xs) : SliceI w B (some ⟨b, off + 1, none⟩) n (xs.drop 1) := by
  refine ⟨by rw [List.length_drop, h.len]; omega, fun hn => ?_⟩
  obtain ⟨b', off', e, hb, hc⟩ := h.2 (by omega)
  simp only [Option.some.injEq, Addr.mk.injEq, and_true] at e
  obtain ⟨rfl, rfl⟩ := e
  refine ⟨b, off + 1, rfl, hb, fun k hk => ?_⟩
  have := hc (k + 1) (by omega)
  rw [show off + (k + 1) = off + 1 + k by omega] at this
  rw [this]
  congr 2
  simp [List.getD_eq_getElem?_getD]
theorem ptsF_succ (f j : Nat) : vals (ptsF f j) ++ [.int .i64 ((f : Int) + (j : Int) + 1)] = vals (ptsF f (j + 1)) := by simp [ptsF, vals, List.range_succ]
theorem SliceI.mid {w : World} {B n b : Nat} {xs : List Int} (h : SliceI w B (some ⟨b, 0, none⟩) n xs) {f m : Nat} (hf : f + m ≤ n) : SliceI w B (some ⟨b, f, none⟩) m ((xs.drop f).take m) := by
  refine ⟨by rw [List.length_take, List.length_drop, h.len]; omega, fun hn => ?_⟩
  obtain ⟨b', off', e, hb, hc⟩ := h.2 (by omega)
  simp only [Option.some.injEq, Addr.mk.injEq, and_true] at e
  obtain ⟨rfl, rfl⟩ := e
  refine ⟨b, f, rfl, hb, fun k hk => ?_⟩
  rw [drop_take_get hk]
  have := hc (f + k) (by omega)
  rw [Nat.zero_add] at this
  exact this
theorem own_nil_at' {W : World} {base g : Nat} (h : W.heap.size = g) (hb : base ≤ g) : (W.alloc (.cells #[] 3)).ownsRow base 3 1 (.slice (some ⟨g, 0, none⟩) 0 0) 0 (vals []) := by
  subst h
  exact World.ownsRow_lit W #[] 0 hb (by simp [maxLen]) rfl
theorem tapeL_share {p x s t : Int} {n k : Nat} (hp : primes4 p) (hx : isEl p x = true) (hn : 1 ≤ n) (hn5 : n ≤ 5) (hk : k < n) (hs : 0 ≤ s ∧ s ≤ 4294967295) (ht : 0 ≤ t ∧ t < 60) :
    polyF p x (n : Int) (k : Int) s t = polyVals p (x :: tapeL s t p k) n ∧ polyN p x (n : Int) (k : Int) s t = t + (k : Int) := by
  have hb := primes4_big hp
  have h2 : tapeLok s t p (k : Int) = true := by
    simp only [tapeLok, Bool.and_eq_true, inB_iff, tapeOk_iff, decide_eq_true_eq]; omega
  have h1 : polyOk p x (n : Int) (k : Int) s t = true := by
    simp only [polyOk, Bool.and_eq_true, inB_iff, decide_eq_true_eq, tapeLow, tapeOk_iff]
    exact ⟨⟨⟨⟨hx, by omega⟩, by omega⟩, by omega⟩, by omega⟩
  constructor
  · unfold polyF; rw [if_pos h1]; unfold tapeLF; rw [if_pos h2, Int.toNat_natCast, Int.toNat_natCast]
  · unfold polyN; rw [if_pos h1]; unfold tapeLN; rw [if_pos h2]
theorem coef_el {p x s t : Int} {k : Nat} (hp : primes4 p) (hx : isEl p x = true) : allEl p (x :: tapeL s t p k) = true := allEl_cons hx (tapeL_el (primes4_field hp) k)
theorem coef_len {p x s t : Int} {k : Nat} : (x :: tapeL s t p k).length = k + 1 := by simp [tapeL_len]
theorem polyV_zero (x : Int) (l : List Int) : polyV 0 (x :: l) = x := by simp [polyV]
theorem tapeL_share' {p x s t : Int} {n k : Nat} (hp : primes4 p) (hx : isEl p x = true) (hn : 1 ≤ n) (hn5 : n ≤ 5) (hk : k < n) (hs : 0 ≤ s ∧ s ≤ 4294967295) (ht : 0 ≤ t ∧ t ≤ 2000) :
    polyF p x (n : Int) (k : Int) s t = polyVals p (x :: tapeL s t p k) n ∧ polyN p x (n : Int) (k : Int) s t = t + (k : Int) := by
  have hb := primes4_big hp
  have h2 : tapeLok s t p (k : Int) = true := by
    simp only [tapeLok, Bool.and_eq_true, inB_iff, tapeOk_iff, decide_eq_true_eq]; omega
  have h1 : polyOk p x (n : Int) (k : Int) s t = true := by
    simp only [polyOk, Bool.and_eq_true, inB_iff, decide_eq_true_eq, tapeLow, tapeOk_iff]
    exact ⟨⟨⟨⟨hx, by omega⟩, by omega⟩, by omega⟩, by omega⟩
  constructor
  · unfold polyF; rw [if_pos h1]; unfold tapeLF; rw [if_pos h2, Int.toNat_natCast, Int.toNat_natCast]
  · unfold polyN; rw [if_pos h1]; unfold tapeLN; rw [if_pos h2]
/-- the list S holds the shares of a polynomial of k + 1 coefficients with the value x at 0 -/
def Shares (p x : Int) (n k : Nat) (cs S : List Int) : Prop := ShareOf p cs n S ∧ cs.length = k + 1 ∧ polyV 0 cs = x
theorem shares_of {p x s t : Int} {n k : Nat} (hp : primes4 p) (hx : isEl p x = true) (hn5 : n ≤ 5) : Shares p x n k (x :: tapeL s t p k) (polyVals p (x :: tapeL s t p k) n) :=
  ⟨share_vals hp hn5 (coef_el hp hx), coef_len (p := p), polyV_zero _ _⟩
theorem startD {w w1 : World} {c1 : Array Value} {t1 : TypeId} (hb : Below (w.alloc (.cells c1 t1)).drew.heap.size (w.alloc (.cells c1 t1)).drew w1) : Below w.heap.size w w1 ∧ Box w1 w.heap.size t1 c1 :=
  start1 (((Below.refl (w.alloc (.cells c1 t1)).heap.size (w.alloc (.cells c1 t1))).drew).trans hb)
theorem keepS {W0 W : World} {p : Addr} {v : Value} (hp : p.block < W0.heap.size) (hq : W0.cell? p = some v) (h : Below W0.heap.size W0 W) : Below W0.heap.size W0 W ∧ W.cell? p = some v := ⟨h, (h.cell hp).trans hq⟩
theorem keepS3 {W0 W : World} {p p' p'' : Addr} {v v' v'' : Value} (hp : p.block < W0.heap.size) (hp' : p'.block < W0.heap.size) (hp'' : p''.block < W0.heap.size) (hq : W0.cell? p = some v) (hq' : W0.cell? p' = some v') (hq'' : W0.cell? p'' = some v'') (h : Below W0.heap.size W0 W) : Below W0.heap.size W0 W ∧ W.cell? p = some v ∧ W.cell? p' = some v' ∧ W.cell? p'' = some v'' := ⟨h, (h.cell hp).trans hq, (h.cell hp').trans hq', (h.cell hp'').trans hq''⟩
theorem keepS2 {W0 W : World} {p p' : Addr} {v v' : Value} (hp : p.block < W0.heap.size) (hp' : p'.block < W0.heap.size) (hq : W0.cell? p = some v) (hq' : W0.cell? p' = some v') (h : Below W0.heap.size W0 W) : Below W0.heap.size W0 W ∧ W.cell? p = some v ∧ W.cell? p' = some v' := ⟨h, (h.cell hp).trans hq, (h.cell hp').trans hq'⟩
theorem drawTape_at {W0 W : World} {A : Option Addr} {n c B : Nat} (hU : SliceU W0 B A n) (hb : Below W0.heap.size W0 W) (hB : B ≤ W0.heap.size) (hn : n ≤ 2097152) : Calls Try.prog 15 #[.slice A n c] W (GivesTape W) :=
  c_spec_DrawTape A n c B W (hU.keep fun b o hlt => hb.cell (p := ⟨b, o, none⟩) (Nat.lt_of_lt_of_le hlt hB)) (Nat.le_trans hB hb.size) hn
theorem GivesI.sl1 {w w' : World} {ys : List Int} {n : Nat} {e : Ending} (h : GivesI w ys e w') (hl : ys.length = n) (hn : 1 ≤ n) : ∃ gs c, e = .returned (.slice (some ⟨gs, 0, none⟩) n c) ∧ n ≤ c ∧ c ≤ maxLen ∧ SliceI w' w'.heap.size (some ⟨gs, 0, none⟩) n ys ∧ gs < w'.heap.size ∧ Below w.heap.size w w' := by
  subst hl
  obtain ⟨A, c, rfl, o, hb⟩ := h
  obtain ⟨gs, c', hv, h1, h2, hsl⟩ := own_sliceC o (by omega)
  simp only [Value.slice.injEq] at hv
  obtain ⟨rfl, _, rfl⟩ := hv
  exact ⟨gs, c, rfl, h1, h2, hsl, OwnI.lt o _ rfl, hb⟩
/-- what a region that shares a value leaves: the shares, the tape's rest, new memory alone -/
def Left (W0 : World) (M p x : Int) (n k : Nat) (sa sb : Value) (wx : World) : Prop :=
  ∃ (gs c gt : Nat) (s t : Int) (cs S : List Int), sa = .slice (some ⟨gs, 0, none⟩) n c ∧ sb = .pointer (some ⟨gt, 0, none⟩) ∧ Hid (Shares p x n k cs S) ∧ Hid ((0 ≤ s ∧ s ≤ 4294967295) ∧ 0 ≤ t ∧ t ≤ M) ∧ n ≤ c ∧ Hid (SliceI wx wx.heap.size (some ⟨gs, 0, none⟩) n S) ∧ Hid (Box wx gt 29 #[.int .i64 s, .int .i64 t]) ∧ gs < wx.heap.size ∧ gt < wx.heap.size ∧ Hid (Below W0.heap.size W0 wx) ∧ c ≤ maxLen
theorem Left.of {W0 W : World} {lo n k gt c : Nat} {A : Option Addr} {M p x s t : Int} {cs S : List Int} (own : OwnI W lo A n c S) (hn : 1 ≤ n) (hsh : Shares p x n k cs S) (hs : 0 ≤ s ∧ s ≤ 4294967295) (ht : 0 ≤ t ∧ t ≤ M)
    (hbx : Box W gt 29 #[.int .i64 s, .int .i64 t]) (hb : Below W0.heap.size W0 W) : Left W0 M p x n k (.slice A n c) (.pointer (some ⟨gt, 0, none⟩)) W := by
  obtain ⟨gs, c', hv, h1, h2, hsl⟩ := own_sliceC own (by omega)
  simp only [Value.slice.injEq] at hv
  obtain ⟨rfl, _, rfl⟩ := hv
  exact ⟨gs, c, gt, s, t, cs, S, rfl, rfl, Lib.hid hsh, Lib.hid ⟨hs, ht⟩, h1, Lib.hid hsl, Lib.hid hbx, OwnI.lt own _ rfl, hbx.lt, Lib.hid hb, h2⟩
theorem own_set2 {w : World} {lo n c g : Nat} {A : Option Addr} {xs : List Int} {u v : Value} (h : OwnI w lo A n c xs) (hg : g < lo) : OwnI ((w.setCell ⟨g, 0, none⟩ u).setCell ⟨g, 1, none⟩ v) lo A n c xs :=
  own_far (own_far h (own_ne h hg)) (own_ne h hg)
theorem below_set2 {W0 w : World} {g : Nat} {u v : Value} (h : Below W0.heap.size W0 w) (hg : W0.heap.size ≤ g) : Below W0.heap.size W0 ((w.setCell ⟨g, 0, none⟩ u).setCell ⟨g, 1, none⟩ v) := (h.setCell hg _).setCell hg _
theorem box_set2 {w : World} {g t : Nat} {a b u v : Value} (h : Box w g t #[a, b]) : Box ((w.setCell ⟨g, 0, none⟩ u).setCell ⟨g, 1, none⟩ v) g t #[u, v] := by simpa using (h.set 0 u).set 1 v
set_option maxHeartbeats 8000000 in
theorem walk (w : World) (A : Option Addr) (len cap : Nat) (z : List Int) (h : IsRow .u8 w A len cap z) : Calls Try.prog 7 #[.slice A len cap] w fun e w' => e = .returned (.bool true) ∧ Below w.heap.size w w' := by
  obtain ⟨hU, hA⟩ := h.code
  clear h
  by_cases hbig : 1048576 < (len : Int)
  · go_enter Try.func7, Try.ntmps7
    go_wp2_with (go_at_call 11; (with_reducible refine (c_laws_big _ _ _ _).mono ?_); rintro e w' ⟨rfl, rfl⟩)
    go_ret
    exact ⟨rfl, Below.refl _ _⟩
  have hm : len ≤ 1048576 := by omega
  have bel : Below w.heap.size w w := Below.refl _ _
  have HA := Lib.hid hA
  have HU := Lib.hid hU
  clear hA hU
  have hq0 : w.heap.size ≤ w.heap.size := Nat.le_refl _
  go_enter Try.func7, Try.ntmps7
  go_wp2_with (go_at_call 11; (with_reducible refine (c_laws_big _ _ _ _).mono ?_); rintro e w' ⟨rfl, rfl⟩)
  obtain ⟨i0, hi, hz0, hz1, hz2⟩ := info_parts int_info
  have HZ := Lib.hid (And.intro hz1 hz2)
  clear hz1 hz2
  refine (c_spec_DrawPlaces _ _ _ _ _ HU.out (by omega) (by omega)).mono ?_
  rintro e w2 ⟨ps, ⟨hpl, hpr⟩, A_p, c_p, rfl, own, hb⟩
  have hq2 := hb.size
  replace bel := below_next bel hb
  have HU2 := Lib.hid (HU.out.below' hb (by omega))
  clear HU HA hb
  have hlp : 11 < ps.length := by omega
  have HPR := Lib.hid hpr
  have hsl := own.slice
  obtain ⟨g, off, rfl, hgb, _⟩ := hsl.at_ (k := 0) (by omega)
  obtain ⟨q0, hcell0, hq00, hq01⟩ : ∃ q : Int, w2.cell? ⟨g, off + 0, none⟩ = some (.int .i64 q) ∧ 0 ≤ q ∧ q < 10000 := ⟨_, SliceI.cell_at hsl 0 (by omega), HPR.out _ (getD_mem (by omega))⟩
  obtain ⟨q1, hcell1, hq10, hq11⟩ : ∃ q : Int, w2.cell? ⟨g, off + 1, none⟩ = some (.int .i64 q) ∧ 0 ≤ q ∧ q < 10000 := ⟨_, SliceI.cell_at hsl 1 (by omega), HPR.out _ (getD_mem (by omega))⟩
  obtain ⟨q2, hcell2, hq20, hq21⟩ : ∃ q : Int, w2.cell? ⟨g, off + 2, none⟩ = some (.int .i64 q) ∧ 0 ≤ q ∧ q < 10000 := ⟨_, SliceI.cell_at hsl 2 (by omega), HPR.out _ (getD_mem (by omega))⟩
  obtain ⟨q3, hcell3, hq30, hq31⟩ : ∃ q : Int, w2.cell? ⟨g, off + 3, none⟩ = some (.int .i64 q) ∧ 0 ≤ q ∧ q < 10000 := ⟨_, SliceI.cell_at hsl 3 (by omega), HPR.out _ (getD_mem (by omega))⟩
  obtain ⟨q4, hcell4, hq40, hq41⟩ : ∃ q : Int, w2.cell? ⟨g, off + 4, none⟩ = some (.int .i64 q) ∧ 0 ≤ q ∧ q < 10000 := ⟨_, SliceI.cell_at hsl 4 (by omega), HPR.out _ (getD_mem (by omega))⟩
  obtain ⟨q5, hcell5, hq50, hq51⟩ : ∃ q : Int, w2.cell? ⟨g, off + 5, none⟩ = some (.int .i64 q) ∧ 0 ≤ q ∧ q < 10000 := ⟨_, SliceI.cell_at hsl 5 (by omega), HPR.out _ (getD_mem (by omega))⟩
  simp only [Nat.add_zero] at hcell0
  clear own hsl hpr hpl HPR
  obtain ⟨r, hr1, hr2⟩ : ∃ r : Nat, q0 % 3 = (r : Int) ∧ r < 3 := ⟨(q0 % 3).toNat, by omega, by omega⟩
  obtain ⟨p, hpp, hpc⟩ : ∃ p : Int, primes3 p ∧ (w2.alloc (.cells #[.int .i64 7, .int .i64 11, .int .i64 97] 3)).cell? ⟨w2.heap.size, r, none⟩ = some (.int .i64 p) := by
    have hb := Box.new w2 3 #[.int .i64 7, .int .i64 11, .int .i64 97]
    have h3 : r = 0 ∨ r = 1 ∨ r = 2 := by omega
    rcases h3 with rfl | rfl | rfl
    · exact ⟨7, by unfold primes3; omega, hb.cell 0⟩
    · exact ⟨11, by unfold primes3; omega, hb.cell 1⟩
    · exact ⟨97, by unfold primes3; omega, hb.cell 2⟩
  have HP0 := Lib.hid hpp
  have HP := Lib.hid (primes3_four hpp)
  have hpb := primes4_big HP.out
  have hp7 := hpb.1
  have hp97 := hpb.2
  clear hpp hpb
  have l5 : 5 < ps.length := by omega
  generalize ps.length = mm at *
  have l0 : 0 < mm := by omega
  have l1 : 1 < mm := by omega
  have l2 : 2 < mm := by omega
  have l3 : 3 < mm := by omega
  have l4 : 4 < mm := by omega
  have i3 : (3 : Int) < (mm : Int) := by omega
  have i4 : (4 : Int) < (mm : Int) := by omega
  have i5 : (5 : Int) < (mm : Int) := by omega
  obtain ⟨n, hn1, hn2, hn5⟩ : ∃ n : Nat, 3 + q1 % 3 = (n : Int) ∧ 3 ≤ n ∧ n ≤ 5 := ⟨(3 + q1 % 3).toNat, by omega, by omega, by omega⟩
  have hmod : 0 ≤ q2 % ((n : Int) - 1) ∧ q2 % ((n : Int) - 1) < (n : Int) - 1 := ⟨Int.emod_nonneg _ (by omega), Int.emod_lt_of_pos _ (by omega)⟩
  obtain ⟨k, hk1, hk3⟩ : ∃ k : Nat, q2 % ((n : Int) - 1) = (k : Int) ∧ k + 2 ≤ n := ⟨(q2 % ((n : Int) - 1)).toNat, by omega, by omega⟩
  clear hmod
  have hk2 : k < n := by omega
  have hmod : 0 ≤ q4 % (n : Int) ∧ q4 % (n : Int) < (n : Int) := ⟨Int.emod_nonneg _ (by omega), Int.emod_lt_of_pos _ (by omega)⟩
  obtain ⟨i, hi1, hi2⟩ : ∃ i : Nat, q4 % (n : Int) = (i : Int) ∧ i < n := ⟨(q4 % (n : Int)).toNat, by omega, by omega⟩
  clear hmod
  have hmod : 0 ≤ q5 % (p - 1) ∧ q5 % (p - 1) < p - 1 := ⟨Int.emod_nonneg _ (by omega), Int.emod_lt_of_pos _ (by omega)⟩
  obtain ⟨d, hd1, hd2, hd3⟩ : ∃ d : Int, q5 % (p - 1) = d ∧ 0 ≤ d ∧ d < p - 1 := ⟨_, rfl, hmod.1, hmod.2⟩
  clear hmod
  have hn11 : (((n : Int) - 1) == 0) = false := by rw [beq_eq_false_iff_ne]; omega
  have hn12 : ¬ (n : Int) - 1 = 0 := by omega
  have hp12 : ¬ p - 1 = 0 := by omega
  have hr0 : (0 : Int) ≤ (r : Int) := by omega
  have hr3 : (r : Int) < 3 := by omega
  have hpp0 : (p == 0) = false := by rw [beq_eq_false_iff_ne]; omega
  have hp0 : ¬ p = 0 := by omega
  have hnn0 : ((n : Int) == 0) = false := by rw [beq_eq_false_iff_ne]; omega
  have hd10 : decide (1048576 < (len : Int)) = false := by rw [decide_eq_false_iff_not]; omega
  obtain ⟨x, hx1, HX⟩ : ∃ x : Int, q3 % p = x ∧ Hid (isEl p x = true) := ⟨_, rfl, Lib.hid (el_mod (primes4_field HP.out) q3)⟩
  have hx0 := (el_lt HX.out).1
  have hxp := (el_lt HX.out).2
  have hm3 : q3.tmod p = x := (Int.tmod_eq_emod_of_nonneg hq30).trans hx1
  have HI1 := Lib.hid hi1
  have HD1 := Lib.hid hd1
  go_upto_region 7 with fail
  simp only [hk1]
  have HU3 := Lib.hid (HU2.out.alloc (o := .cells #[.int .i64 7, .int .i64 11, .int .i64 97] 3) (by omega))
  have kq : (w2.alloc (.cells #[.int .i64 7, .int .i64 11, .int .i64 97] 3)).cell? ⟨g, off + 3, none⟩ = some (.int .i64 q3) := (World.cell?_alloc_past _ _ _ hgb).trans hcell3
  have kq4 : (w2.alloc (.cells #[.int .i64 7, .int .i64 11, .int .i64 97] 3)).cell? ⟨g, off + 4, none⟩ = some (.int .i64 q4) := (World.cell?_alloc_past _ _ _ hgb).trans hcell4
  have kq5 : (w2.alloc (.cells #[.int .i64 7, .int .i64 11, .int .i64 97] 3)).cell? ⟨g, off + 5, none⟩ = some (.int .i64 q5) := (World.cell?_alloc_past _ _ _ hgb).trans hcell5
  have hgB : (⟨g, off + 3, none⟩ : Addr).block < (w2.alloc (.cells #[.int .i64 7, .int .i64 11, .int .i64 97] 3)).heap.size := by simp; omega
  have BEL := Lib.hid (bel.alloc bel.size (.cells #[.int .i64 7, .int .i64 11, .int .i64 97] 3))
  have hBA : w.heap.size ≤ (w2.alloc (.cells #[.int .i64 7, .int .i64 11, .int .i64 97] 3)).heap.size := by simp; omega
  generalize w2.alloc (.cells #[.int .i64 7, .int .i64 11, .int .i64 97] 3) = wA at *
  clear hpc hcell0 hcell1 hcell2 hcell3 hcell4 hcell5 hr1 hn1 hk1 bel HU2 hi1 hd1
  skip
  go_cut [7, 8] from 33 to 46 (fun sa sb wx => Left wA 1000 p x n k sa sb wx)
  case first =>
    go_region_held3 (fun W => Below wA.heap.size wA W ∧ W.cell? ⟨g, off + 3, none⟩ = some (.int .i64 q3)) (first | exact keepS hgB kq (Below.refl _ _).drew | exact keepS hgB kq B4 | exact keepS hgB kq (B4.alloc B4.size _) | exact keepS hgB kq B3 | exact keepS hgB kq (B3.alloc B3.size _) | exact keepS hgB kq (below_set2 B4 (Nat.le_refl _)) | exact keepS hgB kq (below_set2 B4 B3.size) | exact keepS hgB kq ((Below.refl _ _).alloc (Nat.le_refl _) _).drew) (first | (go_at_call 15; (with_reducible refine (drawTape_at HU3.out (by first | exact (Below.refl _ _).drew | exact ((Below.refl _ _).alloc (Nat.le_refl _) _).drew) hBA (by omega)).mono ?_); rintro e w3 ⟨s, t, ⟨hs, ht⟩, rfl, hb3⟩; have B3 : Below wA.heap.size wA w3 := (by first | exact (startD hb3).1 | exact (Below.refl _ _).drew.trans hb3); (try (obtain ⟨_, bx3⟩ := startD hb3; have cx3 := bx3.cell; have fx3 := bx3.free; have zx3 := bx3.lt)); have HS3 := Lib.hid hs; have HT3 := Lib.hid (show 0 ≤ t ∧ t ≤ 1000 by omega); have HT4 := Lib.hid (show 0 ≤ t + (k : Int) ∧ t + (k : Int) ≤ 1000 by omega); have e12 := tapeL_share' (n := n) (k := k) HP.out HX.out (by omega) hn5 hk2 hs (show 0 ≤ t ∧ t ≤ 2000 by omega); have HE1 := Lib.hid e12.1; have HE2 := Lib.hid e12.2; clear e12 hs ht) | (go_at_call 22; (with_reducible refine (c_impl_SharePoly _ _ _ _ _ _ _).mono ?_); rw [HE1.out, HE2.out]; rintro e w4 ⟨A_s, c_s, rfl, own, hb4⟩; rw [polyVals_len] at own ⊢; have B4 : Below wA.heap.size wA w4 := (by first | exact below_next B3 (start1 hb4).1 | exact below_next B3 hb4); (try (obtain ⟨_, bx4⟩ := start1 hb4; have cx4 := bx4.cell; have fx4 := bx4.free; have zx4 := bx4.lt)); (try (have bx5 := bx3.below hb4; have cx5 := bx5.cell; have fx5 := bx5.free; have zx5 := bx5.lt)); have z34 := hb4.size; have OWN := Lib.hid own; have BB3 := B3.size; clear own; (try simp only [World.size_alloc] at z34)))
    all_goals
      go_wp2_with fail
      go_meet
      first
      | exact Left.of (World.ownsRow.alloc OWN.out _) (by omega) (shares_of HP.out HX.out hn5) HS3.out HT4.out (Box.new _ _ _) (B4.alloc B4.size _)
      | exact Left.of (own_set2 OWN.out (by (try simp only [World.size_alloc]); omega)) (by omega) (shares_of HP.out HX.out hn5) HS3.out HT4.out (box_set2 bx4) (below_set2 B4 BB3)
      | exact Left.of (own_set2 OWN.out (by (try simp only [World.size_alloc]); omega)) (by omega) (shares_of HP.out HX.out hn5) HS3.out HT4.out (box_set2 bx5) (below_set2 B4 (Nat.le_refl _))
  case rest =>
    obtain ⟨g0, c0, t0, s0', t0', cs0, S0, rfl, rfl, SH0, ST0, hc0, SL0, BX0, hg0, ht0, BL0, hcm0⟩ := hcut
    have hE : ∃ x, x = wc := ⟨_, rfl⟩
    obtain ⟨wB, hwE⟩ := hE
    subst hwE
    have k4 : wB.cell? ⟨g, off + 4, none⟩ = some (.int .i64 q4) := (BL0.out.cell (p := ⟨g, off + 4, none⟩) hgB).trans kq4
    have k5 : wB.cell? ⟨g, off + 5, none⟩ = some (.int .i64 q5) := (BL0.out.cell (p := ⟨g, off + 5, none⟩) hgB).trans kq5
    have hgB2 : g < wB.heap.size := Nat.lt_of_lt_of_le hgB BL0.out.size
    have BEL1 := Lib.hid (below_next BEL.out BL0.out)
    have hSl := SH0.out.1.1
    have HC : Hid (∀ W : World, Below wB.heap.size wB W → Calls Try.prog 23 #[.int .i64 p, .slice (some ⟨g0, 0, none⟩) n c0, .int .i64 (k : Int)] W fun e w' => e = .returned (.bool true) ∧ Below W.heap.size W w') := by
      intro W hW
      have h := c_impl_PolyConsistent p (k : Int) (some ⟨g0, 0, none⟩) c0 wB.heap.size S0 W (by rw [hSl]; exact SL0.out.below hW) hW.size (by rw [hSl]; unfold maxLen; omega) (by rw [hSl]; exact hc0)
      rw [hSl, share_cons HP.out SH0.out.1 (Nat.le_of_eq SH0.out.2.1) (by omega) hn5] at h
      exact h
    have HSL0 := Lib.hid hSl
    clear kq kq4 kq5 BX0 BL0 hSl HU3 hx1 hm3
    go_wp2_with fail
    refine (HC.out _ (Below.refl _ _)).mono ?_
    rintro e w5 ⟨rfl, hb⟩
    have BEL5 := Lib.hid (below_next BEL1.out hb)
    have k4' := (hb.cell (p := ⟨g, off + 4, none⟩) hgB2).trans k4
    have k5' := (hb.cell (p := ⟨g, off + 5, none⟩) hgB2).trans k5
    have hg5 : g < w5.heap.size := Nat.lt_of_lt_of_le hgB2 hb.size
    have HSL5 := Lib.hid ((SL0.out.below hb).more hb.size)
    clear hb k4 k5 HC
    have HN := Lib.hid (SliceI.news (xs := S0) (b := g0) (off := 0) (SliceI.alloc0 (o := .cells #[] 3) (by rw [HSL0.out]; exact HSL5.out)))
    go_wp2_with (at_builtin; refine wpList_append_own _ rfl (.tmp 58) (.tmp 59) 24 rfl w5.heap.size 3 i0 (.int .i64 0) 1 8 Try.underlying24 hi hz0 HZ.out.1 HZ.out.2 rfl (by decide) _ _ _ rfl (World.ownsRow_lit w5 #[] 0 (Nat.le_refl _) (by simp [maxLen]) rfl) ⟨g0, 0, none⟩ n _ (vals S0) rfl (by simp [vals, HSL0.out]) HN.out (by simp [vals, Value.oneCell']) (by unfold maxLen; omega) (by omega) (by simp) ?_; intro v' w6 hown6 hgrow6 _; have o6 : w6.ownsRow w5.heap.size 3 1 v' n (vals S0) := (by simpa using hown6); have B6 : Below w5.heap.size w5 w6 := ((Below.refl _ _).alloc (Nat.le_refl _) _).grown hgrow6 (by simp) (fun k hk => by cases hk; exact Nat.le_refl _); clear hown6 hgrow6; have m4 := (B6.cell (p := ⟨g, off + 4, none⟩) hg5).trans k4'; have m5 := (B6.cell (p := ⟨g, off + 5, none⟩) hg5).trans k5'; have BEL6 := Lib.hid (below_next BEL5.out B6); clear B6 k4' k5'; obtain ⟨gx, cx, rfl, hcx, hcxm, hslx⟩ := own_sliceC o6 (by omega); have hcx1 := World.ownsRow.cellAt o6 i (by omega); have hgx5 := (World.ownsRow.lt o6 gx rfl).1; have hgx6 := (World.ownsRow.lt o6 gx rfl).2; have hfx := World.ownsRow.frozenAt o6 i; have O6 := Lib.hid o6; clear o6 hslx; have hi1 := HI1.out; have hd1 := HD1.out)
    have hel := (SH0.out.1.2 i hi2).1
    have hsi0 := (el_lt hel).1
    have hsip := (el_lt hel).2
    have hv : isEl p ((S0.getD i 0 + 1 + d) % p) = true := el_mod (primes4_field HP.out) _
    have hne : (S0.getD i 0 + 1 + d) % p ≠ S0.getD i 0 := by rw [Int.add_assoc]; exact wrong_ne hel (by omega) (by omega)
    have W1 := Lib.hid (wrong_cons HP0.out SH0.out.1 (Nat.le_of_eq SH0.out.2.1) hk3 hn5 hi2 hv hne)
    have W2 := Lib.hid (wrong_all (i := i) HP.out SH0.out.1 (by omega) hn5 hv)
    have HLX : Hid ((S0.set i ((S0.getD i 0 + 1 + d) % p)).length = n) := Lib.hid (by rw [List.length_set]; exact HSL0.out)
    have hst := World.ownsRow.stored O6.out i (.int .i64 ((S0.getD i 0 + 1 + d) % p))
    rw [vals_set] at hst
    have hvi : (vals S0)[i]? = some (.int .i64 (S0.getD i 0)) := vals_get (by rw [HSL0.out]; exact hi2)
    rw [hvi] at hcx1
    generalize S0.set i ((S0.getD i 0 + 1 + d) % p) = X at hst W1 W2 HLX
    clear hv hne hvi hel
    generalize S0.getD i 0 = si at *
    have HST := Lib.hid (World.ownsRow.drew hst.1)
    have BEL7 := Lib.hid ((BEL6.out.grown hst.2 BEL6.out.size (fun k hk => by cases hk; have := BEL5.out.size; omega)).drew)
    have hw1 : IntKind.i64.wrap (si + 1) = si + 1 := IntWalk.i64_in _ (by omega)
    have hw2 : IntKind.i64.wrap (si + 1 + d) = si + 1 + d := IntWalk.i64_in _ (by omega)
    have hw3 : IntKind.i64.wrap (p - 1) = p - 1 := IntWalk.i64_in _ (by omega)
    have hr1 : (si + 1 + d).tmod p = (si + 1 + d) % p := Int.tmod_eq_emod_of_nonneg (by omega)
    have hr2 : q5.tmod (p - 1) = d := (Int.tmod_eq_emod_of_nonneg hq50).trans hd1
    have ii0 : (0 : Int) ≤ (i : Int) := by omega
    have ii1 : (i : Int) < (n : Int) := by omega
    simp only [hi1]
    clear hst hi1 SH0 SL0 ST0 HSL5 O6 HN
    go_region
    generalize (w6.setCell ⟨gx, i, none⟩ (.int .i64 ((si + 1 + d) % p))).drew = w7 at *
    obtain ⟨gx', cx', hvx, _, _, hslx⟩ := own_sliceC HST.out (by omega)
    simp only [Value.slice.injEq, Option.some.injEq, Addr.mk.injEq, and_true, true_and] at hvx
    obtain ⟨rfl, rfl⟩ := hvx
    have HSX := Lib.hid hslx
    have hcon : ∀ (kk : Int) (W : World), Below w7.heap.size w7 W → Calls Try.prog 23 #[.int .i64 p, .slice (some ⟨gx, 0, none⟩) n cx, .int .i64 kk] W fun e w' => e = .returned (.bool (polyCons p X kk)) ∧ Below W.heap.size W w' := by
      intro kk W hW
      have h := c_impl_PolyConsistent p kk (some ⟨gx, 0, none⟩) cx w7.heap.size X W (by rw [HLX.out]; exact HSX.out.below hW) hW.size (by rw [HLX.out]; unfold maxLen; omega) (by rw [HLX.out]; exact hcx)
      rw [HLX.out] at h
      exact h
    have HC1 := Lib.hid (hcon (k : Int))
    have HC2 := Lib.hid (hcon ((n : Int) - 1))
    rw [W1.out] at HC1
    rw [W2.out] at HC2
    clear hcon hslx HST
    go_wp2_with fail
    refine (HC1.out _ (Below.refl _ _)).mono ?_
    rintro e w8 ⟨rfl, hb8⟩
    go_wp2_with fail
    refine (HC2.out _ hb8).mono ?_
    rintro e w9 ⟨rfl, hb9⟩
    go_wp2_with fail
    go_ret
    exact ⟨rfl, below_next (below_next BEL7.out hb8) hb9⟩

set_option maxRecDepth 100000 in
theorem lifted (os : Os) (started : os.Started) (H : Type) (enc : TypeId × Value → H) :
    ReturnsInHanded {} Try.checked os 7 .any (Rows.fnWrongShareSpec.pre6 enc Try.prog Try.f7 Rows.fnWrongShareRow.domain false) (Rows.fnWrongShareSpec.post enc Try.prog Try.f7 false true false false) := by
  refine returnsInHanded_of_change (C := Try.checked) own started (by kernel_rfl) Try.func7
    (ChangeSpec.witness6 (enc := enc) (C := Try.checked) false ⟨#[], #[.slice none 0 0], []⟩ 8 (by kernel_rfl) (by kernel_rfl) (by kernel_rfl) (by kernel_rfl)) ?_
  intro W base args ds gs before hval0 hW hcnd _
  have hval : ∀ (j : Nat) t v, Try.f7.params[j]? = some t → args[j]? = some v → Value.okWide Try.prog W .any base t v := hval0
  have hW' := hW
  obtain ⟨p, q, hA0, hV, rfl, hfz, hnd⟩ := hW
  have hA : DataW.TrodAll enc Try.prog W 0 (fun _ => true) true Try.f7.params.toList args.toList ds p := hA0
  rw [Try.params7] at hA hval
  obtain ⟨v0, vs0, d0, ds0, p0, q0, hargs, rfl, rfl, h0, r0⟩ := trodAll_cons hA
  obtain ⟨rfl, rfl, rfl⟩ := trodAll_nil r0
  obtain rfl : args = #[v0] := by cases args; simp_all
  obtain ⟨rfl, rfl⟩ := trodVars_none hV
  obtain ⟨a0, len0, cap0, rfl⟩ := okWide_slice Try.underlying22 (hval 0 22 v0 rfl rfl)
  have k0 := h0
  have lt0 : ∀ x ∈ p0, x.block < W.heap.size := by obtain ⟨m, hm⟩ := k0; exact DataW.trod_lt m _ _ _ hm
  obtain ⟨z0, w0⟩ : ∃ zs, IsRow .u8 W a0 len0 cap0 zs := by
    obtain ⟨fuel, hf⟩ := h0
    rcases open_ints Try.underlying22 Try.underlying5 (by kernel_rfl) hf with ⟨hcs, _⟩ | ⟨x, l, c, zs, hcs, _, hl, hm, hz, _, hcell, hwz⟩
    · simp [Value.cells] at hcs
      obtain ⟨rfl, rfl, rfl⟩ := hcs
      exact ⟨[], .inl ⟨rfl, rfl, rfl, rfl⟩⟩
    · simp [Value.cells] at hcs
      obtain ⟨rfl, rfl, rfl⟩ := hcs
      exact ⟨zs, .inr ⟨_, rfl, hl, hm, by simpa using hz, hcell, hwz⟩⟩
  clear hA0 hval0
  simp only [List.append_nil] at hW'
  refine (walk (w := W) a0 len0 cap0 z0 w0).mono fun e W' ⟨he, bel⟩ => ?_
  subst he
  exact ⟨_, rfl, _, _, _, [], _, [], hW', trodAll_mk1 (shut_bool Try.underlying4 _), (trodAll_cons_mk (Below.trod laidOut (by kernel_rfl) (of_decide_eq_true (by kernel_rfl)) k0 bel lt0) trodAll_mk0), rfl, bel.frame _, fun h => by cases h⟩

theorem over : Rows.fnWrongShareRow.holds Try.pinned (OpenSpec.ofChange Rows.fnWrongShareSpec) :=
  OpenClaim.holds_of_wide 7 Try.f7 rfl rfl rfl rfl rfl rfl rfl ⟨rfl, rfl, rfl, rfl, rfl⟩ rfl rfl rfl rfl rfl (by kernel_rfl) Try.func7 (by kernel_rfl)
    (of_decide_eq_true (by kernel_rfl)) (by unfold Func.isWrapper; first | (rw [if_pos (by decide +kernel)]; kernel_rfl) | (rw [if_neg (by decide +kernel)]; exact ⟨rfl, rfl⟩))
    (fun os started H enc _ => lifted os started H enc)

/-- The statement. -/
theorem proved : Rows.FnWrongShareSaid := over
end Go.Proofs.Ytknepofclgjmiaa.lawFnWrongShare
