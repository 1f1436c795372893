/- The statement FnTossed: a coin depends on all values, and every wrong opening is attributed to its party. It has no conditions. -/
import Derived.Test.YtknepofclgjmiaaRows
import Derived.WalkKit
import Derived.ProofKit
import Derived.OpenShut
import Derived.ChangeOld
import Derived.Below
import Derived.Lib.SmallJoins
import Derived.RegionTactic
import Derived.Handy
import Derived.Test.YtknepofclgjmiaaDrawCode
import Derived.Test.YtknepofclgjmiaaWords
import Derived.Test.YtknepofclgjmiaaField
import Derived.Test.YtknepofclgjmiaaAlg
import Derived.Test.YtknepofclgjmiaaDrawMore
import Derived.Test.YtknepofclgjmiaaCommit
import Derived.Test.YtknepofclgjmiaaToss
import Derived.Test.YtknepofclgjmiaaTossCheat
import Derived.Test.YtknepofclgjmiaaTossCoin
import Derived.Test.YtknepofclgjmiaaTossNew
namespace Go.Proofs.Ytknepofclgjmiaa.lawFnTossed
open Go.ChangeShapes Go.WideShapes Go.ChangeAt Go.RowKit Go.Joins
set_option linter.unusedVariables false

theorem own : ownKnob Try.prog.godebug = none := by kernel_rfl
theorem laidOut : laidOutB Try.prog = true := by kernel_rfl

theorem SliceI.cell_at {w : World} {B n b off : Nat} {xs : List Int} (h : SliceI w B (some ⟨b, off, none⟩) n xs) (k : Nat) (hk : k < n) : w.cell? ⟨b, off + k, none⟩ = some (.int .i64 (xs.getD k 0)) := by
  obtain ⟨b', off', e, _, hc⟩ := h.at_ hk
  cases e
  exact hc
theorem getD_mem {xs : List Int} {k : Nat} (h : k < xs.length) : xs.getD k 0 ∈ xs := by
  rw [List.getD_eq_getElem?_getD, List.getElem?_eq_getElem h]; exact List.getElem_mem _

theorem own_sliceC {w : World} {lo n : Nat} {v : Value} {xs : List Int} (h : w.ownsRow lo 3 1 v n (vals xs)) (hn : 0 < n) : ∃ g c, v = .slice (some ⟨g, 0, none⟩) n c ∧ n ≤ c ∧ c ≤ maxLen ∧ SliceI w w.heap.size (some ⟨g, 0, none⟩) n xs := by
  rcases h.2 with ⟨_, h0⟩ | ⟨g, c, _, rfl, _, _, h1, h2, _⟩
  · omega
  · exact ⟨g, c, rfl, h1, h2, OwnI.slice (lo := lo) (c := c) h⟩
theorem SliceI.drop1 {w : World} {B n b off : Nat} {xs : List Int} (h : SliceI w B (some ⟨b, off, none⟩) (n + 1) xs) : SliceI w B (some ⟨b, off + 1, none⟩) n (xs.drop 1) := by
  refine ⟨by rw [List.length_drop, h.len]; omega, fun hn => ?_⟩
  obtain ⟨b', off', e, hb, hc⟩ := h.2 (by omega)
  simp only [Option.some.injEq, Addr.mk.injEq, and_true] at e
  obtain ⟨rfl, rfl⟩ := e
  refine ⟨b, off + 1, rfl, hb, fun k hk => ?_⟩
  have := hc (k + 1) (by omega)
  rw [show off + (k + 1) = off + 1 + k by omega] at this
  rw [this]
  congr 2
  simp [List.getD_eq_getElem?_getD]
theorem SliceI.mid {w : World} {B n b : Nat} {xs : List Int} (h : SliceI w B (some ⟨b, 0, none⟩) n xs) {f m : Nat} (hf : f + m ≤ n) : SliceI w B (some ⟨b, f, none⟩) m ((xs.drop f).take m) := by
  refine ⟨by rw [List.length_take, List.length_drop, h.len]; omega, fun hn => ?_⟩
  obtain ⟨b', off', e, hb, hc⟩ := h.2 (by omega)
  simp only [Option.some.injEq, Addr.mk.injEq, and_true] at e
  obtain ⟨rfl, rfl⟩ := e
  refine ⟨b, f, rfl, hb, fun k hk => ?_⟩
  have e : ((xs.drop f).take m).getD k 0 = xs.getD (f + k) 0 := by simp [List.getD_eq_getElem?_getD, hk]
  rw [e]
  have := hc (f + k) (by omega)
  rw [Nat.zero_add] at this
  exact this
theorem mid_mem {xs : List Int} {f m : Nat} {a : Int} (h : a ∈ (xs.drop f).take m) : a ∈ xs := List.mem_of_mem_drop (List.mem_of_mem_take h)
theorem tossIn_at {vs ns : List Int} {n k : Nat} (h : tossIn vs ns n = true) (hk : k < n) : pairOk (vs.getD k 0) (ns.getD k 0) = true := List.all_eq_true.1 h k (List.mem_range.2 hk)
theorem tossCs_get {vs ns : List Int} {n k : Nat} (hk : k < n) : (tossCs vs ns n).getD k 0 = commitF (vs.getD k 0) (ns.getD k 0) := by simp [tossCs, hk]
theorem small_in {vs ns : List Int} {n : Nat} (hv : vs.length = n) (hn : ns.length = n) (h1 : ∀ a ∈ vs, 0 ≤ a ∧ a < 10000) (h2 : ∀ a ∈ ns, 0 ≤ a ∧ a < 10000) : tossIn vs ns n = true := by
  refine List.all_eq_true.2 fun i hi => ?_
  rw [List.mem_range] at hi
  have a := h1 _ (getD_mem (by omega : i < vs.length))
  have b := h2 _ (getD_mem (by omega : i < ns.length))
  simp only [pairOk, Bool.and_eq_true, isWord_iff, inB_iff]
  omega
theorem cheat_none {vs ns : List Int} {n : Nat} (hv : vs.length = n) (hn : ns.length = n) (hin : tossIn vs ns n = true) : cheatF vs ns (tossCs vs ns n) = -1 := by
  rw [cheat_yes (by simp [sameT, hv, hn, tossCs_len])]
  have : ∀ k, k ≤ n → CheatRel vs ns (tossCs vs ns n) n k := by
    intro k
    induction k with
    | zero => intro _; exact CheatRel.zero _ _ _ _
    | succ k ih => exact fun hk => (ih (by omega)).step (by omega) (by rw [tossCs_get (by omega)]; unfold openF; rw [tossIn_at hin (by omega : k < n)]; simp only [Bool.true_and, beq_self_eq_true])
  rw [hv]
  exact (this n (Nat.le_refl _)).done
theorem getD_set' {xs : List Int} {i j : Nat} {v : Int} : (xs.set i v).getD j 0 = if i = j ∧ j < xs.length then v else xs.getD j 0 := by
  rw [List.getD_eq_getElem?_getD, List.getElem?_set, List.getD_eq_getElem?_getD]
  by_cases h : i = j
  · subst h
    by_cases h2 : i < xs.length <;> simp [h2]
  · simp [h]
theorem cheat_at {vs ns : List Int} {n k : Nat} (hv : vs.length = n) (hn : ns.length = n) (hin : tossIn vs ns n = true) (hk : k < n) (h0 : 0 ≤ vs.getD k 0) (h1 : vs.getD k 0 < 10000) : cheatF (vs.set k (vs.getD k 0 + 1)) ns (tossCs vs ns n) = (k : Int) := by
  rw [cheat_yes (by simp [sameT, hv, hn, tossCs_len]), List.length_set, hv]
  have hrel : ∀ j, j ≤ k → CheatRel (vs.set k (vs.getD k 0 + 1)) ns (tossCs vs ns n) n j := by
    intro j
    induction j with
    | zero => intro _; exact CheatRel.zero _ _ _ _
    | succ j ih => exact fun hj => (ih (by omega)).step (by omega) (by rw [tossCs_get (by omega), getD_set', if_neg (by omega)]; unfold openF; rw [tossIn_at hin (by omega : j < n)]; simp only [Bool.true_and, beq_self_eq_true])
  refine (hrel k (Nat.le_refl _)).found hk ?_
  have hp := tossIn_at hin hk
  have hp2 := hp
  simp only [pairOk, Bool.and_eq_true, isWord_iff, inB_iff] at hp2
  have hq : pairOk (vs.getD k 0 + 1) (ns.getD k 0) = true := by simp only [pairOk, Bool.and_eq_true, isWord_iff, inB_iff]; omega
  rw [tossCs_get hk, getD_set', if_pos ⟨rfl, by omega⟩]
  have e1 : commitF (vs.getD k 0) (ns.getD k 0) = keyed (ns.getD k 0) 21 (vs.getD k 0) := by unfold commitF; rw [if_pos hp]
  have e2 : commitF (vs.getD k 0 + 1) (ns.getD k 0) = keyed (ns.getD k 0) 21 (vs.getD k 0 + 1) := by unfold commitF; rw [if_pos hq]
  have : (commitF (vs.getD k 0 + 1) (ns.getD k 0) == commitF (vs.getD k 0) (ns.getD k 0)) = false := by
    rw [beq_eq_false_iff_ne, e1, e2]
    intro he
    have := keyed_inj (isWord_iff.2 (by omega)) (by decide) (isWord_iff.2 (by omega)) (isWord_iff.2 (by omega)) he
    omega
  unfold openF
  rw [hq, this]
  rfl
theorem toss_ok {vs ns : List Int} {n : Nat} (hv : vs.length = n) (hn : ns.length = n) (h1 : 1 ≤ n) (h5 : n ≤ 5) (hin : tossIn vs ns n = true) : tossNewOk vs ns = true := by
  unfold tossNewOk
  rw [hv, hn, hin, inB_iff.2 ⟨by omega, by omega⟩]
  simp
theorem GivesTN.ok {w w' : World} {vs ns : List Int} {e : Ending} {n : Nat} (h : GivesTN w vs ns e w') (hok : tossNewOk vs ns = true) (hv : vs.length = n) (hn : ns.length = n) : ∃ A0 c0 A1 c1 A2 c2, e = .returned (.tuple #[.agg #[.slice A0 n c0, .slice A1 n c1, .slice A2 n c2], .bool true]) ∧ OwnI w' w.heap.size A0 n c0 vs ∧ OwnI w' w.heap.size A1 n c1 ns ∧ OwnI w' w.heap.size A2 n c2 (tossCs vs ns n) ∧ Below w.heap.size w w' := by
  obtain ⟨A0, c0, A1, c1, A2, c2, he, o0, o1, o2, _, _, _, hb⟩ := h
  have e0 : tossV vs ns = vs := by simp [tossV, hok]
  have e1 : tossN vs ns = ns := by simp [tossN, hok]
  have e2 : tossC vs ns = tossCs vs ns n := by simp [tossC, hok, hv]
  rw [e0, hv] at o0
  rw [e1, hn] at o1
  rw [e2, tossCs_len] at o2
  rw [e0, e1, e2, hv, hn, tossCs_len, hok] at he
  exact ⟨A0, c0, A1, c1, A2, c2, he, o0, o1, o2, hb⟩
theorem coin_at {W : World} {B n c0 c1 c2 : Nat} {A0 A1 A2 : Option Addr} {xs ns cs : List Int} (hx : SliceI W B A0 n xs) (hy : SliceI W B A1 n ns) (hz : SliceI W B A2 n cs) (hB : B ≤ W.heap.size) (hn : n ≤ 5) :
    Calls Try.prog 20 #[.agg #[.slice A0 n c0, .slice A1 n c1, .slice A2 n c2]] W fun e w' => e = .returned (.tuple #[.int .i64 (coinF xs ns cs), .bool (coinOk xs ns cs)]) ∧ Below W.heap.size W w' := by
  have l0 := hx.len
  have l1 := hy.len
  have l2 := hz.len
  have h := c_impl_TossCoin A0 A1 A2 c0 c1 c2 B xs ns cs W (by rw [l0]; exact hx) (by rw [l1]; exact hy) (by rw [l2]; exact hz) hB (by omega) (by omega) (by omega)
  rw [l0, l1, l2] at h
  exact h
theorem cheatc_at {W : World} {B n c0 c1 c2 : Nat} {A0 A1 A2 : Option Addr} {xs ns cs : List Int} {r : Int} (hr : cheatF xs ns cs = r) (hx : SliceI W B A0 n xs) (hy : SliceI W B A1 n ns) (hz : SliceI W B A2 n cs) (hB : B ≤ W.heap.size) (hn : n ≤ 5) :
    Calls Try.prog 21 #[.agg #[.slice A0 n c0, .slice A1 n c1, .slice A2 n c2]] W fun e w' => e = .returned (.int .i64 r) ∧ Below W.heap.size W w' := by
  subst hr
  have l0 := hx.len
  have l1 := hy.len
  have l2 := hz.len
  have h := c_impl_TossCheat A0 A1 A2 c0 c1 c2 B xs ns cs W (by rw [l0]; exact hx) (by rw [l1]; exact hy) (by rw [l2]; exact hz) hB (by omega) (by omega) (by omega)
  rw [l0, l1, l2] at h
  exact h
theorem coin_good {vs ns : List Int} {n : Nat} (hv : vs.length = n) (hn : ns.length = n) (h1 : 1 ≤ n) (h5 : n ≤ 5) (hin : tossIn vs ns n = true) : coinOk vs ns (tossCs vs ns n) = true ∧ coinF vs ns (tossCs vs ns n) = coinTo vs n := by
  have h : coinOk vs ns (tossCs vs ns n) = true := by
    unfold coinOk
    rw [cheat_none hv hn hin, hv, hn, tossCs_len, inB_iff.2 ⟨by omega, by omega⟩]
    simp [sameT]
  exact ⟨h, by rw [coin_yes h, hv]⟩
theorem coin_bad {xs ns cs : List Int} {k : Nat} (h : cheatF xs ns cs = (k : Int)) : coinOk xs ns cs = false := by
  unfold coinOk
  rw [h]
  have : (((k : Int)) == -1) = false := by rw [beq_eq_false_iff_ne]; omega
  rw [this, Bool.and_false]
theorem own_at {w : World} {lo n c : Nat} {A : Option Addr} {xs : List Int} (h : OwnI w lo A n c xs) (hn : 0 < n) : ∃ g, A = some ⟨g, 0, none⟩ ∧ g < w.heap.size ∧ lo ≤ g := by
  obtain ⟨g, c', hv, _, _, _⟩ := own_sliceC h hn
  simp only [Value.slice.injEq] at hv
  obtain ⟨rfl, _, _⟩ := hv
  exact ⟨g, rfl, OwnI.lt h _ rfl, OwnI.ge h _ rfl⟩
theorem vals_set' {xs : List Int} {i : Nat} {a : Int} : (vals xs).set i (.int .i64 a) = vals (xs.set i a) := by simp [vals, List.map_set]
theorem ownFar {w : World} {lo g i n : Nat} {v u : Value} {xs : List Value} (h : w.ownsRow lo 3 1 v n xs) (hg : g < lo) : (w.setCell ⟨g, i, none⟩ u).ownsRow lo 3 1 v n xs :=
  World.ownsRow.kept (row := some g) h ⟨rfl, rfl, rfl, by simp, fun k _ hk => Below.heap_setCell w ⟨g, i, none⟩ u k fun e => hk (by rw [e])⟩ (.inr fun e => by have := (h.lt g e).1; omega)
set_option maxHeartbeats 8000000 in
theorem walk (w : World) (A : Option Addr) (len cap : Nat) (z : List Int) (h : IsRow .u8 w A len cap z) : Calls Try.prog 6 #[.slice A len cap] w fun e w' => e = .returned (.bool true) ∧ Below w.heap.size w w' := by
  obtain ⟨hU, hA⟩ := h.code
  clear h
  by_cases hbig : 1048576 < (len : Int)
  · go_enter Try.func6, Try.ntmps6
    go_wp2_with (go_at_call 11; (with_reducible refine (c_laws_big _ _ _ _).mono ?_); rintro e w' ⟨rfl, rfl⟩)
    go_ret
    exact ⟨rfl, Below.refl _ _⟩
  have hm : len ≤ 1048576 := by omega
  have bel : Below w.heap.size w w := Below.refl _ _
  have HA := Lib.hid hA
  have HU := Lib.hid hU
  clear hA hU
  have hq0 : w.heap.size ≤ w.heap.size := Nat.le_refl _
  go_enter Try.func6, Try.ntmps6
  go_wp2_with (go_at_call 11; (with_reducible refine (c_laws_big _ _ _ _).mono ?_); rintro e w' ⟨rfl, rfl⟩)
  obtain ⟨i0, hi, hz0, hz1, hz2⟩ := info_parts int_info
  have HZ := Lib.hid (And.intro hz1 hz2)
  clear hz1 hz2
  refine (c_spec_DrawPlaces _ _ _ _ _ HU.out (by omega) (by omega)).mono ?_
  rintro e w2 ⟨ps, ⟨hpl, hpr⟩, A_p, c_p, rfl, own, hb⟩
  have hq2 := hb.size
  replace bel := below_next bel hb
  clear HU HA hb
  have hlp : 11 < ps.length := by omega
  have HPR := Lib.hid hpr
  obtain ⟨g, c_p', hv, hcl, hcm, hsl⟩ := own_sliceC own (by omega)
  simp only [Value.slice.injEq] at hv
  obtain ⟨rfl, _, rfl⟩ := hv
  have hgb := OwnI.lt own _ rfl
  have off : Nat := 0
  obtain ⟨q0, hcell0, hq00, hq01⟩ : ∃ q : Int, w2.cell? ⟨g, 0, none⟩ = some (.int .i64 q) ∧ 0 ≤ q ∧ q < 10000 := ⟨_, SliceI.cell_at hsl 0 (by omega), HPR.out _ (getD_mem (by omega))⟩
  obtain ⟨q11, hcell11, hq110, hq111⟩ : ∃ q : Int, w2.cell? ⟨g, 11, none⟩ = some (.int .i64 q) ∧ 0 ≤ q ∧ q < 10000 := ⟨_, by have := SliceI.cell_at hsl 11 (by omega); simpa using this, HPR.out _ (getD_mem (by omega))⟩
  obtain ⟨n, hn1, hn2, hn5⟩ : ∃ n : Nat, 1 + q0 % 5 = (n : Int) ∧ 1 ≤ n ∧ n ≤ 5 := ⟨(1 + q0 % 5).toNat, by omega, by omega, by omega⟩
  have HV := Lib.hid (SliceI.mid hsl (f := 1) (m := n) (by omega))
  have HN := Lib.hid (SliceI.mid hsl (f := 6) (m := n) (by omega))
  have HVL := HV.out.len
  have HNL := HN.out.len
  have HVM : Hid (∀ a ∈ (ps.drop 1).take n, 0 ≤ a ∧ a < 10000) := Lib.hid fun a ha => HPR.out a (mid_mem ha)
  have HNM : Hid (∀ a ∈ (ps.drop 6).take n, 0 ≤ a ∧ a < 10000) := Lib.hid fun a ha => HPR.out a (mid_mem ha)
  generalize (ps.drop 1).take n = vs at HV HVL HVM
  generalize (ps.drop 6).take n = ns at HN HNL HNM
  have HIN := Lib.hid (small_in HVL HNL HVM.out HNM.out)
  have HOK := Lib.hid (toss_ok HVL HNL hn2 hn5 HIN.out)
  have HVE := Lib.hid HVL
  have HNE := Lib.hid HNL
  have l0 : 0 < ps.length := by omega
  have hcp : 11 < c_p := by omega
  clear own hsl HPR hpr hpl HVL HNL
  generalize ps.length = mm at *
  have i0' : (0 : Int) < (mm : Int) := by omega
  have i11 : (11 : Int) < (mm : Int) := by omega
  unfold maxLen at hcm
  have hd10 : decide (1048576 < (len : Int)) = false := by rw [decide_eq_false_iff_not]; omega
  have j1 : (1 : Int) + (n : Int) ≤ (c_p : Int) := by omega
  have j6 : (6 : Int) + (n : Int) ≤ (c_p : Int) := by omega
  have HTN : Hid (∀ W : World, Below w2.heap.size w2 W → ∀ c c' : Nat, Calls Try.prog 19 #[.slice (some ⟨g, 1, none⟩) n c, .slice (some ⟨g, 6, none⟩) n c'] W fun e w' => ∃ A0 c0 A1 c1 A2 c2, e = .returned (.tuple #[.agg #[.slice A0 n c0, .slice A1 n c1, .slice A2 n c2], .bool true]) ∧ OwnI w' W.heap.size A0 n c0 vs ∧ OwnI w' W.heap.size A1 n c1 ns ∧ OwnI w' W.heap.size A2 n c2 (tossCs vs ns n) ∧ Below W.heap.size W w') := by
    intro W hW c c'
    have h := c_impl_TossNew (some ⟨g, 1, none⟩) (some ⟨g, 6, none⟩) c c' w2.heap.size vs ns W (by rw [HVE.out]; exact HV.out.below hW) (by rw [HNE.out]; exact HN.out.below hW) hW.size (by rw [HVE.out]; omega) (by rw [HNE.out]; omega)
    rw [HVE.out, HNE.out] at h
    exact h.mono fun _ _ hg => GivesTN.ok hg HOK.out HVE.out HNE.out
  clear HOK
  go_wp2_with fail
  have e1n : 1 + n - 1 = n := by omega
  have e6n : 6 + n - 6 = n := by omega
  simp only [e1n, e6n]
  refine (HTN.out _ (Below.refl _ _) _ _).mono ?_
  rintro e w3 ⟨A0, c0, A1, c1, A2, c2, rfl, o0, o1, o2, hb⟩
  obtain ⟨ga, rfl, hga, hga2⟩ := own_at o0 (by omega)
  have BEL := Lib.hid (below_next bel hb)
  have hz3 := hb.size
  have HV3 := Lib.hid (HV.out.below hb)
  have hcell11b := (hb.cell (p := ⟨g, 11, none⟩) hgb).trans hcell11
  have hgb3 : g < w3.heap.size := by omega
  have S0 := Lib.hid o0.slice
  have S1 := Lib.hid o1.slice
  have S2 := Lib.hid o2.slice
  have HGOOD := Lib.hid (coin_good HVE.out HNE.out hn2 hn5 HIN.out)
  have HNONE := Lib.hid (cheat_none HVE.out HNE.out HIN.out)
  clear o0 o1 o2 hb HTN hcell0 hcell11 HV HN hn1 bel e6n
  go_wp2_with fail
  refine (coin_at (SliceI.alloc0 S0.out) (SliceI.alloc0 S1.out) (SliceI.alloc0 S2.out) (by simp) hn5).mono ?_
  rw [HGOOD.out.1, HGOOD.out.2]
  rintro e w4 ⟨rfl, hb⟩
  obtain ⟨bel4, x4⟩ := start1 hb
  have BEL4 := Lib.hid (below_next BEL.out bel4)
  have T0 := Lib.hid (S0.out.below_le bel4 (Nat.le_refl _))
  have T1 := Lib.hid (S1.out.below_le bel4 (Nat.le_refl _))
  have T2 := Lib.hid (S2.out.below_le bel4 (Nat.le_refl _))
  have HV4 := Lib.hid (HV3.out.below_le bel4 hz3)
  have hcell11c := (bel4.cell (p := ⟨g, 11, none⟩) hgb3).trans hcell11b
  have hz4 := bel4.size
  have c4 := x4.cell
  have f4 := x4.free
  have z4 := x4.lt
  clear hb S0 S1 S2 bel4 HV3 hcell11b HGOOD BEL
  go_wp2_with fail
  refine (cheatc_at HNONE.out T0.out T1.out T2.out hz4 hn5).mono ?_
  rintro e w5 ⟨rfl, hb⟩
  have x5 := x4.below hb
  have BEL5 := Lib.hid (below_next BEL4.out hb)
  have U0 := Lib.hid (T0.out.below_le hb hz4)
  have U1 := Lib.hid (T1.out.below_le hb hz4)
  have U2 := Lib.hid (T2.out.below_le hb hz4)
  have HV5 := Lib.hid (HV4.out.below_le hb (by omega))
  have hcell11d := (hb.cell (p := ⟨g, 11, none⟩) (show g < w4.heap.size by omega)).trans hcell11c
  have hz5 := hb.size
  clear hb T0 T1 T2 HV4 hcell11c HNONE c4 f4 z4 x4 BEL4
  have c5 := x5.cell
  have f5 := x5.free
  have z5 := x5.lt
  have hmod : 0 ≤ q11 % (n : Int) ∧ q11 % (n : Int) < (n : Int) := ⟨Int.emod_nonneg _ (by omega), Int.emod_lt_of_pos _ (by omega)⟩
  obtain ⟨k, hk1, hk2⟩ : ∃ k : Nat, q11 % (n : Int) = (k : Int) ∧ k < n := ⟨(q11 % (n : Int)).toNat, by omega, by omega⟩
  have HK1 := Lib.hid hk1
  clear hmod hk1
  have hnn0 : ((n : Int) == 0) = false := by rw [beq_eq_false_iff_ne]; omega
  have hnn1 : ¬ (n : Int) = 0 := by omega
  have X5 := Lib.hid x5
  have hcx : ∀ (o : Obj) (i : Nat), (w5.alloc o).cell? ⟨w3.heap.size, i, none⟩ = #[.slice (some ⟨ga, 0, none⟩) n c0, .slice A1 n c1, .slice A2 n c2][i]? := fun o i => (X5.out.alloc o).cell i
  have hcx0 : ∀ (o : Obj), (w5.alloc o).cell? ⟨w3.heap.size, 0, none⟩ = some (.slice (some ⟨ga, 0, none⟩) n c0) := fun o => hcx o 0
  have HNW := Lib.hid (SliceI.news (xs := vs) (b := ga) (off := 0) (SliceI.alloc0 (o := .cells #[] 3) (by rw [HVE.out]; exact U0.out)))
  clear x5 hcx
  go_wp2_with (at_builtin; go_loud (refine wpList_append_own _ rfl (.tmp 67) (.tmp 69) 24 rfl w5.heap.size 3 i0 (.int .i64 0) 1 8 Try.underlying24 hi hz0 HZ.out.1 HZ.out.2 rfl (by decide) _ _ _ rfl (World.ownsRow_lit w5 #[] 0 (Nat.le_refl _) (by simp [maxLen]) rfl) ⟨ga, 0, none⟩ n _ (vals vs) rfl (by simp [vals, HVE.out]) HNW.out (by simp [vals, Value.oneCell']) (by unfold maxLen; omega) (by omega) (by simp) ?_; intro v' w6 hown6 hgrow6 _; have o6 : w6.ownsRow w5.heap.size 3 1 v' n (vals vs) := (by simpa using hown6); have B6 : Below w5.heap.size w5 w6 := ((Below.refl _ _).alloc (Nat.le_refl _) _).grown hgrow6 (by simp) (fun k hk => by cases hk; exact Nat.le_refl _); clear hown6 hgrow6; have x6 := X5.out.below B6; have c6 := x6.cell; have f6 := x6.free; have z6 := x6.lt; clear c5 f5 z5; obtain ⟨gx, cx, rfl, hcx, hcxm, hslx⟩ := own_sliceC o6 (by omega)))
  have hgx5 := (World.ownsRow.lt o6 gx rfl).1
  have hgx6 := (World.ownsRow.lt o6 gx rfl).2
  have hz35 : w3.heap.size < w5.heap.size := X5.out.lt
  have x7 := x6.set 0 (.slice (some ⟨gx, 0, none⟩) n cx)
  have o7 := ownFar (i := 0) (u := .slice (some ⟨gx, 0, none⟩) n cx) o6 hz35
  have h35 : w3.heap.size ≤ w5.heap.size := by omega
  have h25 : w2.heap.size ≤ w3.heap.size := hz3
  have V1 := Lib.hid (SliceI.set (p := ⟨w3.heap.size, 0, none⟩) (u := .slice (some ⟨gx, 0, none⟩) n cx) (U1.out.below_le B6 h35) (Nat.le_refl _))
  have V2 := Lib.hid (SliceI.set (p := ⟨w3.heap.size, 0, none⟩) (u := .slice (some ⟨gx, 0, none⟩) n cx) (U2.out.below_le B6 h35) (Nat.le_refl _))
  have HV7 := Lib.hid (SliceI.set (p := ⟨w3.heap.size, 0, none⟩) (u := .slice (some ⟨gx, 0, none⟩) n cx) (HV5.out.below_le B6 (by omega)) h25)
  have BEL7 := Lib.hid ((below_next BEL5.out B6).setCell (p := ⟨w3.heap.size, 0, none⟩) (show w.heap.size ≤ w3.heap.size by omega) (.slice (some ⟨gx, 0, none⟩) n cx))
  have hw67 : w6.heap.size ≤ (w6.setCell ⟨w3.heap.size, 0, none⟩ (.slice (some ⟨gx, 0, none⟩) n cx)).heap.size := by simp
  simp only [HK1.out]
  generalize (w6.setCell ⟨w3.heap.size, 0, none⟩ (.slice (some ⟨gx, 0, none⟩) n cx)) = w7 at *
  have hw56 := B6.size
  have c70 : w7.cell? ⟨w3.heap.size, 0, none⟩ = some (.slice (some ⟨gx, 0, none⟩) n cx) := by have := x7.cell 0; simpa using this
  have hvi : (vals vs)[k]? = some (.int .i64 (vs.getD k 0)) := vals_get (by rw [HVE.out]; exact hk2)
  have hx1 : w7.cell? ⟨gx, k, none⟩ = some (.int .i64 (vs.getD k 0)) := (World.ownsRow.cellAt o7 k (by omega)).trans hvi
  have hf1 : w7.frozen? ⟨gx, k, none⟩ = false := World.ownsRow.frozenAt o7 k
  have hst := World.ownsRow.stored o7 k (.int .i64 (vs.getD k 0 + 1))
  rw [vals_set'] at hst
  obtain ⟨hv0, hv1⟩ := HVM.out _ (getD_mem (show k < vs.length by rw [HVE.out]; exact hk2))
  have HCA := Lib.hid (cheat_at HVE.out HNE.out HIN.out hk2 hv0 hv1)
  have HBAD := Lib.hid (coin_bad HCA.out)
  have HBF := Lib.hid (coin_no HBAD.out)
  generalize vs.set k (vs.getD k 0 + 1) = X at hst HCA HBAD HBF
  clear hvi
  generalize vs.getD k 0 = vk at *
  have hw1 : IntKind.i64.wrap (vk + 1) = vk + 1 := IntWalk.i64_in _ (by omega)
  have ii0 : (0 : Int) ≤ (k : Int) := by omega
  have ii1 : (k : Int) < (n : Int) := by omega
  have OX := Lib.hid (World.ownsRow.drew hst.1)
  have x8 := Lib.hid (Box.drew (x7.far (p := ⟨gx, k, none⟩) (show w3.heap.size ≠ gx by omega) (.int .i64 (vk + 1))))
  have Y1 := Lib.hid (SliceI.keep (w' := (w7.setCell ⟨gx, k, none⟩ (.int .i64 (vk + 1))).drew) (SliceI.set (p := ⟨gx, k, none⟩) (u := .int .i64 (vk + 1)) V1.out (show w3.heap.size ≤ gx by omega)) (fun _ _ _ => rfl))
  have Y2 := Lib.hid (SliceI.keep (w' := (w7.setCell ⟨gx, k, none⟩ (.int .i64 (vk + 1))).drew) (SliceI.set (p := ⟨gx, k, none⟩) (u := .int .i64 (vk + 1)) V2.out (show w3.heap.size ≤ gx by omega)) (fun _ _ _ => rfl))
  have HV8 := Lib.hid (SliceI.keep (w' := (w7.setCell ⟨gx, k, none⟩ (.int .i64 (vk + 1))).drew) (SliceI.set (p := ⟨gx, k, none⟩) (u := .int .i64 (vk + 1)) HV7.out (show w2.heap.size ≤ gx by omega)) (fun _ _ _ => rfl))
  have BEL8 := Lib.hid ((BEL7.out.setCell (p := ⟨gx, k, none⟩) (show w.heap.size ≤ gx by omega) (.int .i64 (vk + 1))).drew)
  have hz8 : w6.heap.size ≤ (w7.setCell ⟨gx, k, none⟩ (.int .i64 (vk + 1))).drew.heap.size := by have := hst.2.size; have h6 : w6.heap.size ≤ w7.heap.size := hw67; exact Nat.le_trans h6 this
  clear hst x6 c6 f6 z6 x7 o6 o7 U0 U1 U2 V1 V2 HV5 HV7 BEL5 BEL7 B6 hslx hcell11d HNW hcx0
  go_region
  generalize (w7.setCell ⟨gx, k, none⟩ (.int .i64 (vk + 1))).drew = w8 at *
  obtain ⟨gx', cx', hvx, _, _, hslx⟩ := own_sliceC OX.out (by omega)
  simp only [Value.slice.injEq, Option.some.injEq, Addr.mk.injEq, and_true, true_and] at hvx
  obtain ⟨rfl, rfl⟩ := hvx
  have h38 : w3.heap.size ≤ w8.heap.size := by omega
  have Z0 := Lib.hid hslx
  have Z1 := Lib.hid (Y1.out.more h38)
  have Z2 := Lib.hid (Y2.out.more h38)
  have c8 := x8.out.cell
  have f8 := x8.out.free
  have z8 := x8.out.lt
  clear hslx Y1 Y2 OX
  go_wp2_with fail
  refine (coin_at Z0.out Z1.out Z2.out (Nat.le_refl _) hn5).mono ?_
  rw [HBAD.out, HBF.out]
  rintro e w9 ⟨rfl, hb⟩
  have x9 := x8.out.below hb
  have Z0' := Lib.hid (Z0.out.below hb)
  have Z1' := Lib.hid (Z1.out.below hb)
  have Z2' := Lib.hid (Z2.out.below hb)
  have HV9 := Lib.hid (HV8.out.below_le hb (by omega))
  have BEL9 := Lib.hid (below_next BEL8.out hb)
  have hz9 := hb.size
  have hwd : ∀ j, j < n → 0 ≤ vs.getD j 0 ∧ vs.getD j 0 ≤ 4294967295 := fun j hj => by
    have := HVM.out _ (getD_mem (show j < vs.length by rw [HVE.out]; exact hj))
    omega
  have HWD := Lib.hid hwd
  have HBD := Lib.hid (coinTo_bounds hwd)
  clear hb c8 f8 z8 x8 Z0 Z1 Z2 HV8 BEL8 hwd HBAD HBF
  have c9 := x9.cell
  have f9 := x9.free
  have z9 := x9.lt
  go_wp2_with fail
  go_loop [14, 15] (fun s i => ∃ j : Nat, j ≤ n ∧ i = .int .i64 j ∧ s = .int .i64 (coinTo vs j)) (fun _ i => n - (intOf i).toNat)
  case atStart => exact ⟨0, by omega, rfl, rfl⟩
  case round =>
    obtain ⟨j, hj, rfl, rfl⟩ := hrel
    obtain ⟨s0, s1⟩ := HBD.out j hj
    by_cases hlt : j < n
    · obtain ⟨b, o, hbe, _, hcj⟩ := HV9.out.at_ hlt
      simp only [Option.some.injEq, Addr.mk.injEq, and_true] at hbe
      obtain ⟨rfl, rfl⟩ := hbe
      obtain ⟨v0, v1⟩ := HWD.out j hlt
      have hst := Lib.hid (show coinTo vs (j + 1) = xorN (coinTo vs j) (vs.getD j 0) from rfl)
      generalize coinTo vs j = ss at s0 s1 hst
      generalize vs.getD j 0 = vj at hcj v0 v1 hst
      have hx1 := bits_xor s0 s1 v0 v1
      have hlt' : (j : Int) < (n : Int) := by omega
      go_wp2_with fail
      go_round
      case rel => exact ⟨j + 1, by omega, by go_num, by rw [hst.out]⟩
      case measure => simp [intOf]; omega
    · obtain rfl : j = n := by omega
      generalize coinTo vs j = ss at s0 s1
      have hlt' : ¬ (j : Int) < (j : Int) := by omega
      go_wp2_with (go_at_call 21; (with_reducible refine (cheatc_at HCA.out Z0'.out Z1'.out Z2'.out hz9 hn5).mono ?_); rintro e w10 ⟨rfl, hb⟩; have bel10 := below_next BEL9.out hb)
      go_ret
      exact ⟨rfl, bel10⟩

set_option maxRecDepth 100000 in
theorem lifted (os : Os) (started : os.Started) (H : Type) (enc : TypeId × Value → H) :
    ReturnsInHanded {} Try.checked os 6 .any (Rows.fnTossedSpec.pre6 enc Try.prog Try.f6 Rows.fnTossedRow.domain false) (Rows.fnTossedSpec.post enc Try.prog Try.f6 false true false false) := by
  refine returnsInHanded_of_change (C := Try.checked) own started (by kernel_rfl) Try.func6
    (ChangeSpec.witness6 (enc := enc) (C := Try.checked) false ⟨#[], #[.slice none 0 0], []⟩ 8 (by kernel_rfl) (by kernel_rfl) (by kernel_rfl) (by kernel_rfl)) ?_
  intro W base args ds gs before hval0 hW hcnd _
  have hval : ∀ (j : Nat) t v, Try.f6.params[j]? = some t → args[j]? = some v → Value.okWide Try.prog W .any base t v := hval0
  have hW' := hW
  obtain ⟨p, q, hA0, hV, rfl, hfz, hnd⟩ := hW
  have hA : DataW.TrodAll enc Try.prog W 0 (fun _ => true) true Try.f6.params.toList args.toList ds p := hA0
  rw [Try.params6] at hA hval
  obtain ⟨v0, vs0, d0, ds0, p0, q0, hargs, rfl, rfl, h0, r0⟩ := trodAll_cons hA
  obtain ⟨rfl, rfl, rfl⟩ := trodAll_nil r0
  obtain rfl : args = #[v0] := by cases args; simp_all
  obtain ⟨rfl, rfl⟩ := trodVars_none hV
  obtain ⟨a0, len0, cap0, rfl⟩ := okWide_slice Try.underlying22 (hval 0 22 v0 rfl rfl)
  have k0 := h0
  have lt0 : ∀ x ∈ p0, x.block < W.heap.size := by obtain ⟨m, hm⟩ := k0; exact DataW.trod_lt m _ _ _ hm
  obtain ⟨z0, w0⟩ : ∃ zs, IsRow .u8 W a0 len0 cap0 zs := by
    obtain ⟨fuel, hf⟩ := h0
    rcases open_ints Try.underlying22 Try.underlying5 (by kernel_rfl) hf with ⟨hcs, _⟩ | ⟨x, l, c, zs, hcs, _, hl, hm, hz, _, hcell, hwz⟩
    · simp [Value.cells] at hcs
      obtain ⟨rfl, rfl, rfl⟩ := hcs
      exact ⟨[], .inl ⟨rfl, rfl, rfl, rfl⟩⟩
    · simp [Value.cells] at hcs
      obtain ⟨rfl, rfl, rfl⟩ := hcs
      exact ⟨zs, .inr ⟨_, rfl, hl, hm, by simpa using hz, hcell, hwz⟩⟩
  clear hA0 hval0
  simp only [List.append_nil] at hW'
  refine (walk (w := W) a0 len0 cap0 z0 w0).mono fun e W' ⟨he, bel⟩ => ?_
  subst he
  exact ⟨_, rfl, _, _, _, [], _, [], hW', trodAll_mk1 (shut_bool Try.underlying4 _), (trodAll_cons_mk (Below.trod laidOut (by kernel_rfl) (of_decide_eq_true (by kernel_rfl)) k0 bel lt0) trodAll_mk0), rfl, bel.frame _, fun h => by cases h⟩

theorem over : Rows.fnTossedRow.holds Try.pinned (OpenSpec.ofChange Rows.fnTossedSpec) :=
  OpenClaim.holds_of_wide 6 Try.f6 rfl rfl rfl rfl rfl rfl rfl ⟨rfl, rfl, rfl, rfl, rfl⟩ rfl rfl rfl rfl rfl (by kernel_rfl) Try.func6 (by kernel_rfl)
    (of_decide_eq_true (by kernel_rfl)) (by unfold Func.isWrapper; first | (rw [if_pos (by decide +kernel)]; kernel_rfl) | (rw [if_neg (by decide +kernel)]; exact ⟨rfl, rfl⟩))
    (fun os started H enc _ => lifted os started H enc)

/-- The statement. -/
theorem proved : Rows.FnTossedSaid := over
end Go.Proofs.Ytknepofclgjmiaa.lawFnTossed
