/- The walks of OpenPoly: what each call returns; what was there is kept. -/
import Derived.Test.YtknepofclgjmiaaPolyRef
import Derived.Test.YtknepofclgjmiaaList
import Derived.OwnWalk
import Derived.Deep.Onto
import Derived.Maps.AppendAt
namespace Go.Proofs.Ytknepofclgjmiaa
open Go.RowKit
def neqTo (pts : List Int) (i j : Nat) : Bool := (List.range j).all fun k => !(pts.getD k 0 == pts.getD i 0)
def rowOk (pts : List Int) (i : Nat) : Bool := neqTo pts i i && !(pts.getD i 0 == 0)
def ptsTo (pts : List Int) (k : Nat) : Bool := (List.range k).all (rowOk pts)
def ptsOk (p : Int) (pts vs : List Int) : Bool := decide (pts.length = vs.length) && inB pts.length 1 5 && allEl p pts && allEl p vs && ptsTo pts pts.length
def openPoly (p : Int) (pts vs : List Int) : Int := if ptsOk p pts vs then lagAt p 0 pts vs else -1
theorem neqTo_succ (pts : List Int) (i j : Nat) : neqTo pts i (j + 1) = (neqTo pts i j && !(pts.getD j 0 == pts.getD i 0)) := by simp [neqTo, List.range_succ]
theorem ptsTo_succ (pts : List Int) (k : Nat) : ptsTo pts (k + 1) = (ptsTo pts k && rowOk pts k) := by simp [ptsTo, List.range_succ]
theorem neqTo_bad {pts : List Int} {i j : Nat} (hj : j < i) (h : (pts.getD j 0 == pts.getD i 0) = true) : rowOk pts i = false := by
  have : neqTo pts i i = false := by
    rw [Bool.eq_false_iff]
    intro h1
    have := List.all_eq_true.1 h1 j (by simpa using hj)
    rw [h] at this; cases this
  simp [rowOk, this]
theorem ptsTo_bad {p : Int} {pts vs : List Int} {k : Nat} (hk : k < pts.length) (h : rowOk pts k = false) : openPoly p pts vs = -1 ∧ ptsOk p pts vs = false := by
  have h0 : ptsOk p pts vs = false := by
    have : ptsTo pts pts.length = false := by
      rw [Bool.eq_false_iff]
      intro h1
      have := List.all_eq_true.1 h1 k (by simpa using hk)
      rw [h] at this; cases this
    simp [ptsOk, this]
  exact ⟨by simp [openPoly, h0], h0⟩
theorem ptsTo_apart {p : Int} {pts : List Int} (h : allEl p pts = true) (ht : ptsTo pts pts.length = true) : Apart p pts := by
  have key : ∀ i k, i < pts.length → k < i → pts.getD k 0 ≠ pts.getD i 0 := fun i k hi hk e => by
    have h1 := List.all_eq_true.1 ht i (by simpa using hi)
    simp only [rowOk, Bool.and_eq_true] at h1
    have h2 := List.all_eq_true.1 h1.1 k (by simpa using hk)
    rw [e] at h2
    simp at h2
  refine ⟨h, fun i k hi hk hne => ?_⟩
  rcases Nat.lt_or_ge k i with hl | hl
  · exact (key i k hi hl).symm
  · exact key k i hk (by omega)
theorem ptsOk_no {p : Int} {pts vs : List Int} (h : (decide (pts.length = vs.length) && inB pts.length 1 5 && allEl p pts && allEl p vs) = false) : openPoly p pts vs = -1 ∧ ptsOk p pts vs = false := by
  have : ptsOk p pts vs = false := by unfold ptsOk; rw [h]; rfl
  exact ⟨by simp [openPoly, this], this⟩
theorem ptsOk_yes {p : Int} {pts vs : List Int} (h1 : pts.length = vs.length) (h2 : inB pts.length 1 5 = true) (h3 : allEl p pts = true) (h4 : allEl p vs = true) (h5 : ptsTo pts pts.length = true) : openPoly p pts vs = lagAt p 0 pts vs ∧ ptsOk p pts vs = true := by
  have : ptsOk p pts vs = true := by unfold ptsOk; rw [h1] at *; simp [h2, h3, h4, h5]
  exact ⟨by simp [openPoly, this], this⟩
theorem own_sliceI {w : World} {lo n : Nat} {v : Value} {xs : List Int} (h : w.ownsRow lo 3 1 v n (vals xs)) (hn : 0 < n) : ∃ g c, v = .slice (some ⟨g, 0, none⟩) n c ∧ SliceI w w.heap.size (some ⟨g, 0, none⟩) n xs := by
  rcases h.2 with ⟨_, h0⟩ | ⟨g, c, _, rfl, _⟩
  · omega
  · exact ⟨g, c, rfl, OwnI.slice (lo := lo) (c := c) h⟩
theorem SliceI.take {w : World} {B n : Nat} {A : Option Addr} {xs : List Int} (h : SliceI w B A n xs) {m : Nat} (hm : m ≤ n) : SliceI w B A m (xs.take m) :=
  ⟨by rw [List.length_take, h.len]; omega, fun h0 => by
    obtain ⟨b, off, e, hb, hc⟩ := h.2 (by omega)
    refine ⟨b, off, e, hb, fun k hk => ?_⟩
    rw [hc k (by omega)]
    simp [List.getD_eq_getElem?_getD, hk]⟩
set_option maxHeartbeats 8000000 in
theorem c_impl_OpenPoly (p : Int) (A A' : Option Addr) (c c' B B' : Nat) (pts vs : List Int) (w : World) (hx : SliceI w B A pts.length pts) (hy : SliceI w B' A' vs.length vs) (hB : B ≤ w.heap.size) (hB' : B' ≤ w.heap.size) (hmx : pts.length ≤ maxLen) (hmy : vs.length ≤ maxLen) (hcap : pts.length ≤ c) :
    Calls Try.prog 30 #[.int .i64 p, .slice A pts.length c, .slice A' vs.length c'] w fun e w' => e = .returned (.int .i64 (openPoly p pts vs)) ∧ Below w.heap.size w w' := by
  have HX := Lib.hid hx
  have HY := Lib.hid hy
  have HMX := Lib.hid hmx
  have HMY := Lib.hid hmy
  unfold maxLen at hmx hmy
  clear hx hy
  by_cases h1 : pts.length = vs.length
  case neg =>
    have hd : ((pts.length : Int) != (vs.length : Int)) = true := by simp; omega
    have hd' : ((vs.length : Int) != (pts.length : Int)) = true := by simp; omega
    have hd2 : ¬ (pts.length : Int) = (vs.length : Int) := by omega
    have hd3 : ¬ (vs.length : Int) = (pts.length : Int) := by omega
    have hfin := Lib.hid (ptsOk_no (p := p) (pts := pts) (vs := vs) (by simp [h1]))
    go_enter Try.func30, Try.ntmps30
    go_wp2_with (first | (go_at_call 36; (with_reducible refine (c_impl_within _ _ _ _).mono ?_); rintro e w' ⟨rfl, rfl⟩) | (go_at_call 37; (with_reducible refine (c_impl_areElements _ _ _ _ _ _ _ HX.out HMX.out).mono ?_); rintro e w' ⟨rfl, rfl⟩) | (go_at_call 37; (with_reducible refine (c_impl_areElements _ _ _ _ _ _ _ HY.out HMY.out).mono ?_); rintro e w' ⟨rfl, rfl⟩))
    go_ret
    exact ⟨ret_int (hfin.out).1.symm, Below.refl _ _⟩
  have hv := Lib.hid h1
  have hle : pts.length ≤ vs.length := by omega
  have hge : vs.length ≤ pts.length := by omega
  have hd : ((pts.length : Int) != (vs.length : Int)) = false := by simp; omega
  clear h1
  cases h2 : inB pts.length 1 5
  · skip
    have hfin := Lib.hid (ptsOk_no (p := p) (pts := pts) (vs := vs) (by simp [h2]))
    go_enter Try.func30, Try.ntmps30
    go_wp2_with (first | (go_at_call 36; (with_reducible refine (c_impl_within _ _ _ _).mono ?_); rintro e w' ⟨rfl, rfl⟩) | (go_at_call 37; (with_reducible refine (c_impl_areElements _ _ _ _ _ _ _ HX.out HMX.out).mono ?_); rintro e w' ⟨rfl, rfl⟩) | (go_at_call 37; (with_reducible refine (c_impl_areElements _ _ _ _ _ _ _ HY.out HMY.out).mono ?_); rintro e w' ⟨rfl, rfl⟩))
    go_ret
    exact ⟨ret_int (hfin.out).1.symm, Below.refl _ _⟩
  cases h3 : allEl p pts
  · skip
    have hfin := Lib.hid (ptsOk_no (p := p) (pts := pts) (vs := vs) (by simp [h3]))
    go_enter Try.func30, Try.ntmps30
    go_wp2_with (first | (go_at_call 36; (with_reducible refine (c_impl_within _ _ _ _).mono ?_); rintro e w' ⟨rfl, rfl⟩) | (go_at_call 37; (with_reducible refine (c_impl_areElements _ _ _ _ _ _ _ HX.out HMX.out).mono ?_); rintro e w' ⟨rfl, rfl⟩) | (go_at_call 37; (with_reducible refine (c_impl_areElements _ _ _ _ _ _ _ HY.out HMY.out).mono ?_); rintro e w' ⟨rfl, rfl⟩))
    go_ret
    exact ⟨ret_int (hfin.out).1.symm, Below.refl _ _⟩
  cases h4 : allEl p vs
  · skip
    have hfin := Lib.hid (ptsOk_no (p := p) (pts := pts) (vs := vs) (by simp [h4]))
    go_enter Try.func30, Try.ntmps30
    go_wp2_with (first | (go_at_call 36; (with_reducible refine (c_impl_within _ _ _ _).mono ?_); rintro e w' ⟨rfl, rfl⟩) | (go_at_call 37; (with_reducible refine (c_impl_areElements _ _ _ _ _ _ _ HX.out HMX.out).mono ?_); rintro e w' ⟨rfl, rfl⟩) | (go_at_call 37; (with_reducible refine (c_impl_areElements _ _ _ _ _ _ _ HY.out HMY.out).mono ?_); rintro e w' ⟨rfl, rfl⟩))
    go_ret
    exact ⟨ret_int (hfin.out).1.symm, Below.refl _ _⟩
  have hnn := inB_iff.1 h2
  have hn5 : pts.length ≤ 5 := by omega
  have hn1 : 1 ≤ pts.length := by omega
  have H2 := Lib.hid h2
  have H3 := Lib.hid h3
  have H4 := Lib.hid h4
  clear hnn
  go_enter Try.func30, Try.ntmps30
  go_wp2_with (first | (go_at_call 36; (with_reducible refine (c_impl_within _ _ _ _).mono ?_); rintro e w' ⟨rfl, rfl⟩) | (go_at_call 37; (with_reducible refine (c_impl_areElements _ _ _ _ _ _ _ HX.out HMX.out).mono ?_); rintro e w' ⟨rfl, rfl⟩) | (go_at_call 37; (with_reducible refine (c_impl_areElements _ _ _ _ _ _ _ HY.out HMY.out).mono ?_); rintro e w' ⟨rfl, rfl⟩))
  go_loop [36] (fun i => ∃ k : Nat, k ≤ pts.length ∧ i = .int .i64 k ∧ ptsTo pts k = true) (fun i => pts.length - (intOf i).toNat)
  case atStart => exact ⟨0, by omega, rfl, rfl⟩
  case round =>
    obtain ⟨k, hk, rfl, hpt⟩ := hrel
    have HPT := Lib.hid hpt
    clear hpt
    by_cases hlt : k < pts.length
    · have hnext := Lib.hid (ptsTo_succ pts k)
      have hbad := Lib.hid (fun h => ptsTo_bad (p := p) (vs := vs) hlt h)
      have hnb := Lib.hid (fun (j : Nat) (hj : j < k) h => neqTo_bad (pts := pts) hj h)
      have hrow := Lib.hid (show rowOk pts k = (neqTo pts k k && !(pts.getD k 0 == 0)) from rfl)
      have hns := Lib.hid (fun j => neqTo_succ pts k j)
      obtain ⟨b, off, rfl, hbB, hc⟩ := HX.out.at_ hlt
      generalize pts.getD k 0 = x at hc hnb hrow hns
      have hlt' : (k : Int) < (pts.length : Int) := by omega
      have hk0 : (0 : Int) ≤ (k : Int) := by omega
      have hkc : (k : Int) ≤ (c : Int) := by omega
      cases hz : (x == 0)
      · have hz' : ¬ x = 0 := by simpa using hz
        go_wp2_with fail
        go_loop [47] (fun j => ∃ m : Nat, m ≤ k ∧ j = .int .i64 m ∧ neqTo pts k m = true) (fun j => k - (intOf j).toNat)
        case atStart => exact ⟨0, by omega, rfl, rfl⟩
        case round =>
          obtain ⟨m, hm, rfl, hnt⟩ := hrel
          have HNT := Lib.hid hnt
          clear hnt
          by_cases hlm : m < k
          · obtain ⟨b2, off2, e2, _, hc2⟩ := HX.out.at_ (k := m) (by omega)
            simp only [Option.some.injEq, Addr.mk.injEq, and_true] at e2
            obtain ⟨rfl, rfl⟩ := e2
            have hs := Lib.hid (hns.out m)
            have hb := Lib.hid (hnb.out m hlm)
            generalize pts.getD m 0 = y at hc2 hs hb
            have hlm' : (m : Int) < (k : Int) := by omega
            cases hxy : (x == y)
            · have hxy' : ¬ x = y := by simpa using hxy
              have hyx : (y == x) = false := by rw [beq_eq_false_iff_ne]; exact fun e => hxy' e.symm
              have hok := Lib.hid (show neqTo pts k (m + 1) = true by rw [hs.out, HNT.out, hyx]; rfl)
              clear hs hb hyx
              go_wp2_with fail
              go_round
              case rel => exact ⟨m + 1, by omega, by go_num, hok.out⟩
              case measure => simp [intOf]; omega
            · have hyx : (y == x) = true := by rw [beq_iff_eq] at hxy ⊢; exact hxy.symm
              have hfin := Lib.hid (hbad.out (hb.out hyx))
              clear hs hb hyx
              go_wp2_with fail
              go_ret
              exact ⟨ret_int hfin.out.1.symm, Below.refl _ _⟩
          · obtain rfl : m = k := by omega
            have hok := Lib.hid (show ptsTo pts (m + 1) = true by rw [hnext.out, HPT.out, hrow.out, HNT.out, hz]; rfl)
            go_wp2_with fail
            go_round
            case rel => exact ⟨m + 1, by omega, by go_num, hok.out⟩
            case measure => simp [intOf]; omega
      · have hfin := Lib.hid (hbad.out (by rw [hrow.out, hz]; simp))
        have hz' : x = 0 := by simpa using hz
        subst hz'
        go_wp2_with fail
        go_ret
        exact ⟨ret_int hfin.out.1.symm, Below.refl _ _⟩
    · obtain rfl : k = pts.length := by omega
      have hap := Lib.hid (ptsTo_apart H3.out HPT.out)
      have hfin := Lib.hid (ptsOk_yes hv.out H2.out H3.out H4.out HPT.out)
      have HY' := Lib.hid (show SliceI w B' A' pts.length vs by rw [hv.out]; exact HY.out)
      have HE0 := Lib.hid (el_zero (allEl_iff.1 H3.out).1)
      have hvl : (vs.length : Int) = (pts.length : Int) := by omega
      have hvn : vs.length = pts.length := by omega
      rw [hvn]
      clear hvl hvn
      go_wp2_with (go_at_call 46; (with_reducible refine (c_impl_lagrange _ _ _ _ _ _ _ _ _ _ _ _ HX.out HY'.out hB hB' hn5 hap.out H4.out HE0.out).mono ?_); rintro e w1 ⟨rfl, hb⟩)
      go_ret
      exact ⟨ret_int hfin.out.1.symm, hb⟩
end Go.Proofs.Ytknepofclgjmiaa
