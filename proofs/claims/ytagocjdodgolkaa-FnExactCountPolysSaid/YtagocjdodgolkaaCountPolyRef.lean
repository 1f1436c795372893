/- The walk of the reference's count of polynomials. -/
import Derived.Test.YtagocjdodgolkaaRows
import Derived.Test.YtagocjdodgolkaaPlain
import Derived.Test.YtagocjdodgolkaaMem
import Derived.Test.YtagocjdodgolkaaWords
import Derived.Test.YtagocjdodgolkaaList
import Derived.Test.YtagocjdodgolkaaField
import Derived.Test.YtagocjdodgolkaaSums
import Derived.Test.YtagocjdodgolkaaCount
import Derived.Test.YtagocjdodgolkaaPolyCount
import Derived.WalkKit
import Derived.WalkSpells
import Derived.WalkLawsBesides
import Derived.OwnWalk
import Derived.Handy
import Derived.RegionTactic
import Derived.Deep.QuietTactic
import Derived.BigQuiet
import Derived.Deep.AppendLies
import Derived.Maps.AppendAt
import Derived.Deep.Onto
import Derived.Lib.Hide
import Derived.Test.YtagocjdodgolkaaCountPoly
namespace Go.Proofs.Ytagocjdodgolkaa
open Go.RowKit
theorem vals_app1 (xs : List Int) (a : Int) : vals xs ++ [.int .i64 a] = vals (xs ++ [a]) := by simp [vals]
theorem allEl_app {p a : Int} {xs : List Int} (h : allEl p xs = true) (ha : isEl p a = true) : allEl p (xs ++ [a]) = true :=
  allEl_iff.2 ⟨(allEl_iff.1 h).1, fun b hb => by
    rcases List.mem_append.1 hb with hb | hb
    · exact (allEl_iff.1 h).2 b hb
    · simp at hb; subst hb; exact (isEl_iff.1 ha).2⟩
theorem polyAt_horner {p x : Int} {cs : List Int} (hc : allEl p cs = true) (h0 : 0 ≤ x) (h1 : x ≤ p - 1) : polyAt p cs x = horner p x cs := by
  unfold polyAt
  rw [if_pos (by rw [hc, isEl_iff.2 ⟨(allEl_iff.1 hc).1, h0, h1⟩]; rfl)]
set_option maxHeartbeats 8000000 in
theorem c_spec_l07Count (q K : Nat) (hq2 : 2 ≤ q) (hq7 : q ≤ 7) (hK : K ≤ 3) (A A' : Option Addr) (c c' B B' : Nat) (pts vs : List Int) (hl : vs.length = pts.length) (hl5 : pts.length ≤ 5) (hpts : allEl (q : Int) pts = true) (m : Nat) :
    ∀ (cs : List Int) (C : Option Addr) (cc : Nat) (w : World), cs.length + m = K + 1 → 1 ≤ cs.length → allEl (q : Int) cs = true → SliceI w w.heap.size C cs.length cs → SliceI w B A pts.length pts → SliceI w B' A' vs.length vs → B ≤ w.heap.size → B' ≤ w.heap.size →
    Calls Try.prog 59 #[.int .i64 q, .slice C cs.length cc, .int .i64 K, .slice A pts.length c, .slice A' vs.length c'] w fun e w' => e = .returned (.int .i64 (cntS q pts vs cs m)) ∧ Below w.heap.size w w' := by
  obtain ⟨i0, hi, hz0, hz1, hz2⟩ := info_parts int_info
  have HZ := Lib.hid (And.intro hz1 hz2)
  have HPT := Lib.hid hpts
  have HL := Lib.hid hl
  have hl1 : pts.length ≤ vs.length := by omega
  clear hz1 hz2 hpts hl
  induction m with
  | zero =>
    intro cs C cc w hlen hc1 hcs hsc hsx hsy hB hB'
    have HCS := Lib.hid hcs
    have HSC := Lib.hid hsc
    have HX := Lib.hid hsx
    have HY := Lib.hid hsy
    have hK1 : ¬ (cs.length : Int) ≤ (K : Int) := by omega
    have HM5 := Lib.hid (show cs.length ≤ maxLen by unfold maxLen; omega)
    have hcl : cs.length ≤ 4 := by omega
    clear hcs hsc hsx hsy hlen
    go_enter Try.func59, Try.ntmps59
    go_wp2_with fail
    go_loopw [13] (fun i wr => ∃ e : Nat, e ≤ pts.length ∧ i = .int .i64 e ∧ fitsTo (q : Int) pts vs cs e = true ∧ Below w.heap.size w wr) (fun i _ => pts.length - (intOf i).toNat)
    case atStart => exact ⟨0, by omega, rfl, rfl, Below.refl _ _⟩
    case round =>
      obtain ⟨e, he, rfl, hfit, hbr⟩ := hrel
      have HFIT := Lib.hid hfit
      clear hfit
      by_cases hel : e < pts.length
      · obtain ⟨g0, o0, rfl, _, hc0⟩ := (HX.out.below_le hbr hB).at_ hel
        obtain ⟨g1, o1, rfl, _, hc1'⟩ := (HY.out.below_le hbr hB').at_ (k := e) (by omega)
        obtain ⟨x0, x1⟩ := allEl_get HPT.out hel
        have hfs := Lib.hid (fitsTo_succ (q : Int) pts vs cs e)
        have hbad := Lib.hid (fun h => fitsTo_bad (p := (q : Int)) (pts := pts) (vs := vs) (cs := cs) hel h)
        rw [polyAt_horner HCS.out x0 x1] at hfs hbad
        have HPA := Lib.hid (fun (m : Nat) => c_spec_l07At (q : Int) (pts.getD e 0) C cs.length cc _ cs (wr.drewN m) (SliceI.keep (HSC.out.below hbr) (fun _ _ _ => rfl)) HM5.out HCS.out x0 x1)
        generalize pts.getD e 0 = px at hc0 hfs x0 x1 HPA hbad
        generalize vs.getD e 0 = vx at hc1' hfs hbad
        generalize horner (q : Int) px cs = pv at hfs HPA hbad
        have hel' : (e : Int) < (pts.length : Int) := by omega
        have hel2 : (e : Int) < (vs.length : Int) := by omega
        have he0 : (0 : Int) ≤ (e : Int) := by omega
        cases hpv : (pv == vx)
        · have hfin := Lib.hid (show cntS q pts vs cs 0 = 0 by unfold cntS ind; rw [hbad.out hpv]; rfl)
          have hpv' : ¬ pv = vx := by simpa using hpv
          have hpv2 : (pv != vx) = true := by simp [hpv']
          clear hfs hbad hpv
          go_wp2_with fail
          go_quiet ((go_at_call 48; exact Calls.quiet_of_same ((HPA.out _).mono fun _ _ h => ⟨h.1, h.2.symm⟩)))
          go_wp2_with fail
          go_ret
          exact ⟨ret_int hfin.out.symm, below_drewN hbr _⟩
        · have hpv' : pv = vx := by simpa using hpv
          have hok := Lib.hid (show fitsTo (q : Int) pts vs cs (e + 1) = true by rw [hfs.out, HFIT.out, hpv]; rfl)
          clear hfs hbad hpv
          subst hpv'
          go_wp2_with fail
          go_quiet ((go_at_call 48; exact Calls.quiet_of_same ((HPA.out _).mono fun _ _ h => ⟨h.1, h.2.symm⟩)))
          go_wp2_with fail
          go_roundw
          case rel => exact ⟨e + 1, by omega, by go_num, hok.out, below_drewN hbr _⟩
          case measure => simp [intOf]; omega
      · obtain rfl : e = pts.length := by omega
        have hfin := Lib.hid (show cntS q pts vs cs 0 = 1 by unfold cntS ind; rw [HFIT.out]; rfl)
        have hel' : ¬ (pts.length : Int) < (pts.length : Int) := by omega
        go_wp2_with fail
        go_ret
        exact ⟨ret_int hfin.out.symm, hbr⟩
  | succ m ih =>
    intro cs C cc w hlen hc1 hcs hsc hsx hsy hB hB'
    have HCS := Lib.hid hcs
    have HSC := Lib.hid hsc
    have HX := Lib.hid hsx
    have HY := Lib.hid hsy
    have hK1 : (cs.length : Int) ≤ (K : Int) := by omega
    obtain ⟨b, off, rfl, hbb, _⟩ := hsc.at_ (show 0 < cs.length by omega)
    have hcl : cs.length ≤ 3 := by omega
    have IH := Lib.hid ih
    have hlen' : cs.length + 1 + m = K + 1 := by omega
    have hm3 : m ≤ 3 := by omega
    have HLN := Lib.hid hlen'
    have hcb0 : ∀ i : Nat, 0 ≤ cntS q pts vs (cs ++ [(i : Int)]) m ∧ cntS q pts vs (cs ++ [(i : Int)]) m ≤ 2197 := fun i => by
      have h1 := cntS_bound (p := q) pts vs (cs ++ [(i : Int)]) m
      have h2 := pow_bound (p := (q : Int)) (by omega) (by omega) m hm3
      rw [pow_cast] at h2
      omega
    have HCB := Lib.hid hcb0
    have hfin := Lib.hid (show cntS q pts vs cs (m + 1) = sumN (fun a => cntS q pts vs (cs ++ [(a : Int)]) m) q from rfl)
    clear hcs hsc hsx hsy hlen ih hlen' hcb0
    go_enter Try.func59, Try.ntmps59
    go_wp2_with fail
    go_loopw [11, 12] (fun s i wr => ∃ a : Nat, a ≤ q ∧ i = .int .i64 a ∧ s = .int .i64 (sumN (fun a => cntS q pts vs (cs ++ [(a : Int)]) m) a) ∧ Below w.heap.size w wr) (fun _ i _ => q - (intOf i).toNat)
    case atStart => exact ⟨0, by omega, rfl, rfl, Below.refl _ _⟩
    case round =>
      obtain ⟨a, ha, rfl, rfl, hbr⟩ := hrel
      obtain ⟨s0, s1⟩ := sumN_bound HCB.out a
      have hzr := hbr.size
      by_cases hlt : a < q
      · have hst := Lib.hid (show sumN (fun a => cntS q pts vs (cs ++ [(a : Int)]) m) (a + 1) = sumN (fun a => cntS q pts vs (cs ++ [(a : Int)]) m) a + cntS q pts vs (cs ++ [(a : Int)]) m from rfl)
        obtain ⟨t0, t1⟩ := HCB.out a
        have HNW := Lib.hid (SliceI.news (SliceI.alloc0 (o := .cells #[] 3) (HSC.out.below hbr)))
        have IHC : Hid (∀ (W : World), Below wr.heap.size wr W → ∀ (gv cv : Nat), SliceI W W.heap.size (some ⟨gv, 0, none⟩) (cs.length + 1) (cs ++ [(a : Int)]) → Calls Try.prog 59 #[.int .i64 q, .slice (some ⟨gv, 0, none⟩) (cs.length + 1) cv, .int .i64 K, .slice A pts.length c, .slice A' vs.length c'] W fun e w' => e = .returned (.int .i64 (cntS q pts vs (cs ++ [(a : Int)]) m)) ∧ Below W.heap.size W w') := by
          intro W hW gv cv hs
          have hlc : (cs ++ [(a : Int)]).length = cs.length + 1 := by simp
          have h := IH.out (cs ++ [(a : Int)]) (some ⟨gv, 0, none⟩) cv W (by rw [hlc]; exact HLN.out) (by omega) (allEl_app HCS.out (isEl_iff.2 ⟨(allEl_iff.1 HCS.out).1, by omega, by omega⟩)) (by rw [hlc]; exact hs) ((HX.out.below_le hbr hB).below_le hW (by omega)) ((HY.out.below_le hbr hB').below_le hW (by omega)) (by have := hW.size; omega) (by have := hW.size; omega)
          rw [hlc] at h
          exact h
        generalize cntS q pts vs (cs ++ [(a : Int)]) m = ct at hst t0 t1 IHC
        generalize sumN (fun a => cntS q pts vs (cs ++ [(a : Int)]) m) a = ss at s0 s1 hst
        have hlt' : (a : Int) < (q : Int) := by omega
        go_wp2_with (first | (at_builtin; go_loud (refine wpList_append_own _ rfl (.tmp 25) (.tmp 26) 22 rfl wr.heap.size 3 i0 (.int .i64 0) 1 8 Try.underlying22 hi hz0 HZ.out.1 HZ.out.2 rfl (by decide) _ _ _ rfl (World.ownsRow_lit wr #[] 0 (Nat.le_refl _) (by simp [maxLen]) rfl) ⟨b, off, none⟩ cs.length _ (vals cs) rfl (by simp [vals]) HNW.out (by simp [vals, Value.oneCell']) (by unfold maxLen; omega) (by omega) (by simp) ?_; intro v1 w1 hown1 hgrow1 _; have o1 : w1.ownsRow wr.heap.size 3 1 v1 cs.length (vals cs) := (by simpa using hown1); have B1 : Below wr.heap.size wr w1 := ((Below.refl _ _).alloc (Nat.le_refl _) _).grown hgrow1 (by simp) (fun k hk => by cases hk; exact Nat.le_refl _); have z1 := B1.size; clear hown1 hgrow1)) | (at_builtin; go_loud (refine wpList_append_own _ rfl (.tmp 27) (.tmp 29) 22 rfl wr.heap.size 3 i0 (.int .i64 0) 1 8 Try.underlying22 hi hz0 HZ.out.1 HZ.out.2 rfl (by decide) _ _ _ rfl (o1.alloc _) ⟨_, 0, none⟩ 1 1 [.int .i64 _] rfl rfl (cell_one_new _ _ _) (by simp [Value.oneCell']) (by unfold maxLen; omega) (by omega) (by simp; omega) ?_; intro v2 w2 hown2 hgrow2 _; have o2 : w2.ownsRow wr.heap.size 3 1 v2 (cs.length + 1) (vals (cs ++ [(a : Int)])) := (by rw [← vals_app1]; exact hown2); have B2 : Below wr.heap.size wr w2 := (B1.alloc B1.size _).grown hgrow2 (by simp; omega) (fun k hk => (o1.lt k hk).1); obtain ⟨gv, cv, rfl, hsv⟩ := own_sliceP o2 (by omega); have HSV := Lib.hid hsv; have z2 := B2.size; clear hown2 hgrow2 o1 o2 hsv)) | (go_at_call 59; (with_reducible refine (IHC.out w2 B2 gv cv HSV.out).mono ?_); rintro e w3 ⟨rfl, hb3⟩; have B3 := below_next B2 hb3))
        go_roundw
        case rel => exact ⟨a + 1, by omega, by go_num, by rw [hst.out], below_next hbr B3⟩
        case measure => simp [intOf]; omega
      · obtain rfl : a = q := by omega
        have hres := Lib.hid hfin.out
        generalize sumN (fun i => cntS a pts vs (cs ++ [(i : Int)]) m) a = ss at s0 s1 hres
        have hlt' : ¬ (a : Int) < (a : Int) := by omega
        go_wp2_with fail
        go_ret
        exact ⟨ret_int hres.out.symm, hbr⟩
set_option maxHeartbeats 16000000 in
theorem c_spec_CountPolys (p x k : Int) (A A' : Option Addr) (c c' B B' : Nat) (pts vs : List Int) (w : World) (hx : SliceI w B A pts.length pts) (hy : SliceI w B' A' vs.length vs) (hB : B ≤ w.heap.size) (hB' : B' ≤ w.heap.size) (hmx : pts.length ≤ maxLen) (hmy : vs.length ≤ maxLen) :
    Calls Try.prog 33 #[.int .i64 p, .int .i64 x, .int .i64 k, .slice A pts.length c, .slice A' vs.length c'] w fun e w' => e = .returned (.int .i64 (polysF p x k pts vs)) ∧ Below w.heap.size w w' := by
  have HX := Lib.hid hx
  have HY := Lib.hid hy
  have HMX := Lib.hid hmx
  have HMY := Lib.hid hmy
  unfold maxLen at hmx hmy
  clear hx hy
  cases h1 : isEl p x
  · skip
    have hfin := Lib.hid (polys_no (p := p) (x := x) (k := k) (pts := pts) (vs := vs) (by simp [h1]))
    go_enter Try.func33, Try.ntmps33
    go_wp2_with (first | (go_at_call 47; (with_reducible refine (c_spec_IsElement _ _ _).mono ?_); rintro e w' ⟨rfl, rfl⟩) | (go_at_call 50; (with_reducible refine (c_spec_l01In _ _ _ _).mono ?_); rintro e w' ⟨rfl, rfl⟩) | (go_at_call 45; (with_reducible refine (c_spec_l03All _ _ _ _ _ _ _ HX.out HMX.out).mono ?_); rintro e w' ⟨rfl, rfl⟩) | (go_at_call 45; (with_reducible refine (c_spec_l03All _ _ _ _ _ _ _ HY.out HMY.out).mono ?_); rintro e w' ⟨rfl, rfl⟩))
    go_ret
    exact ⟨ret_int hfin.out.symm, Below.refl _ _⟩
  have hE := isEl_iff.1 h1
  have hr := fieldOk_range hE.1
  have hp2 := hr.1
  have HF := Lib.hid hE.1
  clear hr hE
  cases h2 : inB k 0 3
  · skip
    have hfin := Lib.hid (polys_no (p := p) (x := x) (k := k) (pts := pts) (vs := vs) (by simp [h2]))
    go_enter Try.func33, Try.ntmps33
    go_wp2_with (first | (go_at_call 47; (with_reducible refine (c_spec_IsElement _ _ _).mono ?_); rintro e w' ⟨rfl, rfl⟩) | (go_at_call 50; (with_reducible refine (c_spec_l01In _ _ _ _).mono ?_); rintro e w' ⟨rfl, rfl⟩) | (go_at_call 45; (with_reducible refine (c_spec_l03All _ _ _ _ _ _ _ HX.out HMX.out).mono ?_); rintro e w' ⟨rfl, rfl⟩) | (go_at_call 45; (with_reducible refine (c_spec_l03All _ _ _ _ _ _ _ HY.out HMY.out).mono ?_); rintro e w' ⟨rfl, rfl⟩))
    go_ret
    exact ⟨ret_int hfin.out.symm, Below.refl _ _⟩
  have hk := inB_iff.1 h2
  have hk0 := hk.1
  have hk3 := hk.2
  clear hk
  by_cases h3 : 7 < p
  · skip
    have hfin := Lib.hid (polys_no (p := p) (x := x) (k := k) (pts := pts) (vs := vs) (by simp [show ¬ p ≤ 7 by omega]))
    go_enter Try.func33, Try.ntmps33
    go_wp2_with (first | (go_at_call 47; (with_reducible refine (c_spec_IsElement _ _ _).mono ?_); rintro e w' ⟨rfl, rfl⟩) | (go_at_call 50; (with_reducible refine (c_spec_l01In _ _ _ _).mono ?_); rintro e w' ⟨rfl, rfl⟩) | (go_at_call 45; (with_reducible refine (c_spec_l03All _ _ _ _ _ _ _ HX.out HMX.out).mono ?_); rintro e w' ⟨rfl, rfl⟩) | (go_at_call 45; (with_reducible refine (c_spec_l03All _ _ _ _ _ _ _ HY.out HMY.out).mono ?_); rintro e w' ⟨rfl, rfl⟩))
    go_ret
    exact ⟨ret_int hfin.out.symm, Below.refl _ _⟩
  by_cases h5 : 5 < pts.length
  · skip
    have hfin := Lib.hid (polys_no (p := p) (x := x) (k := k) (pts := pts) (vs := vs) (by simp [show ¬ pts.length ≤ 5 by omega]))
    have hd5 : (5 : Int) < (pts.length : Int) := by omega
    go_enter Try.func33, Try.ntmps33
    go_wp2_with (first | (go_at_call 47; (with_reducible refine (c_spec_IsElement _ _ _).mono ?_); rintro e w' ⟨rfl, rfl⟩) | (go_at_call 50; (with_reducible refine (c_spec_l01In _ _ _ _).mono ?_); rintro e w' ⟨rfl, rfl⟩) | (go_at_call 45; (with_reducible refine (c_spec_l03All _ _ _ _ _ _ _ HX.out HMX.out).mono ?_); rintro e w' ⟨rfl, rfl⟩) | (go_at_call 45; (with_reducible refine (c_spec_l03All _ _ _ _ _ _ _ HY.out HMY.out).mono ?_); rintro e w' ⟨rfl, rfl⟩))
    go_ret
    exact ⟨ret_int hfin.out.symm, Below.refl _ _⟩
  have hn5 : pts.length ≤ 5 := by omega
  have hd5 : ¬ (5 : Int) < (pts.length : Int) := by omega
  by_cases h4 : pts.length = vs.length
  case neg =>
    have hfin := Lib.hid (polys_no (p := p) (x := x) (k := k) (pts := pts) (vs := vs) (by simp [h4]))
    have hd : ((pts.length : Int) != (vs.length : Int)) = true := by simp; omega
    have hd' : ((vs.length : Int) != (pts.length : Int)) = true := by simp; omega
    have hd2 : ¬ (pts.length : Int) = (vs.length : Int) := by omega
    have hd3 : ¬ (vs.length : Int) = (pts.length : Int) := by omega
    go_enter Try.func33, Try.ntmps33
    go_wp2_with (first | (go_at_call 47; (with_reducible refine (c_spec_IsElement _ _ _).mono ?_); rintro e w' ⟨rfl, rfl⟩) | (go_at_call 50; (with_reducible refine (c_spec_l01In _ _ _ _).mono ?_); rintro e w' ⟨rfl, rfl⟩) | (go_at_call 45; (with_reducible refine (c_spec_l03All _ _ _ _ _ _ _ HX.out HMX.out).mono ?_); rintro e w' ⟨rfl, rfl⟩) | (go_at_call 45; (with_reducible refine (c_spec_l03All _ _ _ _ _ _ _ HY.out HMY.out).mono ?_); rintro e w' ⟨rfl, rfl⟩))
    go_ret
    exact ⟨ret_int hfin.out.symm, Below.refl _ _⟩
  have HL := Lib.hid h4
  have hle : pts.length ≤ vs.length := by omega
  have hge : vs.length ≤ pts.length := by omega
  have hd : ((pts.length : Int) != (vs.length : Int)) = false := by simp; omega
  have hd' : ((vs.length : Int) != (pts.length : Int)) = false := by simp; omega
  clear h4
  cases h6 : allEl p pts
  · skip
    have hfin := Lib.hid (polys_no (p := p) (x := x) (k := k) (pts := pts) (vs := vs) (by simp [h6]))
    go_enter Try.func33, Try.ntmps33
    go_wp2_with (first | (go_at_call 47; (with_reducible refine (c_spec_IsElement _ _ _).mono ?_); rintro e w' ⟨rfl, rfl⟩) | (go_at_call 50; (with_reducible refine (c_spec_l01In _ _ _ _).mono ?_); rintro e w' ⟨rfl, rfl⟩) | (go_at_call 45; (with_reducible refine (c_spec_l03All _ _ _ _ _ _ _ HX.out HMX.out).mono ?_); rintro e w' ⟨rfl, rfl⟩) | (go_at_call 45; (with_reducible refine (c_spec_l03All _ _ _ _ _ _ _ HY.out HMY.out).mono ?_); rintro e w' ⟨rfl, rfl⟩))
    go_ret
    exact ⟨ret_int hfin.out.symm, Below.refl _ _⟩
  cases h7 : allEl p vs
  · skip
    have hfin := Lib.hid (polys_no (p := p) (x := x) (k := k) (pts := pts) (vs := vs) (by simp [h7]))
    go_enter Try.func33, Try.ntmps33
    go_wp2_with (first | (go_at_call 47; (with_reducible refine (c_spec_IsElement _ _ _).mono ?_); rintro e w' ⟨rfl, rfl⟩) | (go_at_call 50; (with_reducible refine (c_spec_l01In _ _ _ _).mono ?_); rintro e w' ⟨rfl, rfl⟩) | (go_at_call 45; (with_reducible refine (c_spec_l03All _ _ _ _ _ _ _ HX.out HMX.out).mono ?_); rintro e w' ⟨rfl, rfl⟩) | (go_at_call 45; (with_reducible refine (c_spec_l03All _ _ _ _ _ _ _ HY.out HMY.out).mono ?_); rintro e w' ⟨rfl, rfl⟩))
    go_ret
    exact ⟨ret_int hfin.out.symm, Below.refl _ _⟩
  obtain ⟨q, rfl⟩ : ∃ q : Nat, p = (q : Int) := ⟨p.toNat, by omega⟩
  obtain ⟨m, rfl⟩ : ∃ m : Nat, k = (m : Int) := ⟨k.toNat, by omega⟩
  have hfin := Lib.hid ((polys_yes h1 h2 (by omega) HL.out hn5 h6 h7).trans (cntS_eq q pts vs m [x]).symm)
  have H1 := Lib.hid h1
  have H6 := Lib.hid h6
  have HLC := Lib.hid (c_spec_l07Count q m (by omega) (by omega) (by omega) A A' c c' B B' pts vs HL.out.symm hn5 h6 m [x] (some ⟨w.heap.size, 0, none⟩) 1 (w.alloc (.cells #[.int .i64 x] 3)) (by simp; omega) (by simp) (allEl_iff.2 ⟨(isEl_iff.1 h1).1, fun a ha => by simp at ha; subst ha; exact (isEl_iff.1 h1).2⟩) (by simpa using SliceI.one w x 3) (SliceI.alloc0 HX.out) (SliceI.alloc0 HY.out) (by simp; omega) (by simp; omega))
  go_enter Try.func33, Try.ntmps33
  go_wp2_with (first | (go_at_call 47; (with_reducible refine (c_spec_IsElement _ _ _).mono ?_); rintro e w' ⟨rfl, rfl⟩) | (go_at_call 50; (with_reducible refine (c_spec_l01In _ _ _ _).mono ?_); rintro e w' ⟨rfl, rfl⟩) | (go_at_call 45; (with_reducible refine (c_spec_l03All _ _ _ _ _ _ _ HX.out HMX.out).mono ?_); rintro e w' ⟨rfl, rfl⟩) | (go_at_call 45; (with_reducible refine (c_spec_l03All _ _ _ _ _ _ _ HY.out HMY.out).mono ?_); rintro e w' ⟨rfl, rfl⟩))
  refine HLC.out.mono ?_
  rintro e w1 ⟨rfl, hb⟩
  go_wp2_with fail
  go_ret
  exact ⟨ret_int hfin.out.symm, (start1 hb).1⟩
end Go.Proofs.Ytagocjdodgolkaa
