/- The walk of the count of polynomials. -/
import Derived.Test.YtagocjdodgolkaaRows
import Derived.Test.YtagocjdodgolkaaPlain
import Derived.Test.YtagocjdodgolkaaMem
import Derived.Test.YtagocjdodgolkaaWords
import Derived.Test.YtagocjdodgolkaaList
import Derived.Test.YtagocjdodgolkaaField
import Derived.Test.YtagocjdodgolkaaSums
import Derived.Test.YtagocjdodgolkaaCount
import Derived.Test.YtagocjdodgolkaaPolyCount
import Derived.WalkKit
import Derived.WalkSpells
import Derived.WalkLawsBesides
import Derived.OwnWalk
import Derived.Handy
import Derived.RegionTactic
import Derived.Deep.QuietTactic
import Derived.BigQuiet
import Derived.Deep.AppendLies
import Derived.Maps.AppendAt
import Derived.Deep.Onto
import Derived.Lib.Hide
namespace Go.Proofs.Ytagocjdodgolkaa
open Go.RowKit
theorem own_sliceP {w : World} {lo n : Nat} {v : Value} {xs : List Int} (h : w.ownsRow lo 3 1 v n (vals xs)) (hn : 0 < n) : ∃ g c, v = .slice (some ⟨g, 0, none⟩) n c ∧ SliceI w w.heap.size (some ⟨g, 0, none⟩) n xs := by
  rcases h.2 with ⟨_, h0⟩ | ⟨g, c, _, rfl, _⟩
  · omega
  · exact ⟨g, c, rfl, OwnI.slice (lo := lo) (c := c) h⟩
theorem polys_no {p x k : Int} {pts vs : List Int} (h : (isEl p x && inB k 0 3 && decide (p ≤ 7) && decide (pts.length = vs.length) && decide (pts.length ≤ 5) && allEl p pts && allEl p vs) = false) : polysF p x k pts vs = 0 := by
  unfold polysF; rw [h]; rfl
theorem polys_yes {q m : Nat} {x : Int} {pts vs : List Int} (h1 : isEl (q : Int) x = true) (h2 : inB (m : Int) 0 3 = true) (h3 : (q : Int) ≤ 7) (h4 : pts.length = vs.length) (h5 : pts.length ≤ 5) (h6 : allEl (q : Int) pts = true) (h7 : allEl (q : Int) vs = true) : polysF (q : Int) x (m : Int) pts vs = cntP q pts vs [x] m := by
  unfold polysF; rw [h4] at *; simp [h1, h2, h3, h5, h6, h7]
theorem cntTo_succ (p : Nat) (pts vs cs : List Int) (k n : Nat) : cntTo p pts vs cs k (n + 1) = cntTo p pts vs cs k n + ind (p : Int) pts vs (cs ++ digs p k n) := rfl
theorem digs_vals (p : Nat) (x : Int) (k n : Nat) : vals (x :: digs p k n) ++ [.int .i64 ((n / p ^ k % p : Nat) : Int)] = vals (x :: digs p (k + 1) n) := by
  rw [digs_snoc]; simp [vals]
theorem wrap64_small {a b : Nat} (h : a ≤ b) (hb : b ≤ 2197) : wrap64 (a : Int) = (a : Int) := IntWalk.wrap64_in _ ⟨by omega, by omega⟩
theorem pow_cast (q j : Nat) : ((q : Int) ^ j) = ((q ^ j : Nat) : Int) := by rw [Int.natCast_pow]
set_option maxHeartbeats 16000000 in
theorem c_impl_CountPolys (p x k : Int) (A A' : Option Addr) (c c' B B' : Nat) (pts vs : List Int) (w : World) (hx : SliceI w B A pts.length pts) (hy : SliceI w B' A' vs.length vs) (hB : B ≤ w.heap.size) (hB' : B' ≤ w.heap.size) (hmx : pts.length ≤ maxLen) (hmy : vs.length ≤ maxLen) :
    Calls Try.prog 34 #[.int .i64 p, .int .i64 x, .int .i64 k, .slice A pts.length c, .slice A' vs.length c'] w fun e w' => e = .returned (.int .i64 (polysF p x k pts vs)) ∧ Below w.heap.size w w' := by
  obtain ⟨i0, hi, hz0, hz1, hz2⟩ := info_parts int_info
  have HZ := Lib.hid (And.intro hz1 hz2)
  have HX := Lib.hid hx
  have HY := Lib.hid hy
  have HMX := Lib.hid hmx
  have HMY := Lib.hid hmy
  unfold maxLen at hmx hmy
  clear hz1 hz2 hx hy
  cases h1 : isEl p x
  · skip
    have hfin := Lib.hid (polys_no (p := p) (x := x) (k := k) (pts := pts) (vs := vs) (by simp [h1]))
    go_enter Try.func34, Try.ntmps34
    go_wp2_with (first | (go_at_call 49; (with_reducible refine (c_impl_IsElement _ _ _).mono ?_); rintro e w' ⟨rfl, rfl⟩) | (go_at_call 51; (with_reducible refine (c_impl_within _ _ _ _).mono ?_); rintro e w' ⟨rfl, rfl⟩) | (go_at_call 46; (with_reducible refine (c_impl_areElements _ _ _ _ _ _ _ HX.out HMX.out).mono ?_); rintro e w' ⟨rfl, rfl⟩) | (go_at_call 46; (with_reducible refine (c_impl_areElements _ _ _ _ _ _ _ HY.out HMY.out).mono ?_); rintro e w' ⟨rfl, rfl⟩))
    go_ret
    exact ⟨ret_int hfin.out.symm, Below.refl _ _⟩
  have hE := isEl_iff.1 h1
  have hr := fieldOk_range hE.1
  have hp2 := hr.1
  have HF := Lib.hid hE.1
  clear hr hE
  cases h2 : inB k 0 3
  · skip
    have hfin := Lib.hid (polys_no (p := p) (x := x) (k := k) (pts := pts) (vs := vs) (by simp [h2]))
    go_enter Try.func34, Try.ntmps34
    go_wp2_with (first | (go_at_call 49; (with_reducible refine (c_impl_IsElement _ _ _).mono ?_); rintro e w' ⟨rfl, rfl⟩) | (go_at_call 51; (with_reducible refine (c_impl_within _ _ _ _).mono ?_); rintro e w' ⟨rfl, rfl⟩) | (go_at_call 46; (with_reducible refine (c_impl_areElements _ _ _ _ _ _ _ HX.out HMX.out).mono ?_); rintro e w' ⟨rfl, rfl⟩) | (go_at_call 46; (with_reducible refine (c_impl_areElements _ _ _ _ _ _ _ HY.out HMY.out).mono ?_); rintro e w' ⟨rfl, rfl⟩))
    go_ret
    exact ⟨ret_int hfin.out.symm, Below.refl _ _⟩
  have hk := inB_iff.1 h2
  have hk0 := hk.1
  have hk3 := hk.2
  clear hk
  by_cases h3 : 7 < p
  · skip
    have hfin := Lib.hid (polys_no (p := p) (x := x) (k := k) (pts := pts) (vs := vs) (by simp [show ¬ p ≤ 7 by omega]))
    go_enter Try.func34, Try.ntmps34
    go_wp2_with (first | (go_at_call 49; (with_reducible refine (c_impl_IsElement _ _ _).mono ?_); rintro e w' ⟨rfl, rfl⟩) | (go_at_call 51; (with_reducible refine (c_impl_within _ _ _ _).mono ?_); rintro e w' ⟨rfl, rfl⟩) | (go_at_call 46; (with_reducible refine (c_impl_areElements _ _ _ _ _ _ _ HX.out HMX.out).mono ?_); rintro e w' ⟨rfl, rfl⟩) | (go_at_call 46; (with_reducible refine (c_impl_areElements _ _ _ _ _ _ _ HY.out HMY.out).mono ?_); rintro e w' ⟨rfl, rfl⟩))
    go_ret
    exact ⟨ret_int hfin.out.symm, Below.refl _ _⟩
  by_cases h4 : pts.length = vs.length
  case neg =>
    have hfin := Lib.hid (polys_no (p := p) (x := x) (k := k) (pts := pts) (vs := vs) (by simp [h4]))
    have hd : ((pts.length : Int) != (vs.length : Int)) = true := by simp; omega
    have hd' : ((vs.length : Int) != (pts.length : Int)) = true := by simp; omega
    have hd2 : ¬ (pts.length : Int) = (vs.length : Int) := by omega
    have hd3 : ¬ (vs.length : Int) = (pts.length : Int) := by omega
    go_enter Try.func34, Try.ntmps34
    go_wp2_with (first | (go_at_call 49; (with_reducible refine (c_impl_IsElement _ _ _).mono ?_); rintro e w' ⟨rfl, rfl⟩) | (go_at_call 51; (with_reducible refine (c_impl_within _ _ _ _).mono ?_); rintro e w' ⟨rfl, rfl⟩) | (go_at_call 46; (with_reducible refine (c_impl_areElements _ _ _ _ _ _ _ HX.out HMX.out).mono ?_); rintro e w' ⟨rfl, rfl⟩) | (go_at_call 46; (with_reducible refine (c_impl_areElements _ _ _ _ _ _ _ HY.out HMY.out).mono ?_); rintro e w' ⟨rfl, rfl⟩))
    go_ret
    exact ⟨ret_int hfin.out.symm, Below.refl _ _⟩
  have HL := Lib.hid h4
  have hle : pts.length ≤ vs.length := by omega
  have hge : vs.length ≤ pts.length := by omega
  have hd : ((pts.length : Int) != (vs.length : Int)) = false := by simp; omega
  have hd' : ((vs.length : Int) != (pts.length : Int)) = false := by simp; omega
  clear h4
  by_cases h5 : 5 < pts.length
  · skip
    have hfin := Lib.hid (polys_no (p := p) (x := x) (k := k) (pts := pts) (vs := vs) (by simp [show ¬ pts.length ≤ 5 by omega]))
    have hd5 : (5 : Int) < (pts.length : Int) := by omega
    go_enter Try.func34, Try.ntmps34
    go_wp2_with (first | (go_at_call 49; (with_reducible refine (c_impl_IsElement _ _ _).mono ?_); rintro e w' ⟨rfl, rfl⟩) | (go_at_call 51; (with_reducible refine (c_impl_within _ _ _ _).mono ?_); rintro e w' ⟨rfl, rfl⟩) | (go_at_call 46; (with_reducible refine (c_impl_areElements _ _ _ _ _ _ _ HX.out HMX.out).mono ?_); rintro e w' ⟨rfl, rfl⟩) | (go_at_call 46; (with_reducible refine (c_impl_areElements _ _ _ _ _ _ _ HY.out HMY.out).mono ?_); rintro e w' ⟨rfl, rfl⟩))
    go_ret
    exact ⟨ret_int hfin.out.symm, Below.refl _ _⟩
  have hn5 : pts.length ≤ 5 := by omega
  have hd5 : ¬ (5 : Int) < (pts.length : Int) := by omega
  cases h6 : allEl p pts
  · skip
    have hfin := Lib.hid (polys_no (p := p) (x := x) (k := k) (pts := pts) (vs := vs) (by simp [h6]))
    go_enter Try.func34, Try.ntmps34
    go_wp2_with (first | (go_at_call 49; (with_reducible refine (c_impl_IsElement _ _ _).mono ?_); rintro e w' ⟨rfl, rfl⟩) | (go_at_call 51; (with_reducible refine (c_impl_within _ _ _ _).mono ?_); rintro e w' ⟨rfl, rfl⟩) | (go_at_call 46; (with_reducible refine (c_impl_areElements _ _ _ _ _ _ _ HX.out HMX.out).mono ?_); rintro e w' ⟨rfl, rfl⟩) | (go_at_call 46; (with_reducible refine (c_impl_areElements _ _ _ _ _ _ _ HY.out HMY.out).mono ?_); rintro e w' ⟨rfl, rfl⟩))
    go_ret
    exact ⟨ret_int hfin.out.symm, Below.refl _ _⟩
  cases h7 : allEl p vs
  · skip
    have hfin := Lib.hid (polys_no (p := p) (x := x) (k := k) (pts := pts) (vs := vs) (by simp [h7]))
    go_enter Try.func34, Try.ntmps34
    go_wp2_with (first | (go_at_call 49; (with_reducible refine (c_impl_IsElement _ _ _).mono ?_); rintro e w' ⟨rfl, rfl⟩) | (go_at_call 51; (with_reducible refine (c_impl_within _ _ _ _).mono ?_); rintro e w' ⟨rfl, rfl⟩) | (go_at_call 46; (with_reducible refine (c_impl_areElements _ _ _ _ _ _ _ HX.out HMX.out).mono ?_); rintro e w' ⟨rfl, rfl⟩) | (go_at_call 46; (with_reducible refine (c_impl_areElements _ _ _ _ _ _ _ HY.out HMY.out).mono ?_); rintro e w' ⟨rfl, rfl⟩))
    go_ret
    exact ⟨ret_int hfin.out.symm, Below.refl _ _⟩
  obtain ⟨q, rfl⟩ : ∃ q : Nat, p = (q : Int) := ⟨p.toNat, by omega⟩
  obtain ⟨m, rfl⟩ : ∃ m : Nat, k = (m : Int) := ⟨k.toNat, by omega⟩
  have hfin := Lib.hid (polys_yes h1 h2 (by omega) HL.out hn5 h6 h7)
  have H1 := Lib.hid h1
  have hq7 : q ≤ 7 := by omega
  have hq2 : 2 ≤ q := by omega
  have hm3 : m ≤ 3 := by omega
  have hqp : ((q : Int) == 0) = false := by rw [beq_eq_false_iff_ne]; omega
  have hdp : decide ((7 : Int) < (q : Int)) = false := by rw [decide_eq_false_iff_not]; omega
  go_enter Try.func34, Try.ntmps34
  go_wp2_with (first | (go_at_call 49; (with_reducible refine (c_impl_IsElement _ _ _).mono ?_); rintro e w' ⟨rfl, rfl⟩) | (go_at_call 51; (with_reducible refine (c_impl_within _ _ _ _).mono ?_); rintro e w' ⟨rfl, rfl⟩) | (go_at_call 46; (with_reducible refine (c_impl_areElements _ _ _ _ _ _ _ HX.out HMX.out).mono ?_); rintro e w' ⟨rfl, rfl⟩) | (go_at_call 46; (with_reducible refine (c_impl_areElements _ _ _ _ _ _ _ HY.out HMY.out).mono ?_); rintro e w' ⟨rfl, rfl⟩))
  go_loop [11, 12] (fun a i => ∃ j : Nat, j ≤ m ∧ i = .int .i64 j ∧ a = .int .i64 ((q ^ j : Nat) : Int)) (fun _ i => m - (intOf i).toNat)
  case atStart => exact ⟨0, by omega, rfl, by simp⟩
  case round =>
    obtain ⟨j, hj, rfl, rfl⟩ := hrel
    have hpb := pow_bound (p := (q : Int)) (by omega) (by omega) j (by omega)
    rw [pow_cast] at hpb
    obtain ⟨b1, b2⟩ := hpb
    by_cases hlt : j < m
    · have hpb := pow_bound (p := (q : Int)) (by omega) (by omega) (j + 1) (by omega)
      rw [pow_cast] at hpb
      have hst := Lib.hid (show ((q ^ (j + 1) : Nat) : Int) = ((q ^ j : Nat) : Int) * (q : Int) by rw [Nat.pow_succ, Int.natCast_mul])
      rw [hst.out] at hpb
      obtain ⟨d1, d2⟩ := hpb
      generalize ((q ^ j : Nat) : Int) = s at b1 b2 d1 d2 hst
      have hlt' : (j : Int) < (m : Int) := by omega
      go_wp2_with fail
      go_round
      case rel => exact ⟨j + 1, by omega, by go_num, by rw [hst.out]⟩
      case measure => simp [intOf]; omega
    · obtain rfl : j = m := by omega
      have hAll := Lib.hid (show cntP q pts vs [x] j = cntTo q pts vs [x] j (q ^ j) from rfl)
      generalize hall : q ^ j = all at b1 b2 hAll
      have HALL := Lib.hid hall
      clear hall
      go_wp2_with fail
      go_loopw [13, 14] (fun s i wr => ∃ n : Nat, n ≤ all ∧ i = .int .i64 n ∧ s = .int .i64 (cntTo q pts vs [x] j n) ∧ Below w.heap.size w wr) (fun _ i _ => all - (intOf i).toNat)
      case atStart => exact ⟨0, by omega, rfl, rfl, Below.refl _ _⟩
      case round =>
        obtain ⟨n, hn, rfl, rfl, hbel⟩ := hrel
        obtain ⟨t0, t1⟩ := cntTo_bound q pts vs [x] j n
        by_cases hnl : n < all
        · have hst := Lib.hid (cntTo_succ q pts vs [x] j n)
          generalize cntTo q pts vs [x] j n = s at t0 t1 hst
          have hnl' : (n : Int) < (all : Int) := by omega
          have hn0 : (0 : Int) ≤ (n : Int) := by omega
          generalize hww : wr = wz at *
          clear hww
          go_wp2_with fail
          go_loopw [15, 16, 17] (fun v i mm wr2 => ∃ a : Nat, a ≤ j ∧ i = .int .i64 a ∧ mm = .int .i64 ((n / q ^ a : Nat) : Int) ∧ wr2.ownsRow wz.heap.size 3 1 v (a + 1) (vals (x :: digs q a n)) ∧ Below wz.heap.size wz wr2) (fun _ i _ _ => j - (intOf i).toNat)
          case atStart => exact ⟨0, by omega, rfl, by simp, World.ownsRow_lit wz #[.int .i64 x] 1 (Nat.le_refl _) (by simp [maxLen]) rfl, (Below.refl _ _).alloc (Nat.le_refl _) _⟩
          case round =>
            obtain ⟨a, ha, rfl, rfl, hown, hbr⟩ := hrel
            by_cases hal : a < j
            · have HOWN := Lib.hid hown
              clear hown
              have hdv := Lib.hid (digs_vals q x a n)
              have hdd := Lib.hid (show ((n / q ^ (a + 1) : Nat) : Int) = ((n / q ^ a : Nat) : Int) / (q : Int) by rw [Nat.pow_succ, ← Nat.div_div_eq_div_mul, Int.natCast_ediv])
              have hmm := Lib.hid (show ((n / q ^ a % q : Nat) : Int) = ((n / q ^ a : Nat) : Int) % (q : Int) by rw [Int.natCast_emod])
              rw [hmm.out] at hdv
              have hle0 : n / q ^ a ≤ n := Nat.div_le_self _ _
              have hle1 : n / q ^ (a + 1) ≤ n := Nat.div_le_self _ _
              have hdw := Lib.hid (show wrap64 ((n / q ^ (a + 1) : Nat) : Int) = ((n / q ^ (a + 1) : Nat) : Int) from wrap64_small hle1 (by omega))
              clear hle1
              rw [hdd.out] at hdw
              generalize n / q ^ a = u at hdv hdd hle0 hdw
              have hu0 : (0 : Int) ≤ (u : Int) := by omega
              have hu1 : (u : Int) ≤ 2197 := by omega
              have hal' : (a : Int) < (j : Int) := by omega
              go_wp2_with (at_builtin; refine wpList_append_own _ rfl (.tmp 79) (.tmp 83) 22 rfl wz.heap.size 3 i0 (.int .i64 0) 1 8 Try.underlying22 hi hz0 HZ.out.1 HZ.out.2 rfl (by decide) _ _ _ rfl (HOWN.out.alloc _) ⟨_, 0, none⟩ 1 1 [.int .i64 _] rfl rfl (cell_one_new _ _ _) (by simp [Value.oneCell']) (by unfold maxLen; omega) (by omega) (by have := hbr.size; simp; omega) ?_; intro v' w6 hown6 hgrow6 _)
              have hb3 := below_app hbr HOWN.out hgrow6
              go_roundw
              case rel => exact ⟨a + 1, by omega, by go_num, by rw [hdd.out]; exact congrArg _ hdw.out, by rw [← hdv.out]; exact hown6, hb3⟩
              case measure => simp [intOf]; omega
            · obtain rfl : a = j := by omega
              obtain ⟨gv, cv, rfl, hsv⟩ := own_sliceP hown (by omega)
              have HSV := Lib.hid hsv
              have hal' : ¬ (a : Int) < (a : Int) := by omega
              have HM5 := Lib.hid (show a + 1 ≤ maxLen by unfold maxLen; omega)
              have hwb := hbel.size
              have hbr0 := hbr
              have hind := Lib.hid (show ind (q : Int) pts vs ([x] ++ digs q a n) = if fitsTo (q : Int) pts vs (x :: digs q a n) pts.length then 1 else 0 from rfl)
              rw [hind.out] at hst
              clear hown hsv hbr hind
              generalize x :: digs q a n = cs at hst HSV
              generalize hw2 : wr = wy at *
              clear hw2
              go_wp2_with fail
              go_loopw [18, 90] (fun b i wr3 => ∃ e : Nat, e ≤ pts.length ∧ i = .int .i64 e ∧ b = .bool (fitsTo (q : Int) pts vs cs e) ∧ Below wy.heap.size wy wr3) (fun _ i _ => pts.length - (intOf i).toNat)
              case atStart => exact ⟨0, by omega, rfl, rfl, Below.refl _ _⟩
              case round =>
                obtain ⟨e, he, rfl, rfl, hbr3⟩ := hrel
                by_cases hel : e < pts.length
                · have hBY := below_next hbel (below_next hbr0 hbr3)
                  obtain ⟨g0, o0, rfl, _, hc0⟩ := (HX.out.below_le hBY hB).at_ hel
                  obtain ⟨g1, o1, rfl, _, hc1⟩ := (HY.out.below_le hBY hB').at_ (k := e) (by omega)
                  have hfs := Lib.hid (fitsTo_succ (q : Int) pts vs cs e)
                  have HCS := Lib.hid (SliceI.below_le HSV.out hbr3 (Nat.le_refl _))
                  clear hBY
                  generalize fitsTo (q : Int) pts vs cs e = b at hfs
                  have hel' : (e : Int) < (pts.length : Int) := by omega
                  have hel2 : (e : Int) < (vs.length : Int) := by omega
                  have he0 : (0 : Int) ≤ (e : Int) := by omega
                  cases b
                  · have hok := Lib.hid (show fitsTo (q : Int) pts vs cs (e + 1) = false by rw [hfs.out]; rfl)
                    clear hfs
                    go_wp2_with fail
                    go_quiet (fail)
                    go_wp2_with fail
                    go_roundw
                    case rel => exact ⟨e + 1, by omega, by go_num, by rw [hok.out], below_drewN hbr3 _⟩
                    case measure => simp [intOf]; omega
                  · generalize pts.getD e 0 = px at hc0 hfs
                    generalize vs.getD e 0 = vx at hc1 hfs
                    have HPA := Lib.hid (fun (m : Nat) => c_impl_PolyAt (q : Int) px (some ⟨gv, 0, none⟩) (a + 1) cv _ cs (wr.drewN m) (SliceI.keep HCS.out (fun _ _ _ => rfl)) HM5.out)
                    generalize polyAt (q : Int) cs px = pv at hfs HPA
                    cases hpv : (pv == vx)
                    · have hpv' : ¬ pv = vx := by simpa using hpv
                      have hok := Lib.hid (show fitsTo (q : Int) pts vs cs (e + 1) = false by rw [hfs.out, hpv]; rfl)
                      clear hfs
                      go_wp2_with fail
                      go_quiet ((go_at_call 20; exact Calls.quiet_of_same ((HPA.out _).mono fun _ _ h => ⟨h.1, h.2.symm⟩)))
                      go_wp2_with fail
                      go_roundw
                      case rel => exact ⟨e + 1, by omega, by go_num, by rw [hok.out], below_drewN hbr3 _⟩
                      case measure => simp [intOf]; omega
                    · have hpv' : pv = vx := by simpa using hpv
                      have hok := Lib.hid (show fitsTo (q : Int) pts vs cs (e + 1) = true by rw [hfs.out, hpv]; rfl)
                      clear hfs hpv
                      subst hpv'
                      go_wp2_with fail
                      go_quiet ((go_at_call 20; exact Calls.quiet_of_same ((HPA.out _).mono fun _ _ h => ⟨h.1, h.2.symm⟩)))
                      go_wp2_with fail
                      go_roundw
                      case rel => exact ⟨e + 1, by omega, by go_num, by rw [hok.out], below_drewN hbr3 _⟩
                      case measure => simp [intOf]; omega
                · obtain rfl : e = pts.length := by omega
                  have hBY := below_next hbel (below_next hbr0 hbr3)
                  have hel' : ¬ (pts.length : Int) < (pts.length : Int) := by omega
                  cases hf : fitsTo (q : Int) pts vs cs pts.length
                  · rw [hf] at hst
                    have hst' := Lib.hid (hst.out.trans (Int.add_zero _))
                    clear hst
                    go_wp2_with fail
                    go_roundw
                    case rel => exact ⟨n + 1, by omega, by go_num, by rw [hst'.out], hBY⟩
                    case measure => simp [intOf]; omega
                  · rw [hf] at hst
                    have hst' := Lib.hid (show cntTo q pts vs [x] a (n + 1) = s + 1 from hst.out)
                    clear hst
                    go_wp2_with fail
                    go_roundw
                    case rel => exact ⟨n + 1, by omega, by go_num, by rw [hst'.out], hBY⟩
                    case measure => simp [intOf]; omega
        · obtain rfl : n = all := by omega
          have hres := Lib.hid (hfin.out.trans hAll.out)
          generalize cntTo q pts vs [x] j n = s at t0 t1 hres
          have hnl' : ¬ (n : Int) < (n : Int) := by omega
          go_wp2_with fail
          go_ret
          exact ⟨ret_int hres.out.symm, hbel⟩
end Go.Proofs.Ytagocjdodgolkaa
