/- The walk of the reference that makes commitments. -/
import Derived.Test.YtdmaklgpgdcnpaaRows
import Derived.Test.YtdmaklgpgdcnpaaPlain
import Derived.Test.YtdmaklgpgdcnpaaMem
import Derived.Test.YtdmaklgpgdcnpaaWords
import Derived.Test.YtdmaklgpgdcnpaaList
import Derived.Test.YtdmaklgpgdcnpaaCommit
import Derived.WalkKit
import Derived.WalkSpells
import Derived.WalkLawsBesides
import Derived.Handy
import Derived.RegionTactic
import Derived.BigQuiet
import Derived.Deep.QuietTactic
import Derived.Deep.RegionWith
import Derived.Deep.RegionHeld3
import Derived.Deep.Onto
import Derived.Lib.Hide
import Derived.Test.YtdmaklgpgdcnpaaTossNew
import Derived.RegionTactic
import Derived.Deep.RegionHeld3
import Derived.Deep.RegionLaw
import Derived.Deep.AppendLies
import Derived.OwnWalk
import Derived.Maps.AppendAt
namespace Go.Proofs.Ytdmaklgpgdcnpaa
open Go.RowKit
theorem ownNilAt {W : World} {base g : Nat} (h : W.heap.size = g) (hb : base ≤ g) : (W.alloc (.cells #[] 3)).ownsRow base 3 1 (.slice (some ⟨g, 0, none⟩) 0 0) 0 [] := by
  subst h
  exact World.ownsRow_lit W #[] 0 hb (by simp [maxLen]) rfl
theorem litNe {a b n c : Nat} (h : a ≠ b) : some a ≠ Value.ownBlock (.slice (some ⟨b, 0, none⟩) n c) := fun e => h (Option.some.inj e)
theorem ownSlice {w : World} {lo n : Nat} {v : Value} {xs : List Int} (h : w.ownsRow lo 3 1 v n (vals xs)) (hn : 0 < n) : ∃ g c, v = .slice (some ⟨g, 0, none⟩) n c ∧ SliceI w w.heap.size (some ⟨g, 0, none⟩) n xs := by
  rcases h.2 with ⟨_, h0⟩ | ⟨g, c, _, rfl, _⟩
  · omega
  · exact ⟨g, c, rfl, OwnI.slice (lo := lo) (c := c) h⟩
set_option maxHeartbeats 8000000 in
theorem c_spec_TossNew (A A' : Option Addr) (c c' B : Nat) (vs ns : List Int) (w : World) (hx : SliceI w B A vs.length vs) (hy : SliceI w B A' ns.length ns) (hB : B ≤ w.heap.size) (hm0 : vs.length ≤ 1048576) (hm1 : ns.length ≤ 1048576) :
    Calls Try.prog 18 #[.slice A vs.length c, .slice A' ns.length c'] w (GivesTN w vs ns) := by
  obtain ⟨i0, hi, hz0, hz1, hz2⟩ := info_parts int_info
  have HZ := Lib.hid (And.intro hz1 hz2)
  have HX := Lib.hid hx
  have HY := Lib.hid hy
  clear hz1 hz2 hx hy
  cases h1 : inB vs.length 1 5
  · skip
    have hno := Lib.hid (show tossNewOk vs ns = false by simp [tossNewOk, h1])
    go_enter Try.func18, Try.ntmps18
    go_wp2_with (go_at_call 53; (with_reducible refine (c_spec_l01In _ _ _ _).mono ?_); rintro e w' ⟨rfl, rfl⟩)
    refine bodyPost_ret (v := .tuple #[.agg #[.slice none 0 0, .slice none 0 0, .slice none 0 0], .bool false]) (by simp [results, Try.results18, go_sem, *]) rfl ?_
    exact GivesTN.no hno.out (by go_grown)
  by_cases h2 : vs.length = ns.length
  case neg =>
    have hd : ((ns.length : Int) != (vs.length : Int)) = true := by rw [bne_iff_ne]; omega
    have hno := Lib.hid (show tossNewOk vs ns = false by simp [tossNewOk, h2])
    go_enter Try.func18, Try.ntmps18
    go_wp2_with (go_at_call 53; (with_reducible refine (c_spec_l01In _ _ _ _).mono ?_); rintro e w' ⟨rfl, rfl⟩)
    refine bodyPost_ret (v := .tuple #[.agg #[.slice none 0 0, .slice none 0 0, .slice none 0 0], .bool false]) (by simp [results, Try.results18, go_sem, *]) rfl ?_
    exact GivesTN.no hno.out (by go_grown)
  have hd : ((ns.length : Int) != (vs.length : Int)) = false := by rw [bne_eq_false_iff_eq]; omega
  have H2 := Lib.hid h2
  have h15 := inB_iff.1 h1
  have h10 : 0 < vs.length := by omega
  have h11 : 0 < ns.length := by omega
  have h55 : vs.length ≤ 5 := by omega
  have H1 := Lib.hid h1
  obtain ⟨bX, oX, rfl, hbX, _⟩ := HX.out.at_ h10
  obtain ⟨bY, oY, rfl, hbY, _⟩ := HY.out.at_ h11
  have HNX := Lib.hid (SliceI.news (SliceI.alloc0 (o := .cells #[] 3) (SliceI.alloc0 (o := .cells #[.slice none 0 0, .slice none 0 0, .slice none 0 0] 27) HX.out)))
  clear h2 h15
  go_enter Try.func18, Try.ntmps18
  go_wp2_with (first | (go_at_call 53; (with_reducible refine (c_spec_l01In _ _ _ _).mono ?_); rintro e w' ⟨rfl, rfl⟩) | (at_builtin; refine wpList_append_own _ rfl (.tmp 20) (.tmp 21) 22 rfl (w.heap.size + 1) 3 i0 (.int .i64 0) 1 8 Try.underlying22 hi hz0 HZ.out.1 HZ.out.2 rfl (by decide) _ _ _ rfl (ownNilAt (W := w.alloc (.cells #[.slice none 0 0, .slice none 0 0, .slice none 0 0] 27)) (by simp) (Nat.le_refl _)) ⟨bX, oX, none⟩ vs.length _ (vals vs) rfl (by simp [vals]) HNX.out (by simp [vals, Value.oneCell']) (by unfold maxLen; omega) (by omega) (by simp) ?_; intro v1 w1 hown1 hgrow1 _; have o1 : w1.ownsRow (w.heap.size + 1) 3 1 v1 vs.length (vals vs) := (by simpa using hown1); have B1 : Below w.heap.size w w1 := Below.grown (((Below.refl _ _).alloc (Nat.le_refl _) _).alloc (by simp) _) hgrow1 (by simp <;> omega) (fun k hk => by cases hk; exact Nat.le_succ _); have b41 := boxKept ((Box.new w 27 #[.slice none 0 0, .slice none 0 0, .slice none 0 0]).alloc _) hgrow1 (litNe (by omega)); have z41 := b41.lt; obtain ⟨ga, ca, rfl, hs0⟩ := ownSlice o1 h10; have HY1 := Lib.hid (HY.out.below_le B1 hB); have HX1 := Lib.hid (HX.out.below_le B1 hB); have HNY := Lib.hid (SliceI.news (SliceI.alloc0 (o := .cells #[] 3) HY1.out)); clear hown1 hgrow1) | (at_builtin; refine wpList_append_own _ rfl (.tmp 23) (.tmp 24) 22 rfl w1.heap.size 3 i0 (.int .i64 0) 1 8 Try.underlying22 hi hz0 HZ.out.1 HZ.out.2 rfl (by decide) _ _ _ rfl (ownNilAt (W := w1) rfl (Nat.le_refl _)) ⟨bY, oY, none⟩ ns.length _ (vals ns) rfl (by simp [vals]) HNY.out (by simp [vals, Value.oneCell']) (by unfold maxLen; omega) (by omega) (by simp) ?_; intro v2 w2 hown2 hgrow2 _; have o2 : w2.ownsRow w1.heap.size 3 1 v2 ns.length (vals ns) := (by simpa using hown2); have B2 : Below w1.heap.size w1 w2 := Below.grown ((Below.refl _ _).alloc (Nat.le_refl _) _) hgrow2 (by simp) (fun k hk => by cases hk; exact Nat.le_refl _); obtain ⟨gb, cb, rfl, hs1⟩ := ownSlice o2 h11; clear hown2 hgrow2))
  have hs12 := B2.size
  have hB1 := Nat.le_trans hB B1.size
  have HY2 := Lib.hid (HY1.out.below_le B2 hB1)
  have HX2 := Lib.hid (HX1.out.below_le B2 hB1)
  have O0 : Hid (OwnI w2 (w.heap.size + 1) (some ⟨ga, 0, none⟩) vs.length ca vs) := Lib.hid (OwnI.below o1 B2)
  have O1 : Hid (OwnI w2 w1.heap.size (some ⟨gb, 0, none⟩) ns.length cb ns) := Lib.hid o2
  have L0 := Lib.hid (OwnI.lt O0.out)
  have L1 := Lib.hid (OwnI.lt O1.out)
  have hap : Ap (some ⟨ga, 0, none⟩) (some ⟨gb, 0, none⟩) := fun a b ea eb e => by have := OwnI.lt (show OwnI w1 (w.heap.size + 1) (some ⟨ga, 0, none⟩) vs.length ca vs from o1) a ea; have := OwnI.ge O1.out b eb; omega
  have HAP := Lib.hid hap
  have B4 := Lib.hid (b41.below B2)
  have hw2 : w.heap.size < w2.heap.size := by omega
  have hB2 := Nat.le_trans hB1 hs12
  have BEL := Lib.hid (below_next B1 B2)
  have g0 := Lib.hid (show w.heap.size + 1 ≤ w1.heap.size by omega)
  clear o1 o2 hap HX1 HY1 b41 B1 B2 hs0 hs1 HNX HNY
  have b4c := B4.out.cell
  have b4f := B4.out.free
  go_loopw [7] (fun i wr => ∃ (k : Nat) (Av : Option Addr) (cv : Nat), k ≤ vs.length ∧ i = .int .i64 k ∧ Box wr w2.heap.size 27 #[.slice (some ⟨ga, 0, none⟩) vs.length ca, .slice (some ⟨gb, 0, none⟩) ns.length cb, .slice Av k cv] ∧ wr.ownsRow (w2.heap.size + 1) 3 1 (.slice Av k cv) k (vals (tossCs vs ns k)) ∧ tossIn vs ns k = true ∧ Below w2.heap.size w2 wr) (fun i _ => vs.length - (intOf i).toNat)
  case atStart => exact ⟨0, none, 0, by omega, rfl, Box.new _ _ _, World.ownsRow_nil _ _ _ _, rfl, (Below.refl _ _).alloc (Nat.le_refl _) _⟩
  case round =>
    obtain ⟨k, Av, cv, hk, rfl, hbx, hown, hin, hbr⟩ := hrel
    have BELR := Lib.hid (below_next BEL.out hbr)
    have hbr4 := B4.out.below hbr
    have HBX := Lib.hid hbx
    have HOWN := Lib.hid hown
    have HIN := Lib.hid hin
    have r4c := hbr4.cell
    have r4f := hbr4.free
    have rbc := hbx.cell 2
    have rbf := hbx.free
    have hlr := hbx.lt
    have hszr := hbr.size
    simp at rbc
    clear hbx hown hin b4c b4f
    by_cases hlt : k < vs.length
    · have hlt2 : k < ns.length := by rw [← H2.out]; exact hlt
      obtain ⟨b, off, hbe, hbB, hc⟩ := (HX2.out.below_le hbr hB2).at_ hlt
      simp only [Option.some.injEq, Addr.mk.injEq, and_true] at hbe
      obtain ⟨rfl, rfl⟩ := hbe
      obtain ⟨b', off', hbe, hbB', hc'⟩ := (HY2.out.below_le hbr hB2).at_ hlt2
      simp only [Option.some.injEq, Addr.mk.injEq, and_true] at hbe
      obtain ⟨rfl, rfl⟩ := hbe
      have hst := Lib.hid (tossCs_succ vs ns k)
      have hinx := Lib.hid (tossIn_succ vs ns k)
      have hbad := Lib.hid (fun (h : pairOk (vs.getD k 0) (ns.getD k 0) = false) => show tossNewOk vs ns = false by simp [tossNewOk, tossIn_bad (vs := vs) (ns := ns) hlt h])
      generalize vs.getD k 0 = x at hc hst hinx hbad
      generalize ns.getD k 0 = y at hc' hst hinx hbad
      have hi0 : (0 : Int) ≤ (k : Int) := by omega
      have hi1 : (k : Int) < (vs.length : Int) := by omega
      have hi2 : (k : Int) < (ns.length : Int) := by omega
      have HPA := Lib.hid (fun W => c_spec_l05Pair x y W)
      cases hp : pairOk x y
      · have hno := Lib.hid (hbad.out hp)
        rw [hp] at HPA
        clear hbad hst hinx hp
        go_wp2_with fail
        go_region_held3 (fun W => W.cell? ⟨bX, oX + k, none⟩ = some (.int .i64 x) ∧ W.cell? ⟨bY, oY + k, none⟩ = some (.int .i64 y)) (first | exact ⟨hc, hc'⟩) (first | (go_at_call 54; (with_reducible refine (HPA.out _).mono ?_); rintro e w' ⟨rfl, rfl⟩))
        go_wp2_with fail
        refine bodyPost_ret (v := .tuple #[.agg #[.slice none 0 0, .slice none 0 0, .slice none 0 0], .bool false]) (by simp [results, Try.results18, go_sem, *]) rfl ?_
        exact GivesTN.no hno.out (by (go_grown; exact BELR.out))
      rw [hp] at HPA
      have HP := Lib.hid hp
      clear hbad hp r4c r4f
      go_wp2_with fail
      go_region_held3 (fun W => W.cell? ⟨bX, oX + k, none⟩ = some (.int .i64 x) ∧ W.cell? ⟨bY, oY + k, none⟩ = some (.int .i64 y)) (first | exact ⟨hc, hc'⟩) (first | (go_at_call 54; (with_reducible refine (HPA.out _).mono ?_); rintro e w' ⟨rfl, rfl⟩))
      have HOWN2 := Lib.hid (World.ownsRow.drew HOWN.out)
      have HBX2 := Lib.hid (Box.drew HBX.out)
      have hbr2 := Below.drew hbr
      have hcq : wr.drew.cell? ⟨bX, oX + k, none⟩ = some (.int .i64 x) := hc
      have hcq' : wr.drew.cell? ⟨bY, oY + k, none⟩ = some (.int .i64 y) := hc'
      have rbc2 : wr.drew.cell? ⟨w2.heap.size, 2, none⟩ = some (.slice Av k cv) := rbc
      have rbf2 : ∀ i, wr.drew.frozen? ⟨w2.heap.size, i, none⟩ = false := rbf
      have hlr2 : w2.heap.size < wr.drew.heap.size := hlr
      have hszr2 : w2.heap.size ≤ wr.drew.heap.size := hszr
      clear HOWN HBX hbr hc hc' rbc rbf hlr hszr BELR hbr4
      generalize wr.drew = wr at *
      have HOWN := HOWN2
      have HBX := HBX2
      have hbr := hbr2
      have rbc := rbc2
      have rbf := rbf2
      clear HOWN2 HBX2 hbr2 rbc2 rbf2
      have HCOM := Lib.hid (fun W => c_spec_Commit x y W)
      generalize commitF x y = cm at hst HCOM
      go_wp2_with fail
      go_region_law (first | (go_simp; go_at_call 55; (with_reducible refine (HCOM.out _).mono ?_); rintro e w' ⟨rfl, rfl⟩) | (refine step_append_lies _ rfl (.tmp 45) (.tmp 55) 22 rfl (w2.heap.size + 1) 3 i0 (.int .i64 0) 1 8 Try.underlying22 hi hz0 HZ.out.1 HZ.out.2 rfl (by decide) _ k _ rfl ((World.ownsRow.drew HOWN.out).alloc _) ⟨_, 0, none⟩ 1 1 [.int .i64 cm] rfl rfl (cell_one_new _ _ _) (by simp [Value.oneCell']) (by omega) (by unfold maxLen; omega) (by omega) (by simp; omega) _ rfl ?_; intro g2 cap2 w5 hown5 hgrow5 _ _; have bx5 := boxKept ((Box.drew HBX.out).alloc _) hgrow5 (ownNe HOWN.out (by omega)); have x5c := bx5.cell; have x5f := bx5.free; have x5l := bx5.lt; have bel5 := Below.grown ((Below.drew hbr).alloc (Below.drew hbr).size _) hgrow5 (by simp; omega) (fun k hk => by have := (HOWN.out.lt k hk).1; omega); clear rbc rbf hgrow5))
      all_goals
        go_wp2_with fail
        go_roundw
        case rel => exact ⟨k + 1, some ⟨g2, 0, none⟩, cap2, by omega, by go_num, by simpa using bx5.set 2 _, by rw [← hst.out]; exact own_set3' hown5 (by omega), by rw [hinx.out, HIN.out, HP.out]; rfl, bel5.setCell (Nat.le_refl _) _⟩
        case measure => simp [intOf]; omega
    · obtain rfl : k = vs.length := by omega
      have hyes := Lib.hid (show tossNewOk vs ns = true by unfold tossNewOk; rw [H1.out, HIN.out, decide_eq_true H2.out]; rfl)
      have hi1 : ¬ (vs.length : Int) < (vs.length : Int) := by omega
      have rb0 := HBX.out.cell 0
      have rb1 := HBX.out.cell 1
      simp at rb0 rb1
      go_wp2_with fail
      refine bodyPost_ret (v := .tuple #[.agg #[.slice (some ⟨ga, 0, none⟩) vs.length ca, .slice (some ⟨gb, 0, none⟩) ns.length cb, .slice Av vs.length cv], .bool true]) (by simp [results, Try.results18, go_sem, *]) rfl ?_
      have lw := g0.out
      have O0r := OwnI.below O0.out hbr
      have O1r := OwnI.below O1.out hbr
      refine GivesTN.yes hyes.out (World.ownsRow.mono (own_set3 O0r (by omega)) (by omega)) (World.ownsRow.mono (own_set3 O1r (by omega)) (by omega)) (own_set3 HOWN.out (by omega)) HAP.out (by omega) (fun a e => by have := L0.out a e; omega) (fun a e => by have := L1.out a e; omega) (by (go_grown; exact BELR.out))
end Go.Proofs.Ytdmaklgpgdcnpaa
