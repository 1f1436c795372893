/- The walk that makes commitments. -/
import Derived.Test.YtknepofclgjmiaaRows
import Derived.Test.YtknepofclgjmiaaPlain
import Derived.Test.YtknepofclgjmiaaMem
import Derived.Test.YtknepofclgjmiaaWords
import Derived.Test.YtknepofclgjmiaaList
import Derived.Test.YtknepofclgjmiaaCommit
import Derived.WalkKit
import Derived.WalkSpells
import Derived.WalkLawsBesides
import Derived.Handy
import Derived.RegionTactic
import Derived.BigQuiet
import Derived.Deep.QuietTactic
import Derived.Deep.RegionWith
import Derived.Deep.RegionHeld3
import Derived.Deep.Onto
import Derived.Lib.Hide
import Derived.Test.YtknepofclgjmiaaToss
import Derived.Test.YtknepofclgjmiaaShares
import Derived.RegionTactic
import Derived.Deep.RegionLaw
import Derived.Deep.AppendLies
import Derived.OwnWalk
import Derived.Maps.AppendAt
namespace Go.Proofs.Ytknepofclgjmiaa
open Go.RowKit
def tossIn (vs ns : List Int) (k : Nat) : Bool := (List.range k).all fun i => pairOk (vs.getD i 0) (ns.getD i 0)
def tossCs (vs ns : List Int) (k : Nat) : List Int := (List.range k).map fun i => commitF (vs.getD i 0) (ns.getD i 0)
theorem tossIn_succ (vs ns : List Int) (k : Nat) : tossIn vs ns (k + 1) = (tossIn vs ns k && pairOk (vs.getD k 0) (ns.getD k 0)) := by simp [tossIn, List.range_succ]
theorem tossCs_succ (vs ns : List Int) (k : Nat) : vals (tossCs vs ns k) ++ [.int .i64 (commitF (vs.getD k 0) (ns.getD k 0))] = vals (tossCs vs ns (k + 1)) := by simp [tossCs, vals, List.range_succ]
theorem tossCs_len (vs ns : List Int) (k : Nat) : (tossCs vs ns k).length = k := by simp [tossCs]
theorem tossIn_bad {vs ns : List Int} {k n : Nat} (hk : k < n) (h : pairOk (vs.getD k 0) (ns.getD k 0) = false) : tossIn vs ns n = false := by
  unfold tossIn
  rw [List.all_eq_false]
  exact ⟨k, List.mem_range.2 hk, by rw [h]; exact Bool.false_ne_true⟩
def tossNewOk (vs ns : List Int) : Bool := inB vs.length 1 5 && decide (vs.length = ns.length) && tossIn vs ns vs.length
def tossV (vs ns : List Int) : List Int := if tossNewOk vs ns then vs else []
def tossN (vs ns : List Int) : List Int := if tossNewOk vs ns then ns else []
def tossC (vs ns : List Int) : List Int := if tossNewOk vs ns then tossCs vs ns vs.length else []
def Ap (A B : Option Addr) : Prop := ∀ a b, A = some a → B = some b → a.block ≠ b.block
def GivesTN (w : World) (vs ns : List Int) (e : Ending) (w' : World) : Prop :=
  ∃ A0 c0 A1 c1 A2 c2, e = .returned (.tuple #[.agg #[.slice A0 (tossV vs ns).length c0, .slice A1 (tossN vs ns).length c1, .slice A2 (tossC vs ns).length c2], .bool (tossNewOk vs ns)]) ∧ OwnI w' w.heap.size A0 (tossV vs ns).length c0 (tossV vs ns) ∧ OwnI w' w.heap.size A1 (tossN vs ns).length c1 (tossN vs ns) ∧ OwnI w' w.heap.size A2 (tossC vs ns).length c2 (tossC vs ns) ∧ Ap A0 A1 ∧ Ap A0 A2 ∧ Ap A1 A2 ∧ Below w.heap.size w w'
theorem GivesTN.no {w w' : World} {vs ns : List Int} (h : tossNewOk vs ns = false) (hb : Below w.heap.size w w') : GivesTN w vs ns (.returned (.tuple #[.agg #[.slice none 0 0, .slice none 0 0, .slice none 0 0], .bool false])) w' := by
  refine ⟨none, 0, none, 0, none, 0, ?_, ?_, ?_, ?_, (fun _ _ e => by cases e), (fun _ _ e => by cases e), (fun _ _ e => by cases e), hb⟩
  · simp [tossV, tossN, tossC, h]
  · simp only [tossV, h]; exact World.ownsRow_nil _ _ _ _
  · simp only [tossN, h]; exact World.ownsRow_nil _ _ _ _
  · simp only [tossC, h]; exact World.ownsRow_nil _ _ _ _
theorem GivesTN.yes {w w' : World} {vs ns : List Int} {A0 A1 : Option Addr} {c0 c1 lo : Nat} {v : Value} (h : tossNewOk vs ns = true) (o0 : OwnI w' w.heap.size A0 vs.length c0 vs) (o1 : OwnI w' w.heap.size A1 ns.length c1 ns) (o2 : w'.ownsRow lo 3 1 v vs.length (vals (tossCs vs ns vs.length)))
    (h01 : Ap A0 A1) (hlo : w.heap.size ≤ lo) (l0 : ∀ a, A0 = some a → a.block < lo) (l1 : ∀ a, A1 = some a → a.block < lo) (hb : Below w.heap.size w w') : GivesTN w vs ns (.returned (.tuple #[.agg #[.slice A0 vs.length c0, .slice A1 ns.length c1, v], .bool true])) w' := by
  obtain ⟨A2, c2, he, o2', _⟩ := GivesI.of (w := w) (ys := tossCs vs ns vs.length) (World.ownsRow.mono o2 hlo) hb
  rw [tossCs_len] at he o2'
  simp only [Ending.returned.injEq] at he
  subst he
  have g2 : ∀ b, A2 = some b → lo ≤ b.block := fun b e => by subst e; exact (World.ownsRow.lt o2 b.block rfl).1
  refine ⟨A0, c0, A1, c1, A2, c2, ?_, ?_, ?_, ?_, h01, (fun a b ea eb e => by have := l0 a ea; have := g2 b eb; omega), (fun a b ea eb e => by have := l1 a ea; have := g2 b eb; omega), hb⟩
  · simp [tossV, tossN, tossC, h, tossCs_len]
  · simp only [tossV, h, if_true]; exact o0
  · simp only [tossN, h, if_true]; exact o1
  · simp only [tossC, h, if_true]; rw [tossCs_len]; exact o2'
theorem OwnI.setO {w : World} {lo n c : Nat} {A : Option Addr} {xs : List Int} {p : Addr} {u : Value} (h : OwnI w lo A n c xs) (hp : p.block < lo) : OwnI (w.setCell p u) lo A n c xs :=
  World.ownsRow.kept (row := some p.block) h ⟨rfl, rfl, rfl, by simp, fun k _ hk => Below.heap_setCell w p u k fun e => hk (by rw [e])⟩ (.inr fun e => by have := (World.ownsRow.lt h p.block e).1; omega)
theorem own_set3 {w : World} {lo n g : Nat} {v : Value} {xs : List Value} {u u' u'' : Value} (h : w.ownsRow lo 3 1 v n xs) (hg : g < lo) : (((w.setCell ⟨g, 0, none⟩ u).setCell ⟨g, 1, none⟩ u').setCell ⟨g, 2, none⟩ u'').ownsRow lo 3 1 v n xs := by
  have far : ∀ {w : World} {p : Addr} {u : Value}, w.ownsRow lo 3 1 v n xs → p.block < lo → (w.setCell p u).ownsRow lo 3 1 v n xs := fun {w p u} h hp =>
    World.ownsRow.kept (row := some p.block) h ⟨rfl, rfl, rfl, by simp, fun k _ hk => Below.heap_setCell w p u k fun e => hk (by rw [e])⟩ (.inr fun e => by have := (h.lt p.block e).1; omega)
  exact far (far (far h hg) hg) hg
theorem own_set3' {w : World} {lo n g : Nat} {v : Value} {xs : List Value} {u : Value} {i : Nat} (h : w.ownsRow lo 3 1 v n xs) (hg : g < lo) : (w.setCell ⟨g, i, none⟩ u).ownsRow lo 3 1 v n xs :=
  World.ownsRow.kept (row := some g) h ⟨rfl, rfl, rfl, by simp, fun k _ hk => Below.heap_setCell w ⟨g, i, none⟩ u k fun e => hk (by rw [e])⟩ (.inr fun e => by have := (h.lt g e).1; omega)
theorem boxKept {w w' : World} {g : Nat} {t : TypeId} {cs : Array Value} {row : Option Nat} (h : Box w g t cs) (hg : w.grownBy w' row) (hne : some g ≠ row) : Box w' g t cs := (hg.block g h.lt hne).trans h
theorem ownNe {w : World} {lo g : Nat} {e : TypeId} {v : Value} {n : Nat} {xs : List Value} (h : w.ownsRow lo e 1 v n xs) (hg : g < lo) : some g ≠ v.ownBlock := fun e => by
  have := (h.lt g e.symm).1; omega
set_option maxHeartbeats 8000000 in
theorem c_impl_TossNew (A A' : Option Addr) (c c' B : Nat) (vs ns : List Int) (w : World) (hx : SliceI w B A vs.length vs) (hy : SliceI w B A' ns.length ns) (hB : B ≤ w.heap.size) (hm0 : vs.length ≤ 1048576) (hm1 : ns.length ≤ 1048576) :
    Calls Try.prog 19 #[.slice A vs.length c, .slice A' ns.length c'] w (GivesTN w vs ns) := by
  obtain ⟨i0, hi, hz0, hz1, hz2⟩ := info_parts int_info
  have HZ := Lib.hid (And.intro hz1 hz2)
  have HX := Lib.hid hx
  have HY := Lib.hid hy
  clear hz1 hz2 hx hy
  cases h1 : inB vs.length 1 5
  · skip
    have hno := Lib.hid (show tossNewOk vs ns = false by simp [tossNewOk, h1])
    go_enter Try.func19, Try.ntmps19
    go_wp2_with (go_at_call 36; (with_reducible refine (c_impl_within _ _ _ _).mono ?_); rintro e w' ⟨rfl, rfl⟩)
    refine bodyPost_ret (v := .tuple #[.agg #[.slice none 0 0, .slice none 0 0, .slice none 0 0], .bool false]) (by simp [results, Try.results19, go_sem, *]) rfl ?_
    exact GivesTN.no hno.out (by go_grown)
  by_cases h2 : vs.length = ns.length
  case neg =>
    have hd : ((vs.length : Int) != (ns.length : Int)) = true := by rw [bne_iff_ne]; omega
    have hno := Lib.hid (show tossNewOk vs ns = false by simp [tossNewOk, h2])
    go_enter Try.func19, Try.ntmps19
    go_wp2_with (go_at_call 36; (with_reducible refine (c_impl_within _ _ _ _).mono ?_); rintro e w' ⟨rfl, rfl⟩)
    refine bodyPost_ret (v := .tuple #[.agg #[.slice none 0 0, .slice none 0 0, .slice none 0 0], .bool false]) (by simp [results, Try.results19, go_sem, *]) rfl ?_
    exact GivesTN.no hno.out (by go_grown)
  have hd : ((vs.length : Int) != (ns.length : Int)) = false := by rw [bne_eq_false_iff_eq]; omega
  have H2 := Lib.hid h2
  have h15 := inB_iff.1 h1
  have h10 : 0 < vs.length := by omega
  have h11 : 0 < ns.length := by omega
  have h55 : vs.length ≤ 5 := by omega
  have H1 := Lib.hid h1
  clear h2 h15
  go_enter Try.func19, Try.ntmps19
  go_wp2_with (go_at_call 36; (with_reducible refine (c_impl_within _ _ _ _).mono ?_); rintro e w' ⟨rfl, rfl⟩)
  refine (c_impl_ints _ _ _ _ _ (SliceI.alloc0 HX.out) h10 hm0).mono ?_
  rintro e w1 ⟨A0, c0, rfl, o0, hb⟩
  obtain ⟨bel, b4⟩ := start1 hb
  have HY1 := Lib.hid (HY.out.below_le bel hB)
  have HX1 := Lib.hid (HX.out.below_le bel hB)
  have hw1 := b4.lt
  have b4c := b4.cell
  have b4f := b4.free
  have hB1 := Nat.le_trans hB bel.size
  clear hb
  go_wp2_with fail
  refine (c_impl_ints _ _ _ _ _ HY1.out h11 hm1).mono ?_
  rintro e w2 ⟨A1, c1, rfl, o1, hb⟩
  replace bel := below_next bel hb
  have hs12 := hb.size
  have HY2 := Lib.hid (HY1.out.below_le hb hB1)
  have HX2 := Lib.hid (HX1.out.below_le hb hB1)
  have O0 := Lib.hid (OwnI.below o0 hb)
  have O1 := Lib.hid o1
  have hap : Ap A0 A1 := fun a b ea eb e => by have := OwnI.lt o0 a ea; have := OwnI.ge o1 b eb; omega
  have L0 := Lib.hid (OwnI.lt O0.out)
  have L1 := Lib.hid (OwnI.lt o1)
  have HAP := Lib.hid hap
  have B4 := Lib.hid (b4.below hb)
  have hw2 : w.heap.size < w2.heap.size := by omega
  have hB2 := Nat.le_trans hB1 hs12
  have BEL := Lib.hid bel
  have g0 := Lib.hid (show w.heap.size + 1 ≤ w1.heap.size by omega)
  clear hb o0 o1 bel hap b4c b4f HX1 HY1 b4
  have b4c := B4.out.cell
  have b4f := B4.out.free
  go_wp2_with fail
  go_loopw [7, 8, 28] (fun _ _ i wr => ∃ (k : Nat) (Av : Option Addr) (cv : Nat), k ≤ vs.length ∧ i = .int .i64 k ∧ Box wr w2.heap.size 37 #[.slice A0 vs.length c0, .slice A1 ns.length c1, .slice Av k cv] ∧ wr.ownsRow (w2.heap.size + 1) 3 1 (.slice Av k cv) k (vals (tossCs vs ns k)) ∧ tossIn vs ns k = true ∧ Below w2.heap.size w2 wr) (fun _ _ i _ => vs.length - (intOf i).toNat)
  case atStart => exact ⟨0, none, 0, by omega, rfl, Box.new _ _ _, World.ownsRow_nil _ _ _ _, rfl, (Below.refl _ _).alloc (Nat.le_refl _) _⟩
  case round =>
    obtain ⟨k, Av, cv, hk, rfl, hbx, hown, hin, hbr⟩ := hrel
    have BELR := Lib.hid (below_next BEL.out hbr)
    have hbr4 := B4.out.below hbr
    have HBX := Lib.hid hbx
    have HOWN := Lib.hid hown
    have HIN := Lib.hid hin
    have r4c := hbr4.cell
    have r4f := hbr4.free
    have rbc := hbx.cell 2
    have rbf := hbx.free
    have hlr := hbx.lt
    have hszr := hbr.size
    simp at rbc
    clear hbx hown hin b4c b4f
    by_cases hlt : k < vs.length
    · have hlt2 : k < ns.length := by rw [← H2.out]; exact hlt
      obtain ⟨b, off, rfl, hbB, hc⟩ := (HX2.out.below_le hbr hB2).at_ hlt
      obtain ⟨b', off', rfl, hbB', hc'⟩ := (HY2.out.below_le hbr hB2).at_ hlt2
      have hst := Lib.hid (tossCs_succ vs ns k)
      have hinx := Lib.hid (tossIn_succ vs ns k)
      have hbad := Lib.hid (fun (h : pairOk (vs.getD k 0) (ns.getD k 0) = false) => show tossNewOk vs ns = false by simp [tossNewOk, tossIn_bad (vs := vs) (ns := ns) hlt h])
      generalize vs.getD k 0 = x at hc hst hinx hbad
      generalize ns.getD k 0 = y at hc' hst hinx hbad
      have hi0 : (0 : Int) ≤ (k : Int) := by omega
      have hi1 : (k : Int) < (vs.length : Int) := by omega
      have hi2 : (k : Int) < (ns.length : Int) := by omega
      cases hwx : isWord x
      · have hno := Lib.hid (hbad.out (by simp [pairOk, hwx]))
        clear hbad hst hinx
        go_wp2_with (first | (go_at_call 41; (with_reducible refine (c_impl_IsWord _ _).mono ?_); rintro e w' ⟨rfl, rfl⟩) | (go_at_call 36; (with_reducible refine (c_impl_within _ _ _ _).mono ?_); rintro e w' ⟨rfl, rfl⟩))
        refine bodyPost_ret (v := .tuple #[.agg #[.slice none 0 0, .slice none 0 0, .slice none 0 0], .bool false]) (by simp [results, Try.results19, go_sem, *]) rfl ?_
        exact GivesTN.no hno.out (by (go_grown; exact BELR.out))
      cases hwy : inB y 0 65535
      · have hno := Lib.hid (hbad.out (by simp [pairOk, hwy]))
        clear hbad hst hinx
        go_wp2_with (first | (go_at_call 41; (with_reducible refine (c_impl_IsWord _ _).mono ?_); rintro e w' ⟨rfl, rfl⟩) | (go_at_call 36; (with_reducible refine (c_impl_within _ _ _ _).mono ?_); rintro e w' ⟨rfl, rfl⟩))
        refine bodyPost_ret (v := .tuple #[.agg #[.slice none 0 0, .slice none 0 0, .slice none 0 0], .bool false]) (by simp [results, Try.results19, go_sem, *]) rfl ?_
        exact GivesTN.no hno.out (by (go_grown; exact BELR.out))
      have HP := Lib.hid (show pairOk x y = true by simp [pairOk, hwx, hwy])
      clear hbad
      go_wp2_with (first | (go_at_call 41; (with_reducible refine (c_impl_IsWord _ _).mono ?_); rintro e w' ⟨rfl, rfl⟩) | (go_at_call 36; (with_reducible refine (c_impl_within _ _ _ _).mono ?_); rintro e w' ⟨rfl, rfl⟩))
      clear hwx hwy r4c r4f
      have HCOM := Lib.hid (fun W => c_impl_Commit x y W)
      generalize commitF x y = cm at hst HCOM
      go_region_law (first | (go_simp; go_at_call 43; (with_reducible refine (HCOM.out _).mono ?_); rintro e w' ⟨rfl, rfl⟩) | (refine step_append_lies _ rfl (.tmp 46) (.tmp 53) 24 rfl (w2.heap.size + 1) 3 i0 (.int .i64 0) 1 8 Try.underlying24 hi hz0 HZ.out.1 HZ.out.2 rfl (by decide) _ k _ rfl ((World.ownsRow.drew HOWN.out).alloc _) ⟨_, 0, none⟩ 1 1 [.int .i64 cm] rfl rfl (cell_one_new _ _ _) (by simp [Value.oneCell']) (by omega) (by unfold maxLen; omega) (by omega) (by simp; omega) _ rfl ?_; intro g2 cap2 w5 hown5 hgrow5 _ _; have bx5 := boxKept ((Box.drew HBX.out).alloc _) hgrow5 (ownNe HOWN.out (by omega)); have x5c := bx5.cell; have x5f := bx5.free; have x5l := bx5.lt; have bel5 := Below.grown ((Below.drew hbr).alloc (Below.drew hbr).size _) hgrow5 (by simp; omega) (fun k hk => by have := (HOWN.out.lt k hk).1; omega); clear rbc rbf hgrow5))
      all_goals
        go_wp2_with fail
        go_roundw
        case rel => exact ⟨k + 1, some ⟨g2, 0, none⟩, cap2, by omega, by go_num, by simpa using bx5.set 2 _, by rw [← hst.out]; exact own_set3' hown5 (by omega), by rw [hinx.out, HIN.out, HP.out]; rfl, bel5.setCell (Nat.le_refl _) _⟩
        case measure => simp [intOf]; omega
    · obtain rfl : k = vs.length := by omega
      have hyes := Lib.hid (show tossNewOk vs ns = true by unfold tossNewOk; rw [H1.out, HIN.out, decide_eq_true H2.out]; rfl)
      have hi1 : ¬ (vs.length : Int) < (vs.length : Int) := by omega
      have rb0 := HBX.out.cell 0
      have rb1 := HBX.out.cell 1
      simp at rb0 rb1
      go_wp2_with fail
      refine bodyPost_ret (v := .tuple #[.agg #[.slice A0 vs.length c0, .slice A1 ns.length c1, .slice Av vs.length cv], .bool true]) (by simp [results, Try.results19, go_sem, *]) rfl ?_
      have lw := g0.out
      have O0r := OwnI.below O0.out hbr
      have O1r := OwnI.below O1.out hbr
      refine GivesTN.yes hyes.out (World.ownsRow.mono (own_set3 O0r (by (try simp only [World.size_alloc]); omega)) (by (try simp only [World.size_alloc]); omega)) (World.ownsRow.mono (own_set3 O1r (by omega)) (by omega)) (own_set3 HOWN.out (by omega)) HAP.out (by omega) (fun a e => by have := L0.out a e; omega) (fun a e => by have := L1.out a e; omega) (by (go_grown; exact BELR.out))
end Go.Proofs.Ytknepofclgjmiaa
