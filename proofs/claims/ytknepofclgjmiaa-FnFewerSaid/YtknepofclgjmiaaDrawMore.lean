/- The walks of the reference's draws of places, primes and tapes. -/
import Derived.Test.YtknepofclgjmiaaDrawWord
import Derived.Maps.AppendAt
import Derived.OwnWalk
namespace Go.Proofs.Ytknepofclgjmiaa
open Go.RowKit

theorem CurAt.far {w w' : World} {g : Nat} {row : Option Nat} (h : CurAt w g) (hg : w.grownBy w' row) (hr : ∀ k, row = some k → g < k) : CurAt w' g := by
  obtain ⟨A, n, c, k, q, hb, hs, hn⟩ := h
  have hlt := hb.lt
  refine ⟨A, n, c, k, q, (hg.block g hlt (fun e => by have := hr g e.symm; omega)).trans hb, hs.keep (fun b o hb => World.cell?_of_block (hg.block b (by omega) (fun e => by have := hr b e.symm; omega))), hn⟩
/-- twelve numbers from 0 to 9999 -/
def Places (xs : List Int) : Prop := xs.length = 12 ∧ ∀ x ∈ xs, 0 ≤ x ∧ x < 10000
def GivesPlaces (w : World) (e : Ending) (w' : World) : Prop := ∃ xs, Places xs ∧ GivesI w xs e w'
set_option maxHeartbeats 2000000 in
theorem c_spec_DrawPlaces (A : Option Addr) (n c B : Nat) (w : World) (hs : SliceU w B A n) (hB : B ≤ w.heap.size) (hn : n ≤ 2097152) :
    Calls Try.prog 12 #[.slice A n c] w (GivesPlaces w) := by
  obtain ⟨i0, hi, hz0, hz1, hz2⟩ := info_parts int_info
  have HZ := Lib.hid (And.intro hz1 hz2)
  clear hz1 hz2
  go_enter Try.func12, Try.ntmps12
  go_wp2_with fail
  refine (c_spec_l01New _ _ _ _ _ hs hB hn).mono ?_
  rintro e w1 ⟨rfl, hc, hb⟩
  have hsz : w.heap.size + 1 ≤ w1.heap.size := hc.lt
  have HC := Lib.hid hc
  clear hc hs
  go_wp2_with fail
  go_loopw [4, 5] (fun v i wr => ∃ (k : Nat) (xs : List Int), k ≤ 12 ∧ i = .int .i64 k ∧ xs.length = k ∧ (∀ x ∈ xs, 0 ≤ x ∧ x < 10000) ∧ wr.ownsRow (w.heap.size + 1) 3 1 v k (vals xs) ∧ CurAt wr w.heap.size ∧ Below w.heap.size w wr) (fun _ i _ => 12 - (intOf i).toNat)
  case atStart => exact ⟨0, [], by omega, rfl, rfl, by simp, World.ownsRow_lit w1 #[] 0 hsz (by simp [maxLen]) rfl, HC.out.alloc _, hb.alloc hb.size _⟩
  case round =>
    obtain ⟨k, xs, hk, rfl, hl, hx, hown, hcur, hbel⟩ := hrel
    have HL := Lib.hid hl
    have HX := Lib.hid hx
    have HOWN := Lib.hid hown
    have HCUR := Lib.hid hcur
    have hlt0 := hcur.lt
    clear hl hx hown hcur
    by_cases hlt : k < 12
    · go_wp2_with fail
      refine (c_spec_l01Below _ _ _ HCUR.out (by omega) (by omega)).mono ?_
      rintro e w2 ⟨y, ⟨y0, y1⟩, rfl, hc2, hg2⟩
      have hown2 := HOWN.out.kept hg2 (by
        rcases HOWN.out.2 with ⟨rfl, _⟩ | ⟨g', cap', cur', rfl, hle, _⟩
        · exact .inl rfl
        · exact .inr (by simp [Value.ownBlock]; omega))
      have hb2 := hbel.grown hg2 hbel.size (fun k hk => by cases hk; exact Nat.le_refl _)
      have hsz2 : w.heap.size + 1 ≤ w2.heap.size := hc2.lt
      have HO2 := Lib.hid hown2
      have HC2 := Lib.hid hc2
      clear hown2 hc2 hg2 HOWN HCUR
      go_wp2_with (at_builtin; refine wpList_append_own _ rfl (.tmp 13) (.tmp 16) 24 rfl (w.heap.size + 1) 3 i0 (.int .i64 0) 1 8 Try.underlying24 hi hz0 HZ.out.1 HZ.out.2 rfl (by decide) _ k _ rfl (HO2.out.alloc _) ⟨_, 0, none⟩ 1 1 [.int .i64 y] rfl rfl (cell_one_new _ _ _) (by simp [Value.oneCell']) (by unfold maxLen; omega) (by omega) (by simp; omega) ?_; intro v' w3 hown3 hgrow3 _)
      have hge : ∀ j, Value.ownBlock _ = some j → w.heap.size + 1 ≤ j := fun j hj => (HO2.out.lt j hj).1
      have hcur3 := (HC2.out.alloc (.cells #[.int .i64 y] 3)).far hgrow3 (fun j hj => by have := hge j hj; omega)
      have hb3 := (hb2.alloc hb2.size (.cells #[.int .i64 y] 3)).grown hgrow3 (by simp; omega) (fun j hj => by have := hge j hj; omega)
      have hown4 : w3.ownsRow (w.heap.size + 1) 3 1 v' (k + 1) (vals (xs ++ [y])) := by simpa [vals] using hown3
      go_roundw
      case rel => exact ⟨k + 1, xs ++ [y], by omega, by go_num, by simp [HL.out], (fun x hx => by
        rcases List.mem_append.1 hx with h | h
        · exact HX.out x h
        · simp at h; subst h; exact ⟨y0, y1⟩), hown4, hcur3, hb3⟩
      case measure => simp [intOf]; omega
    · obtain rfl : k = 12 := by omega
      go_wp2_with fail
      go_ret
      refine ⟨xs, ⟨HL.out, HX.out⟩, GivesI.of (n := 12) ?_ hbel⟩
      exact ⟨HOWN.out.1, HOWN.out.2.imp id (fun ⟨g', cap', cur', e, hle, r⟩ => ⟨g', cap', cur', e, by omega, r⟩)⟩
def primes : List Int := [2, 3, 5, 7, 11, 13, 31, 97, 101]
set_option maxHeartbeats 1000000 in
theorem c_spec_l03Prime (g : Nat) (w : World) (hc : CurAt w g) :
    Calls Try.prog 47 #[.pointer (some ⟨g, 0, none⟩)] w (GivesCur w g (fun v => v ∈ primes)) := by
  go_enter Try.func47, Try.ntmps47
  go_wp2_with fail
  refine (c_spec_l01PickInt g w.heap.size [2, 3, 5, 7, 11, 13, 31, 97, 101] _ (hc.alloc _) (Box.new w _ _) (by have := hc.lt; omega) (by simp) (by simp)).mono ?_
  rintro e w2 ⟨v, hv, rfl, hc2, hg2⟩
  have HC := Lib.hid hc2
  have HG2 := Lib.hid hg2
  have HV := Lib.hid hv
  clear hc hc2 hg2 hv
  go_wp2_with fail
  go_ret
  exact ⟨v, HV.out, rfl, HC.out, (grown_alloc _ _).trans HG2.out⟩
set_option maxHeartbeats 1000000 in
theorem c_spec_DrawPrime (A : Option Addr) (n c B : Nat) (w : World) (hs : SliceU w B A n) (hB : B ≤ w.heap.size) (hn : n ≤ 2097152) :
    Calls Try.prog 24 #[.slice A n c] w (GivesInt w (fun v => v ∈ primes)) := by
  go_enter Try.func24, Try.ntmps24
  go_wp2_with fail
  refine (c_spec_l01New _ _ _ _ _ hs hB hn).mono ?_
  rintro e w1 ⟨rfl, hc, hb⟩
  go_wp2_with fail
  refine (c_spec_l03Prime _ _ hc).mono ?_
  rintro e w2 ⟨v, hv, rfl, _, hg⟩
  have HV := Lib.hid hv
  have HB := Lib.hid (below_cur hb hg)
  clear hv hb hg hc hs
  go_wp2_with fail
  go_ret
  exact ⟨v, HV.out, rfl, HB.out⟩
/-- a drawn tape -/
def TapeP (s t : Int) : Prop := (0 ≤ s ∧ s ≤ 4294967295) ∧ 0 ≤ t ∧ t < 50
def GivesTapeCur (w : World) (g : Nat) (e : Ending) (w' : World) : Prop := ∃ s t : Int, TapeP s t ∧ e = .returned (.agg #[.int .i64 s, .int .i64 t]) ∧ CurAt w' g ∧ w.grownBy w' (some g)
def GivesTape (w : World) (e : Ending) (w' : World) : Prop := ∃ s t : Int, TapeP s t ∧ e = .returned (.agg #[.int .i64 s, .int .i64 t]) ∧ Below w.heap.size w w'
theorem grown_box {w w1 : World} {g t : Nat} {cs : Array Value} (hg : (w.alloc (.cells cs t)).grownBy w1 (some g)) (hlt : g < w.heap.size) : Box w1 w.heap.size t cs :=
  (Box.new w t cs).grown hg (by omega)
set_option maxHeartbeats 1000000 in
theorem c_spec_l04Tape (g : Nat) (w : World) (hc : CurAt w g) :
    Calls Try.prog 39 #[.pointer (some ⟨g, 0, none⟩)] w (GivesTapeCur w g) := by
  have hlt := hc.lt
  go_enter Try.func39, Try.ntmps39
  go_wp2_with fail
  refine (c_spec_l02Word g _ (hc.alloc _)).mono ?_
  rintro e w1 ⟨s, hs, rfl, hc1, hg1⟩
  go_wp2_with fail
  refine (c_spec_l01Below g _ _ hc1 (by omega) (by omega)).mono ?_
  rintro e w2 ⟨t, ht, rfl, hc2, hg2⟩
  have b2 := (grown_box hg1 hlt).grown hg2 (by omega)
  have c2 := b2.cell
  have f2 := b2.free
  have z2 := b2.lt
  have HC := Lib.hid hc2
  have HG := Lib.hid ((grown_alloc _ _).trans (hg1.trans hg2))
  have HS := Lib.hid hs
  have HT := Lib.hid ht
  clear hc hc1 hc2 hg1 hg2 hs ht
  go_wp2_with fail
  refine bodyPost_ret (v := .agg #[.int .i64 s, .int .i64 t]) (by simp [results, Try.results39, go_sem, c2]) rfl ⟨s, t, ⟨HS.out, HT.out⟩, rfl, ?_, ?_⟩
  · exact (HC.out.far (row := some w.heap.size) (grown_set (grown_set (World.grownBy.refl _ _) 0 _) 1 _) (fun k hk => by cases hk; exact hlt))
  · exact ⟨HG.out.os, HG.out.tape, HG.out.output, by simpa [World.setCell] using HG.out.size, fun k hk hne => (Below.heap_setCell _ _ _ k (by show k ≠ w.heap.size; omega)).trans ((Below.heap_setCell _ _ _ k (by show k ≠ w.heap.size; omega)).trans (HG.out.block k hk hne))⟩
set_option maxHeartbeats 1000000 in
theorem c_spec_DrawTape (A : Option Addr) (n c B : Nat) (w : World) (hs : SliceU w B A n) (hB : B ≤ w.heap.size) (hn : n ≤ 2097152) :
    Calls Try.prog 15 #[.slice A n c] w (GivesTape w) := by
  have hs' := hs.keep (w' := w.alloc (.cells #[.int .i64 0, .int .i64 0] 29)) (fun b o hb => World.cell?_alloc_past _ _ _ (by omega))
  go_enter Try.func15, Try.ntmps15
  go_wp2_with fail
  refine (c_spec_l01New _ _ _ _ _ hs' (by simp; omega) hn).mono ?_
  rintro e w1 ⟨rfl, hc, hb⟩
  obtain ⟨bel, b1⟩ := start1 hb
  simp only [World.size_alloc] at hc
  go_wp2_with fail
  refine (c_spec_l04Tape _ _ hc).mono ?_
  rintro e w2 ⟨s, t, hp, rfl, _, hg⟩
  have b2 := b1.grown hg (by omega)
  have c2 := b2.cell
  have f2 := b2.free
  have z2 := b2.lt
  have HP := Lib.hid hp
  have HB := Lib.hid (bel.grown hg bel.size (fun k hk => by cases hk; omega))
  clear hp hb hg hc hs hs' b1 bel
  go_wp2_with fail
  refine bodyPost_ret (v := .agg #[.int .i64 s, .int .i64 t]) (by simp [results, Try.results15, go_sem, c2]) rfl ⟨s, t, HP.out, rfl, ?_⟩
  exact (HB.out.setCell (Nat.le_refl _) _).setCell (Nat.le_refl _) _
end Go.Proofs.Ytknepofclgjmiaa
