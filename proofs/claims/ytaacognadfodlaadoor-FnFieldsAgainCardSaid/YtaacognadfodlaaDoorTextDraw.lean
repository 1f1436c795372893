/- The walks of the reference's draws of texts. -/
import Derived.Test.YtaacognadfodlaaDoorDrawClamp
import Derived.Test.YtaacognadfodlaaDoorHexDec
import Derived.WalkSpells
import Derived.OwnWalk
import Derived.Deep.AppendLies
import Derived.Lib.ConvBytes
namespace Go.Proofs.YtaacognadfodlaaDoor
open Go.RowKit

theorem grown_new {w w2 w3 : World} {g : Nat} {row : Option Nat} (h : w.grownBy w2 (some g)) (h3 : w2.grownBy w3 row) (hr : ∀ k, row = some k → w.heap.size ≤ k) : w.grownBy w3 (some g) :=
  ⟨h3.os.trans h.os, h3.tape.trans h.tape, h3.output.trans h.output, Nat.le_trans h.size h3.size, fun i hi hne => (h3.block i (Nat.lt_of_lt_of_le hi h.size) (fun e => by have := hr i e.symm; omega)).trans (h.block i hi hne)⟩
theorem own_blk {h k c j : Nat} (hj : (Value.slice (some ⟨h, 0, none⟩) k c).ownBlock = some j) : h = j := by simpa [Value.ownBlock] using hj
theorem byte_of {y : Int} (h0 : 0 ≤ y) (h1 : y ≤ 255) : ∃ b : UInt8, (b.toNat : Int) = y := ⟨UInt8.ofNat y.toNat, by simp; omega⟩
set_option maxRecDepth 20000 in
set_option maxHeartbeats 4000000 in
theorem c_spec_l01Text (g m : Nat) (w : World) (hc : CurAt w g) (hm : m ≤ 5000) :
    Calls Tryd.prog 41 #[.pointer (some ⟨g, 0, none⟩), .int .i64 (m : Int)] w fun e w' => ∃ s : ByteArray, s.size = m ∧ e = .returned (.string s) ∧ CurAt w' g ∧ w.grownBy w' (some g) := by
  obtain ⟨i0, hi, hz0, hz1, hz2⟩ := info_parts byteInfo
  have HZ := Lib.hid (And.intro hz1 hz2)
  have hlt0 := hc.lt
  have HC := Lib.hid hc
  clear hz1 hz2 hc
  have hle : ¬ (5000 : Int) < (m : Int) := by omega
  go_enter Tryd.func41, Tryd.ntmps41
  go_wp2_with fail
  go_loopw [5, 6] (fun v i wr => ∃ (k h c : Nat) (pre : List UInt8), k ≤ m ∧ i = .int .i64 (k : Int) ∧ v = .slice (some ⟨h, 0, none⟩) k c ∧ wr.ownsRow w.heap.size 5 1 (.slice (some ⟨h, 0, none⟩) k c) k (bv pre) ∧ CurAt wr g ∧ w.grownBy wr (some g)) (fun _ i _ => m - (RowKit.intOf i).toNat)
  case atStart => exact ⟨0, w.heap.size, 0, [], by omega, rfl, rfl, World.ownsRow_lit w #[] 0 (Nat.le_refl _) (by simp [maxLen]) rfl, HC.out.alloc _, grown_alloc _ _⟩
  case round =>
    obtain ⟨k, h, c, pre, hk, rfl, rfl, hown, hcur, hgr⟩ := hrel
    have hpl : pre.length = k := by have := hown.1; simpa [bv] using this
    have hhl := (hown.lt h rfl).1
    have HOWN := Lib.hid hown
    have HCUR := Lib.hid hcur
    have HGR := Lib.hid hgr
    clear hown hcur hgr
    by_cases hlt : k < m
    · have hlt' : (k : Int) < (m : Int) := by omega
      go_wp2_with fail
      refine (c_spec_l01Byte _ _ HCUR.out).mono ?_
      rintro e w2 ⟨y, ⟨y0, y1⟩, rfl, hc2, hg2⟩
      have hown2 := HOWN.out.kept hg2 (.inr (by simp [Value.ownBlock]; omega))
      have HG2 := Lib.hid (HGR.out.trans hg2)
      have hsz2 : w.heap.size ≤ w2.heap.size := HG2.out.size
      have HO2 := Lib.hid hown2
      have HC2 := Lib.hid hc2
      obtain ⟨b, hb⟩ := byte_of y0 y1
      have HBB := Lib.hid hb
      have hwy : IntKind.u8.wrap y = y := IntWalk.u8_in _ (by omega)
      clear hown2 hc2 hg2 HOWN HCUR hb
      go_wp2_with (refine wpList_append_lies _ rfl (.tmp 15) (.tmp 19) 34 rfl w.heap.size 5 i0 (.int .u8 0) 1 1 Tryd.underlying34 hi hz0 HZ.out.1 HZ.out.2 rfl (by decide) _ k _ rfl (HO2.out.alloc _) ⟨_, 0, none⟩ 1 1 [.int .u8 y] rfl rfl (cells_one_new _ _ _) (by simp [Value.oneCell']) (by omega) (by unfold maxLen; omega) (by omega) (by simp; omega) _ rfl ?_; intro g3 cap3 w3 hown3 hgrow3 _ _)
      have hcur3 := (HC2.out.alloc (.cells #[.int .u8 y] 5)).far hgrow3 (fun j hj => by rw [← own_blk hj]; omega)
      have hg3 := grown_new (HG2.out.trans (grown_alloc (.cells #[.int .u8 y] 5) _)) hgrow3 (fun j hj => by rw [← own_blk hj]; omega)
      have hst : bv pre ++ [.int .u8 y] = bv (pre ++ [b]) := by simp [bv, HBB.out]
      rw [hst] at hown3
      go_wp2_with fail
      go_roundw
      case rel => exact ⟨k + 1, g3, cap3, pre ++ [b], by omega, by go_num, rfl, hown3, hcur3, hg3⟩
      case measure => simp [RowKit.intOf]; omega
    · obtain rfl : k = m := by omega
      have hlt' : ¬ (k : Int) < (k : Int) := by omega
      have hO := HOWN.out
      have hconv := run_convert_bytes_back (P := Tryd.prog) wr 34 9 5 ⟨h, 0, none⟩ c pre Tryd.underlying34 Tryd.underlying5 Tryd.underlying9 (fun j hj => by
        have h1 := World.ownsRow.cellAt hO j (by omega)
        have e : ((⟨h, 0, none⟩ : Addr).add j) = ⟨h, j, none⟩ := by unfold Addr.add; split <;> simp_all
        rw [e, h1]
        simp [bv, List.getElem?_eq_getElem hj])
      rw [hpl] at hconv
      have HPL := Lib.hid hpl
      clear hO HOWN hpl
      go_wp2_with fail
      go_ret
      exact ⟨⟨pre.toArray⟩, by show pre.toArray.size = _; simpa using HPL.out, rfl, HCUR.out, HGR.out⟩
def filled (m k : Nat) (x : Int) : List Value := List.replicate k (.int .u8 x) ++ List.replicate (m - k) (.int .u8 0)
theorem filled_len {m k : Nat} (x : Int) (h : k ≤ m) : (filled m k x).length = m := by simp [filled]; omega
theorem filled_set {m k : Nat} (x : Int) (h : k < m) : (filled m k x).set k (.int .u8 x) = filled m (k + 1) x := by
  unfold filled
  rw [List.set_append_right _ _ (by simp), List.length_replicate, Nat.sub_self, show m - k = (m - (k + 1)) + 1 by omega, List.replicate_succ, List.set_cons_zero, List.replicate_succ', List.append_assoc]
  rfl
theorem filled_all (m : Nat) (x : Int) : filled m m x = List.replicate m (.int .u8 x) := by simp [filled]
set_option maxRecDepth 20000 in
set_option maxHeartbeats 4000000 in
theorem c_spec_l01Long (m : Nat) (b : UInt8) (w : World) (hm : m ≤ 100000) :
    Calls Tryd.prog 39 #[.int .i64 (m : Int), .int .u8 (b.toNat : Int)] w fun e w' => e = .returned (.string ⟨(List.replicate m b).toArray⟩) ∧ Below w.heap.size w w' := by
  obtain ⟨i0, hi, hz0, hz1, hz2⟩ := info_parts byteInfo
  have HZ := Lib.hid (And.intro hz1 hz2)
  clear hz1 hz2
  obtain ⟨x, hx⟩ : ∃ x : Int, x = (b.toNat : Int) := ⟨_, rfl⟩
  rw [← hx]
  have HX := Lib.hid hx
  clear hx
  go_enter Tryd.func39, Tryd.ntmps39
  go_wp2_with (at_make; refine wpList_make_full _ rfl _ _ 34 rfl w.heap.size 5 i0 (.int .u8 0) 1 Tryd.underlying34 hi hz0 HZ.out.1 .i64 .i64 _ _ m rfl rfl rfl rfl (by rw [HZ.out.2]; omega) (by unfold maxLen; omega) (Nat.le_refl _) ?_; intro w0 hown0 hgrow0)
  have hown1 : w0.ownsRow w.heap.size 5 1 (.slice (some ⟨w.heap.size, 0, none⟩) m m) m (filled m 0 x) := by
    have := hown0
    rw [show (Value.int .u8 0).cells = #[Value.int .u8 0] from rfl, toList_madeCells_one, Nat.mul_one] at this
    simpa [filled] using this
  have hb0 : Below w.heap.size w w0 := (Below.refl _ _).grown hgrow0 (Nat.le_refl _) (fun k hk => by cases hk)
  clear hown0 hgrow0
  have HO1 := Lib.hid hown1
  clear hown1
  go_wp2_with fail
  go_loopw [6] (fun i wr => ∃ k : Nat, k ≤ m ∧ i = .int .i64 (k : Int) ∧ wr.ownsRow w.heap.size 5 1 (.slice (some ⟨w.heap.size, 0, none⟩) m m) m (filled m k x) ∧ Below w.heap.size w wr) (fun i _ => m - (RowKit.intOf i).toNat)
  case atStart => exact ⟨0, by omega, rfl, HO1.out, hb0⟩
  case round =>
    obtain ⟨k, hk, rfl, hown, hbel⟩ := hrel
    by_cases hlt : k < m
    · have hlt' : (k : Int) < (m : Int) := by omega
      have hcell : wr.cell? ⟨w.heap.size, k, none⟩ = some (.int .u8 0) := by
        rw [hown.cellAt k (by omega)]
        simp only [filled]
        rw [List.getElem?_append_right (by simp), List.length_replicate, Nat.sub_self, show m - k = (m - (k + 1)) + 1 by omega, List.replicate_succ]
        rfl
      have hfree : wr.frozen? ⟨w.heap.size, k, none⟩ = false := World.ownsRow.frozenAt hown k
      have hnext : Hid ((wr.setCell ⟨w.heap.size, k, none⟩ (.int .u8 x)).ownsRow w.heap.size 5 1 (.slice (some ⟨w.heap.size, 0, none⟩) m m) m (filled m (k + 1) x)) := by
        have := (World.ownsRow.stored hown k (.int .u8 x)).1
        rw [filled_set x hlt] at this
        exact this
      clear hown
      go_wp2_with fail
      go_roundw
      case rel => exact ⟨k + 1, by omega, by go_num, hnext.out, hbel.setCell (Nat.le_refl _) _⟩
      case measure => simp [RowKit.intOf]; omega
    · obtain rfl : k = m := by omega
      have hlt' : ¬ (k : Int) < (k : Int) := by omega
      rw [filled_all] at hown
      have hconv := run_convert_bytes_back (P := Tryd.prog) wr 34 9 5 ⟨w.heap.size, 0, none⟩ k (List.replicate k b) Tryd.underlying34 Tryd.underlying5 Tryd.underlying9 (fun j hj => by
        have hj' : j < k := by simpa using hj
        have h1 := hown.cellAt j (by omega)
        have e : ((⟨w.heap.size, 0, none⟩ : Addr).add j) = ⟨w.heap.size, j, none⟩ := by unfold Addr.add; split <;> simp_all
        rw [e, h1, HX.out]
        simp [hj'])
      rw [List.length_replicate] at hconv
      clear hown
      go_wp2_with fail
      go_ret
      exact ⟨rfl, hbel⟩
set_option maxHeartbeats 4000000 in
theorem c_spec_DrawEncodeHex (A : Option Addr) (n c B : Nat) (w : World) (hs : SliceU w B A n) (hB : B ≤ w.heap.size) (hn : n ≤ 2097152) :
    Calls Tryd.prog 25 #[.slice A n c] w fun e w' => ∃ s : ByteArray, s.size ≤ 30000 ∧ e = .returned (.string s) ∧ Below w.heap.size w w' := by
  go_enter Tryd.func25, Tryd.ntmps25
  go_wp2_with fail
  refine (c_spec_l01New _ _ _ _ _ hs hB hn).mono ?_
  rintro e w1 ⟨rfl, hc, hb⟩
  clear hs
  go_wp2_with fail
  refine (c_spec_l01Once _ _ _ hc (by omega) (by omega)).mono ?_
  rintro e w2 ⟨once, rfl, hc2, hg2⟩
  replace hb := below_cur hb hg2
  clear hc hg2
  cases once
  · go_wp2_with fail
    refine (c_spec_l01Below _ _ _ hc2 (by omega) (by omega)).mono ?_
    rintro e w3 ⟨x, ⟨x0, x1⟩, rfl, hc3, hg3⟩
    obtain ⟨m, rfl⟩ : ∃ m : Nat, x = (m : Int) := ⟨x.toNat, by omega⟩
    replace hb := below_cur hb hg3
    clear hc2 hg3
    go_wp2_with fail
    refine (c_spec_l01Text _ _ _ hc3 (by omega)).mono ?_
    rintro e w4 ⟨s, hsz, rfl, hc4, hg4⟩
    have HB := Lib.hid (below_cur hb hg4)
    have HS := Lib.hid hsz
    clear hc3 hg4 hc4 hb hsz
    go_wp2_with fail
    go_ret
    exact ⟨s, by have := HS.out; omega, rfl, HB.out⟩
  · go_wp2_with fail
    refine (c_spec_l01Below _ _ _ hc2 (by omega) (by omega)).mono ?_
    rintro e w3 ⟨x, ⟨x0, x1⟩, rfl, hc3, hg3⟩
    obtain ⟨m, hm⟩ : ∃ m : Nat, 20000 + x = (m : Int) := ⟨(20000 + x).toNat, by omega⟩
    have hw : IntKind.i64.wrap (20000 + x) = (m : Int) := by rw [IntWalk.i64_in _ (by omega)]; exact hm
    have hmb : m ≤ 20001 := by omega
    have HB := Lib.hid (below_cur hb hg3)
    have HL : Hid (∀ w', Calls Tryd.prog 39 #[.int .i64 (m : Int), .int .u8 200] w' fun e w'' => e = .returned (.string ⟨(List.replicate m 200).toArray⟩) ∧ Below w'.heap.size w' w'') := Lib.hid fun w' => c_spec_l01Long m 200 w' (by omega)
    clear hc2 hg3 hb
    go_wp2_with fail
    refine (HL.out _).mono ?_
    rintro e w4 ⟨rfl, hb4⟩
    have HB4 := Lib.hid hb4
    clear hb4
    go_wp2_with fail
    go_ret
    exact ⟨_, by show (List.replicate m (200 : UInt8)).toArray.size ≤ _; simp; omega, rfl, below_next HB.out HB4.out⟩
end Go.Proofs.YtaacognadfodlaaDoor
