/- The walks of the reference's draws: whatever the bytes are, a drawn number lies in its range; what was there is kept. -/
import Derived.Test.YtaacognadfodlaaDoorRows
import Derived.Test.YtaacognadfodlaaDoorPlain
import Derived.Test.YtaacognadfodlaaDoorMem
import Derived.WalkKit
import Derived.WalkSpells
import Derived.WalkLawsBesides
import Derived.Handy
import Derived.RegionTactic
import Derived.BigQuiet
import Derived.Deep.QuietTactic
import Derived.Lib.Hide
namespace Go.Proofs.YtaacognadfodlaaDoor
open Go.RowKit

/-- a slice of bytes in a block below B -/
def SliceU (w : World) (B : Nat) (A : Option Addr) (n : Nat) : Prop :=
  0 < n → ∃ b off, A = some ⟨b, off, none⟩ ∧ b < B ∧ ∀ k, k < n → ∃ v : Int, 0 ≤ v ∧ v ≤ 255 ∧ w.cell? ⟨b, off + k, none⟩ = some (.int .u8 v)
theorem SliceU.keep {w w' : World} {B n : Nat} {A : Option Addr} (h : SliceU w B A n) (hk : ∀ b o, b < B → w'.cell? ⟨b, o, none⟩ = w.cell? ⟨b, o, none⟩) : SliceU w' B A n := fun hn => by
  obtain ⟨b, off, e, hb, hc⟩ := h hn
  exact ⟨b, off, e, hb, fun k hkn => by obtain ⟨v, v0, v1, hv⟩ := hc k hkn; exact ⟨v, v0, v1, (hk b _ hb).trans hv⟩⟩
theorem SliceU.grown {w w' : World} {B n g : Nat} {A : Option Addr} (h : SliceU w B A n) (hg : w.grownBy w' (some g)) (hB : B ≤ g) (hw : g < w.heap.size) : SliceU w' B A n :=
  h.keep fun b o hb => World.cell?_of_block (hg.block b (by omega) (fun e => by cases e; omega))
/-- the cursor in block g -/
def CurAt (w : World) (g : Nat) : Prop := ∃ (A : Option Addr) (n c k : Nat) (h : Int), Box w g 61 #[.slice A n c, .int .i64 (k : Int), .int .i64 h] ∧ SliceU w g A n ∧ n ≤ 2097152
/-- a number with a property; the cursor has moved on, nothing else has changed -/
def GivesCur (w : World) (g : Nat) (P : Int → Prop) (e : Ending) (w' : World) : Prop := ∃ v : Int, P v ∧ e = .returned (.int .i64 v) ∧ CurAt w' g ∧ w.grownBy w' (some g)
theorem and255 (y : Int) : 0 ≤ bits .and .i64 y 255 ∧ bits .and .i64 y 255 ≤ 255 := by
  have e2 : (BitVec.ofInt 64 (255 : Int)).toNat = 255 := by decide
  show 0 ≤ IntKind.i64.wrap (((BitVec.ofInt 64 y &&& BitVec.ofInt 64 255).toNat : Nat) : Int) ∧ IntKind.i64.wrap (((BitVec.ofInt 64 y &&& BitVec.ofInt 64 255).toNat : Nat) : Int) ≤ 255
  rw [BitVec.toNat_and, e2, IntKind.wrap_i64]
  have : (BitVec.ofInt 64 y).toNat &&& 255 ≤ 255 := Nat.and_le_right
  omega
theorem grown_set {a w : World} {g : Nat} (h : a.grownBy w (some g)) (i : Nat) (u : Value) : a.grownBy (w.setCell ⟨g, i, none⟩ u) (some g) :=
  ⟨h.os, h.tape, h.output, by simpa [World.setCell] using h.size, fun k hk hne => (Below.heap_setCell w ⟨g, i, none⟩ u k (fun e => hne (by rw [e]))).trans (h.block k hk hne)⟩
theorem grown_drew {a w : World} {row : Option Nat} (h : a.grownBy w row) : a.grownBy w.drew row := ⟨h.os, h.tape, h.output, h.size, h.block⟩
set_option maxHeartbeats 2000000 in
theorem c_spec_l01Byte (g : Nat) (w : World) (hc : CurAt w g) :
    Calls Tryd.prog 50 #[.pointer (some ⟨g, 0, none⟩)] w (GivesCur w g (fun v => 0 ≤ v ∧ v ≤ 255)) := by
  obtain ⟨A, n, c, k, h, hb, hs, hn⟩ := hc
  have c0 := hb.cell 0
  have c1 := hb.cell 1
  have c2 := hb.cell 2
  simp at c0 c1 c2
  have f1 := hb.free 1
  have f2 := hb.free 2
  by_cases hlt : k < n
  · obtain ⟨b, off, rfl, hbg, hcells⟩ := hs (by omega)
    obtain ⟨v, v0, v1, hv⟩ := hcells k hlt
    have HS := Lib.hid hs
    have HB := Lib.hid hb
    have hne : ∀ j o, (⟨g, j, none⟩ : Addr) ≠ ⟨b, o, none⟩ := fun j o e => by injection e with e1; omega
    have hv' : ∀ u, (w.setCell ⟨g, 2, none⟩ u).cell? ⟨b, off + k, none⟩ = some (.int .u8 v) := fun u => by
      rw [World.cell?_setCell_other _ _ _ _ (hne _ _)]; exact hv
    have hlt' : (k : Int) < (n : Int) := by omega
    clear hs hcells hv hb hne
    go_enter Tryd.func50, Tryd.ntmps50
    go_wp2_with fail
    generalize wrap64 (wrap64 (h * 6364136223846793005) + 1442695040888963407) = H
    go_region
    obtain ⟨x0, x1⟩ := and255 (bits .xor .i64 (H / 8589934592) (H / 35184372088832))
    generalize bits .and .i64 (bits .xor .i64 (H / 8589934592) (H / 35184372088832)) 255 = x at *
    go_wp2_with fail
    go_region
    go_wp2_with fail
    go_region
    obtain ⟨y0, y1⟩ := and255 (x + v)
    go_wp2_with fail
    go_ret
    have hg := grown_drew (grown_drew (grown_drew (grown_set (grown_set (World.grownBy.refl w (some g)) 2 (.int .i64 H)) 1 (.int .i64 ((k : Int) + 1)))))
    refine ⟨_, ⟨y0, y1⟩, rfl, ⟨some ⟨b, off, none⟩, n, c, k + 1, H, ?_, HS.out.grown hg (Nat.le_refl _) HB.out.lt, hn⟩, hg⟩
    have B := (HB.out.set 2 (.int .i64 H)).set 1 (.int .i64 ((k : Int) + 1))
    exact Box.drew (Box.drew (Box.drew (by simpa using B)))
  · have HS := Lib.hid hs
    have HB := Lib.hid hb
    have hlt' : ¬ (k : Int) < (n : Int) := by omega
    clear hs hb
    go_enter Tryd.func50, Tryd.ntmps50
    go_wp2_with fail
    generalize wrap64 (wrap64 (h * 6364136223846793005) + 1442695040888963407) = H
    go_region
    obtain ⟨x0, x1⟩ := and255 (bits .xor .i64 (H / 8589934592) (H / 35184372088832))
    generalize bits .and .i64 (bits .xor .i64 (H / 8589934592) (H / 35184372088832)) 255 = x at *
    go_wp2_with fail
    go_region
    go_wp2_with fail
    go_ret
    have hg := grown_drew (grown_drew (grown_set (World.grownBy.refl w (some g)) 2 (.int .i64 H)))
    refine ⟨_, ⟨x0, x1⟩, rfl, ⟨A, n, c, k, H, ?_, HS.out.grown hg (Nat.le_refl _) HB.out.lt, hn⟩, hg⟩
    have B := HB.out.set 2 (.int .i64 H)
    exact Box.drew (Box.drew (by simpa using B))
theorem GivesCur.imp {w w' : World} {g : Nat} {P Q : Int → Prop} {e : Ending} (h : GivesCur w g P e w') (hpq : ∀ v, P v → Q v) : GivesCur w g Q e w' := by
  obtain ⟨v, hv, r⟩ := h; exact ⟨v, hpq v hv, r⟩
/-- 0 up to n, n not reached -/
def Lt (n v : Int) : Prop := 0 ≤ v ∧ v < n
set_option maxHeartbeats 2000000 in
theorem c_spec_l01Below (g : Nat) (n : Int) (w : World) (hc : CurAt w g) (h0 : 0 < n) (h1 : n ≤ 2147483648) :
    Calls Tryd.prog 37 #[.pointer (some ⟨g, 0, none⟩), .int .i64 n] w (GivesCur w g (Lt n)) := by
  by_cases hn : n ≤ 256
  · go_enter Tryd.func37, Tryd.ntmps37
    go_wp2_with fail
    refine (c_spec_l01Byte _ _ hc).mono ?_
    rintro e w1 ⟨x, ⟨x0, x1⟩, rfl, hc1, hg1⟩
    have HC := Lib.hid hc1
    have HG := Lib.hid hg1
    clear hc1 hg1 hc
    go_wp2_with fail
    go_ret
    exact ⟨x % n, ⟨Int.emod_nonneg _ (by omega), Int.emod_lt_of_pos _ (by omega)⟩, rfl, HC.out, HG.out⟩
  · go_enter Tryd.func37, Tryd.ntmps37
    go_wp2_with fail
    refine (c_spec_l01Byte _ _ hc).mono ?_
    rintro e w1 ⟨x, ⟨x0, x1⟩, rfl, hc1, hg1⟩
    go_wp2_with fail
    refine (c_spec_l01Byte _ _ hc1).mono ?_
    rintro e w2 ⟨y, ⟨y0, y1⟩, rfl, hc2, hg2⟩
    go_wp2_with fail
    refine (c_spec_l01Byte _ _ hc2).mono ?_
    rintro e w3 ⟨z, ⟨z0, z1⟩, rfl, hc3, hg3⟩
    go_wp2_with fail
    refine (c_spec_l01Byte _ _ hc3).mono ?_
    rintro e w4 ⟨u, ⟨u0, u1⟩, rfl, hc4, hg4⟩
    have HC := Lib.hid hc4
    have HG := Lib.hid (((hg1.trans hg2).trans hg3).trans hg4)
    clear hc hc1 hc2 hc3 hc4 hg1 hg2 hg3 hg4
    go_wp2_with fail
    go_ret
    exact ⟨(x * 16777216 + y * 65536 + z * 256 + u) % n, ⟨Int.emod_nonneg _ (by omega), Int.emod_lt_of_pos _ (by omega)⟩, rfl, HC.out, HG.out⟩
theorem and30 (y : Int) : 0 ≤ bits .and .i64 y 1073741823 ∧ bits .and .i64 y 1073741823 ≤ 1073741823 := by
  have e2 : (BitVec.ofInt 64 (1073741823 : Int)).toNat = 1073741823 := by decide
  show 0 ≤ IntKind.i64.wrap (((BitVec.ofInt 64 y &&& BitVec.ofInt 64 1073741823).toNat : Nat) : Int) ∧ IntKind.i64.wrap (((BitVec.ofInt 64 y &&& BitVec.ofInt 64 1073741823).toNat : Nat) : Int) ≤ 1073741823
  rw [BitVec.toNat_and, e2, IntKind.wrap_i64]
  have : (BitVec.ofInt 64 y).toNat &&& 1073741823 ≤ 1073741823 := Nat.and_le_right
  omega
set_option maxHeartbeats 2000000 in
theorem c_spec_l01New (A : Option Addr) (n c B : Nat) (w : World) (hs : SliceU w B A n) (hB : B ≤ w.heap.size) (hn : n ≤ 2097152) :
    Calls Tryd.prog 35 #[.slice A n c] w fun e w' => e = .returned (.pointer (some ⟨w.heap.size, 0, none⟩)) ∧ CurAt w' w.heap.size ∧ Below w.heap.size w w' := by
  have HS := Lib.hid hs
  clear hs
  go_enter Tryd.func35, Tryd.ntmps35
  go_wp2_with fail
  go_loop [3, 4] (fun q i => ∃ (k : Nat) (h : Int), k ≤ n ∧ i = .int .i64 k ∧ q = .int .i64 h ∧ 0 ≤ h ∧ h ≤ 1073741823) (fun _ i => n - (intOf i).toNat)
  case atStart => exact ⟨0, _, by omega, rfl, rfl, by omega, by omega⟩
  case round =>
    obtain ⟨k, h, hk, rfl, rfl, h0, h1⟩ := hrel
    by_cases hlt : (k : Int) < (n : Int)
    · by_cases hlt2 : (k : Int) < 4000
      · obtain ⟨b, off, rfl, hbB, hcells⟩ := HS.out (by omega)
        obtain ⟨v, v0, v1, hv⟩ := hcells k (by omega)
        obtain ⟨y0, y1⟩ := and30 (h * 131 + v + 7)
        clear hcells
        go_wp2_with fail
        go_round
        case rel => exact ⟨k + 1, _, by omega, by go_num, rfl, y0, y1⟩
        case measure => simp [intOf]; omega
      · go_wp2_with fail
        go_ret
        have B1 := Box.new w 61 #[.slice A n c, .int .i64 0, .int .i64 h]
        exact ⟨rfl, ⟨A, n, c, 0, h, by simpa using B1, fun hp => by
          obtain ⟨b, off, e, hb, hcl⟩ := (HS.out.keep (w' := w.alloc (.cells #[.slice A n c, .int .i64 0, .int .i64 h] 61)) (fun b o hb => World.cell?_alloc_past _ _ _ (by omega))) hp
          exact ⟨b, off, e, by omega, hcl⟩, hn⟩, (Below.refl _ _).alloc (Nat.le_refl _) _⟩
    · go_wp2_with fail
      go_ret
      have B1 := Box.new w 61 #[.slice A n c, .int .i64 0, .int .i64 h]
      exact ⟨rfl, ⟨A, n, c, 0, h, by simpa using B1, fun hp => by
        obtain ⟨b, off, e, hb, hcl⟩ := (HS.out.keep (w' := w.alloc (.cells #[.slice A n c, .int .i64 0, .int .i64 h] 61)) (fun b o hb => World.cell?_alloc_past _ _ _ (by omega))) hp
        exact ⟨b, off, e, by omega, hcl⟩, hn⟩, (Below.refl _ _).alloc (Nat.le_refl _) _⟩
end Go.Proofs.YtaacognadfodlaaDoor
