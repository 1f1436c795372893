/- Programs of the language as lists of numbers, six for a statement: what they say, their copy and their comparison. -/
import Derived.Test.YtjgnodmfklpcgaaRows
import Derived.Test.YtjgnodmfklpcgaaPlain
import Derived.Test.YtjgnodmfklpcgaaMem
import Derived.Test.YtjgnodmfklpcgaaWords
import Derived.Test.YtjgnodmfklpcgaaList
import Derived.Test.YtjgnodmfklpcgaaStmt
import Derived.Test.YtjgnodmfklpcgaaStmtRefZ
import Derived.Test.YtjgnodmfklpcgaaStmtUse
import Derived.WalkKit
import Derived.WalkSpells
import Derived.WalkLawsBesides
import Derived.OwnWalk
import Derived.Handy
import Derived.RegionTactic
import Derived.Deep.QuietTactic
import Derived.BigQuiet
import Derived.Deep.RegionWith
import Derived.Deep.RegionHeld3
import Derived.Deep.Onto
import Derived.Lib.Hide
namespace Go.Proofs.Ytjgnodmfklpcgaa
open Go.RowKit

def opAt (xs : List Int) (k : Nat) : Int := xs.getD (k * 6) 0
def stAt (xs : List Int) (k : Nat) : Bool := stmtOk (xs.getD (k * 6) 0) (xs.getD (k * 6 + 1) 0) (xs.getD (k * 6 + 2) 0) (xs.getD (k * 6 + 3) 0) (xs.getD (k * 6 + 4) 0) (xs.getD (k * 6 + 5) 0)
def depStep (o d : Int) : Int := if o = 12 then d + 1 else if o = 13 then d - 1 else d
def dep (xs : List Int) : Nat → Int
  | 0 => 0
  | k + 1 => depStep (opAt xs k) (dep xs k)
def okTo (xs : List Int) (k : Nat) : Bool := (List.range k).all fun i => stAt xs i && inB (dep xs (i + 1)) 0 3
def progOk (xs : List Int) (n : Nat) : Bool := decide (n ≤ 40) && okTo xs n && (dep xs n == 0)
theorem okTo_succ (xs : List Int) (k : Nat) : okTo xs (k + 1) = (okTo xs k && (stAt xs k && inB (depStep (opAt xs k) (dep xs k)) 0 3)) := by
  simp [okTo, List.range_succ, dep]
theorem okTo_bad {xs : List Int} {k n : Nat} (hk : k < n) (h : (stAt xs k && inB (depStep (opAt xs k) (dep xs k)) 0 3) = false) : progOk xs n = false := by
  have : okTo xs n = false := by
    rw [Bool.eq_false_iff]
    intro h1
    have h2 := List.all_eq_true.1 h1 k (by simpa using hk)
    simp only [dep] at h2
    rw [h2] at h
    cases h
  simp [progOk, this]
theorem okTo_dep {xs : List Int} : ∀ {k : Nat}, okTo xs k = true → 0 ≤ dep xs k ∧ dep xs k ≤ 3
  | 0, _ => by simp [dep]
  | k + 1, h => by
    rw [okTo_succ] at h
    simp only [Bool.and_eq_true] at h
    exact inB_iff.1 h.2.2
theorem progOk_end {xs : List Int} {n : Nat} (h : okTo xs n = true) (hn : n ≤ 40) : progOk xs n = (dep xs n == 0) := by simp [progOk, h, hn]
theorem progOk_zero {xs : List Int} {n : Nat} (h : (dep xs n == 0) = false) : progOk xs n = false := by simp [progOk, h]
theorem progOk_long {xs : List Int} {n : Nat} (h : 40 < n) : progOk xs n = false := by simp [progOk, show ¬ n ≤ 40 by omega]

section
variable {w w' : World} {B n : Nat} {A : Option Addr} {xs : List Int}
/-- the six cells of a statement in a list -/
theorem SliceI.six {k : Nat} (h : SliceI w B A (n * 6) xs) (hk : k < n) : ∃ b off, A = some ⟨b, off, none⟩ ∧ b < B ∧ ∀ j, j < 6 → w.cell? ⟨b, off + k * 6 + j, none⟩ = some (.int .i64 (xs.getD (k * 6 + j) 0)) := by
  obtain ⟨b, off, e, hb, hc⟩ := h.2 (by omega)
  refine ⟨b, off, e, hb, fun j hj => ?_⟩
  rw [Nat.add_assoc]
  exact hc (k * 6 + j) (by omega)
end
theorem stmt_info : (Try.prog.info? 41).map (fun i => (i.zero, i.size, i.bytes)) = some (some (.agg #[.int .i64 0, .int .i64 0, .int .i64 0, .int .i64 0, .int .i64 0, .int .i64 0]), 6, 48) := by kernel_rfl
/-- The slice value holds the statements xs (six numbers each) in a block of the call's own. -/
def OwnF (w : World) (lo : Nat) (A : Option Addr) (n c : Nat) (xs : List Int) : Prop := w.ownsRow lo 41 6 (.slice A n c) n (vals xs)
theorem OwnF.len {w : World} {lo n c : Nat} {A : Option Addr} {xs : List Int} (h : OwnF w lo A n c xs) : xs.length = n * 6 := by simpa [vals] using h.1
theorem OwnF.slice {w : World} {lo n c g : Nat} {xs : List Int} (h : OwnF w lo (some ⟨g, 0, none⟩) n c xs) : SliceI w w.heap.size (some ⟨g, 0, none⟩) (n * 6) xs :=
  ⟨h.len, fun hn => ⟨g, 0, rfl, (World.ownsRow.lt h g rfl).2, fun k hk => by
    rw [Nat.zero_add, World.ownsRow.cellAt h k hk]
    exact vals_get (by rw [h.len]; exact hk)⟩⟩
theorem OwnF.below {w w' : World} {lo n c : Nat} {A : Option Addr} {xs : List Int} (h : OwnF w lo A n c xs) (hb : Below w.heap.size w w') : OwnF w' lo A n c xs := World.ownsRow.kept h (grown_of_below hb none) (by
  cases A
  · exact .inl rfl
  · exact .inr (by simp [Value.ownBlock]))
theorem OwnF.lt {w : World} {lo n c : Nat} {A : Option Addr} {xs : List Int} (h : OwnF w lo A n c xs) : ∀ a, A = some a → a.block < w.heap.size := fun a e => by
  subst e; exact (World.ownsRow.lt h a.block rfl).2
theorem OwnF.ge {w : World} {lo n c : Nat} {A : Option Addr} {xs : List Int} (h : OwnF w lo A n c xs) : ∀ a, A = some a → lo ≤ a.block := fun a e => by
  subst e; exact (World.ownsRow.lt h a.block rfl).1
theorem made_six (N : Nat) : (madeCells (Value.cells (.agg #[.int .i64 0, .int .i64 0, .int .i64 0, .int .i64 0, .int .i64 0, .int .i64 0])) N).toList = vals (List.replicate N 0) := by
  apply List.ext_getElem?
  intro j
  by_cases hj : j < N
  · have h6 : j % 6 = 0 ∨ j % 6 = 1 ∨ j % 6 = 2 ∨ j % 6 = 3 ∨ j % 6 = 4 ∨ j % 6 = 5 := by omega
    rcases h6 with h | h | h | h | h | h <;> simp [madeCells, hj, Value.cells, vals, h]
  · simp [madeCells, hj, Value.cells, vals]
theorem OwnF.store6 {w : World} {lo n c g k : Nat} {xs : List Int} (h : OwnF w lo (some ⟨g, 0, none⟩) n c (mixed xs (n * 6) (k * 6))) (hl : xs.length = n * 6) (hk : k < n) :
    OwnF ((((((w.setCell ⟨g, k * 6, none⟩ (.int .i64 (xs.getD (k * 6) 0))).setCell ⟨g, k * 6 + 1, none⟩ (.int .i64 (xs.getD (k * 6 + 1) 0))).setCell ⟨g, k * 6 + 2, none⟩ (.int .i64 (xs.getD (k * 6 + 2) 0))).setCell ⟨g, k * 6 + 3, none⟩ (.int .i64 (xs.getD (k * 6 + 3) 0))).setCell ⟨g, k * 6 + 4, none⟩ (.int .i64 (xs.getD (k * 6 + 4) 0))).setCell ⟨g, k * 6 + 5, none⟩ (.int .i64 (xs.getD (k * 6 + 5) 0))) lo (some ⟨g, 0, none⟩) n c (mixed xs (n * 6) ((k + 1) * 6)) := by
  have s0 := (World.ownsRow.stored h (k * 6) (.int .i64 (xs.getD (k * 6) 0))).1
  rw [mixed_set hl (by omega)] at s0
  have s1 := (World.ownsRow.stored s0 (k * 6 + 1) (.int .i64 (xs.getD (k * 6 + 1) 0))).1
  rw [mixed_set hl (by omega)] at s1
  have s2 := (World.ownsRow.stored s1 (k * 6 + 2) (.int .i64 (xs.getD (k * 6 + 2) 0))).1
  rw [mixed_set hl (by omega)] at s2
  have s3 := (World.ownsRow.stored s2 (k * 6 + 3) (.int .i64 (xs.getD (k * 6 + 3) 0))).1
  rw [mixed_set hl (by omega)] at s3
  have s4 := (World.ownsRow.stored s3 (k * 6 + 4) (.int .i64 (xs.getD (k * 6 + 4) 0))).1
  rw [mixed_set hl (by omega)] at s4
  have s5 := (World.ownsRow.stored s4 (k * 6 + 5) (.int .i64 (xs.getD (k * 6 + 5) 0))).1
  rw [mixed_set hl (by omega)] at s5
  rw [show (k + 1) * 6 = k * 6 + 5 + 1 by omega]
  exact s5
theorem OwnF.at6 {w : World} {lo n c g k : Nat} {xs : List Int} (h : OwnF w lo (some ⟨g, 0, none⟩) n c xs) (hk : k < n) : ∀ j, j < 6 → ∃ y, w.cell? ⟨g, k * 6 + j, none⟩ = some y := fun j hj => by
  rw [World.ownsRow.cellAt h (k * 6 + j) (by omega)]
  exact ⟨_, vals_get (by rw [h.len]; omega)⟩
set_option maxHeartbeats 4000000 in
theorem c_laws_toStmtS (A : Option Addr) (n c B : Nat) (xs : List Int) (w : World) (hx : SliceI w B A (n * 6) xs) (hB : B ≤ w.heap.size) (hn : n ≤ 1048576) :
    Calls Try.prog 43 #[.slice A n c] w fun e w' => e = .returned (.slice (some ⟨w.heap.size, 0, none⟩) n n) ∧ OwnF w' w.heap.size (some ⟨w.heap.size, 0, none⟩) n n xs ∧ Below w.heap.size w w' := by
  obtain ⟨i0, hi, hz0, hz1, hz2⟩ := info_parts stmt_info
  have HX := Lib.hid hx
  have hl := Lib.hid hx.len
  have HZ := Lib.hid (And.intro hz1 hz2)
  clear hx hz1 hz2
  go_enter Try.func43, Try.ntmps43
  go_wp2_with (at_make; refine wpList_make_full _ rfl _ _ 52 rfl w.heap.size 41 i0 (.agg #[.int .i64 0, .int .i64 0, .int .i64 0, .int .i64 0, .int .i64 0, .int .i64 0]) 6 Try.underlying52 hi hz0 HZ.out.1 .i64 .i64 _ _ n rfl rfl rfl rfl (by rw [HZ.out.2]; omega) (by unfold maxLen; omega) (Nat.le_refl _) ?_; intro w0 hown0 hgrow0)
  have hm : OwnF w0 w.heap.size (some ⟨w.heap.size, 0, none⟩) n n (mixed xs (n * 6) (0 * 6)) := by
    have := hown0
    rw [made_six] at this
    rw [Nat.zero_mul, mixed_zero]
    exact this
  have hb0 : Below w.heap.size w w0 := (Below.refl _ _).grown hgrow0 (Nat.le_refl _) (fun k hk => by cases hk)
  clear hown0 hgrow0
  go_loopw [4] (fun i wr => ∃ k : Nat, k ≤ n ∧ i = .int .i64 k ∧ OwnF wr w.heap.size (some ⟨w.heap.size, 0, none⟩) n n (mixed xs (n * 6) (k * 6)) ∧ Below w.heap.size w wr) (fun i _ => n - (intOf i).toNat)
  case atStart => exact ⟨0, by omega, rfl, hm, hb0⟩
  case round =>
    obtain ⟨k, hk, rfl, hown, hbel⟩ := hrel
    have hsz := hbel.size
    have HOWN := Lib.hid hown
    clear hown
    by_cases hlt : k < n
    · obtain ⟨b, off, rfl, hbB, hc⟩ := (HX.out.below_le hbel hB).six hlt
      have h0 := hc 0 (by omega)
      have h1 := hc 1 (by omega)
      have h2 := hc 2 (by omega)
      have h3 := hc 3 (by omega)
      have h4 := hc 4 (by omega)
      have h5 := hc 5 (by omega)
      have HST := Lib.hid (fun (w1 : World) (h : OwnF w1 w.heap.size (some ⟨w.heap.size, 0, none⟩) n n (mixed xs (n * 6) (k * 6))) => h.store6 hl.out hlt)
      clear hc
      simp only [Nat.add_zero] at h0
      generalize xs.getD (k * 6) 0 = z0 at h0 HST
      generalize xs.getD (k * 6 + 1) 0 = z1 at h1 HST
      generalize xs.getD (k * 6 + 2) 0 = z2 at h2 HST
      generalize xs.getD (k * 6 + 3) 0 = z3 at h3 HST
      generalize xs.getD (k * 6 + 4) 0 = z4 at h4 HST
      generalize xs.getD (k * 6 + 5) 0 = z5 at h5 HST
      have hlt' : (k : Int) < (n : Int) := by omega
      go_wp2_with (go_at_call 32; (with_reducible refine (c_laws_toStmt _ _ _ _ _ _ _).mono ?_); rintro e w1 ⟨rfl, hb⟩; have hbel1 := below_next hbel hb; have OWN1 := OwnF.below HOWN.out hb; have HO1 := Lib.hid OWN1; have hat := OWN1.at6 hlt; obtain ⟨y0, g0⟩ := hat 0 (by omega); obtain ⟨y1, g1⟩ := hat 1 (by omega); obtain ⟨y2, g2⟩ := hat 2 (by omega); obtain ⟨y3, g3⟩ := hat 3 (by omega); obtain ⟨y4, g4⟩ := hat 4 (by omega); obtain ⟨y5, g5⟩ := hat 5 (by omega); have hfree := fun j => World.ownsRow.frozenAt OWN1 j; simp only [Nat.add_zero] at g0; clear OWN1 hat hb HOWN)
      go_roundw
      case rel => exact ⟨k + 1, by omega, by go_num, HST.out _ HO1.out, by go_grown⟩
      case measure => simp [intOf]; omega
    · obtain rfl : k = n := by omega
      have HO := HOWN.out
      rw [mixed_all hl.out] at HO
      have HO' := Lib.hid HO
      clear HO
      go_wp2_with fail
      go_ret
      exact ⟨rfl, HO'.out, hbel⟩
set_option maxHeartbeats 400000 in
theorem c_laws_szStmtS (A : Option Addr) (n c : Nat) (l : Int) (w : World) (hn : n ≤ maxLen) (h0 : 0 ≤ l) (h1 : l ≤ 1048576) :
    Calls Try.prog 41 #[.slice A n c, .int .i64 l] w fun e w' => e = .returned (.int .i64 (if l < (n : Int) then -1 else l - (n : Int))) ∧ w = w' := by
  unfold maxLen at hn
  by_cases h : l < (n : Int)
  · have hneg : l - (n : Int) < 0 := by omega
    go_enter Try.func41, Try.ntmps41
    go_wp2_with fail
    go_ret
    exact ⟨rfl, rfl⟩
  · have hneg : ¬ l - (n : Int) < 0 := by omega
    go_enter Try.func41, Try.ntmps41
    go_wp2_with fail
    go_ret
    exact ⟨rfl, rfl⟩
set_option maxHeartbeats 1000000 in
theorem c_laws_eqStmt (o d a b c n : Int) (w : World) :
    Calls Try.prog 61 #[.agg #[.int .i64 o, .int .i64 d, .int .i64 a, .int .i64 b, .int .i64 c, .int .i64 n], .agg #[.int .i64 o, .int .i64 d, .int .i64 a, .int .i64 b, .int .i64 c, .int .i64 n]] w fun e w' => e = .returned (.bool true) ∧ Below w.heap.size w w' := by
  go_enter Try.func61, Try.ntmps61
  go_wp2
  go_ret
  refine ⟨rfl, ?_⟩
  go_grown
set_option maxHeartbeats 4000000 in
theorem c_laws_eqStmtS (A A' : Option Addr) (n c c' B B' : Nat) (xs : List Int) (w : World) (hx : SliceI w B A (n * 6) xs) (hy : SliceI w B' A' (n * 6) xs) (hB : B ≤ w.heap.size) (hB' : B' ≤ w.heap.size) (hn : n ≤ 1048576) :
    Calls Try.prog 45 #[.slice A n c, .slice A' n c'] w fun e w' => e = .returned (.bool true) ∧ Below w.heap.size w w' := by
  have HX := Lib.hid hx
  have HY := Lib.hid hy
  clear hx hy
  go_enter Try.func45, Try.ntmps45
  go_wp2_with fail
  go_loopw [5] (fun i wr => ∃ k : Nat, k ≤ n ∧ i = .int .i64 k ∧ Below w.heap.size w wr) (fun i _ => n - (intOf i).toNat)
  case atStart => exact ⟨0, by omega, rfl, Below.refl _ _⟩
  case round =>
    obtain ⟨k, hk, rfl, hbel⟩ := hrel
    have hsz := hbel.size
    by_cases hlt : k < n
    · obtain ⟨b, off, rfl, hbB, hc⟩ := (HX.out.below_le hbel hB).six hlt
      obtain ⟨b', off', rfl, hbB', hc'⟩ := (HY.out.below_le hbel hB').six hlt
      have h0 := hc 0 (by omega)
      have h1 := hc 1 (by omega)
      have h2 := hc 2 (by omega)
      have h3 := hc 3 (by omega)
      have h4 := hc 4 (by omega)
      have h5 := hc 5 (by omega)
      have g0 := hc' 0 (by omega)
      have g1 := hc' 1 (by omega)
      have g2 := hc' 2 (by omega)
      have g3 := hc' 3 (by omega)
      have g4 := hc' 4 (by omega)
      have g5 := hc' 5 (by omega)
      clear hc hc'
      simp only [Nat.add_zero] at h0 g0
      generalize xs.getD (k * 6) 0 = z0 at h0 g0
      generalize xs.getD (k * 6 + 1) 0 = z1 at h1 g1
      generalize xs.getD (k * 6 + 2) 0 = z2 at h2 g2
      generalize xs.getD (k * 6 + 3) 0 = z3 at h3 g3
      generalize xs.getD (k * 6 + 4) 0 = z4 at h4 g4
      generalize xs.getD (k * 6 + 5) 0 = z5 at h5 g5
      have hlt' : (k : Int) < (n : Int) := by omega
      have hk0 : (0 : Int) ≤ (k : Int) := by omega
      go_wp2_with fail
      go_region_with (go_at_call 61; refine (c_laws_eqStmt _ _ _ _ _ _ _).mono ?_; rintro e w1 ⟨rfl, hb⟩)
      all_goals
        have hbel1 := below_next (below_drewN hbel _) hb
        go_wp2_with fail
        go_roundw
        case rel => exact ⟨k + 1, by omega, by go_num, by go_grown⟩
        case measure => simp [intOf]; omega
    · go_wp2_with fail
      go_ret
      exact ⟨rfl, hbel⟩
end Go.Proofs.Ytjgnodmfklpcgaa
