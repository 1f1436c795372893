/- Slices of strings that the call itself made: what the given helpers of the statements (compare, mark, ask) do to them. -/
import Derived.Test.YtaacognadfodlaaDoorDecText
import Derived.Test.YtaacognadfodlaaDoorSplitRef
import Derived.RegionTactic
import Derived.BigQuiet
import Derived.Deep.QuietTactic
import Derived.Deep.RegionHeld
import Derived.Deep.RegionHeld3
import Derived.Deep.Draws
namespace Go.Proofs.YtaacognadfodlaaDoor
open Go.RowKit Go.PlainAid

/-- The slice value 'slice A n c' holds the texts xs in a block of the call's own, from lo on. -/
def OwnS (w : World) (lo : Nat) (A : Option Addr) (n c : Nat) (xs : List ByteArray) : Prop := w.ownsRow lo 9 1 (.slice A n c) n (sv xs)
theorem sv_get {xs : List ByteArray} {k : Nat} (h : k < xs.length) : (sv xs)[k]? = some (.string (xs.getD k ByteArray.empty)) := by simp [sv, h]
section
variable {w w' : World} {lo n c : Nat} {A : Option Addr} {xs : List ByteArray}
theorem OwnS.len (h : OwnS w lo A n c xs) : xs.length = n := by simpa [sv] using h.1
theorem OwnS.form (h : OwnS w lo A n c xs) (hn : 0 < n) : ∃ g, A = some ⟨g, 0, none⟩ ∧ lo ≤ g ∧ g < w.heap.size := by
  rcases h.2 with ⟨_, h0⟩ | ⟨g, cap, cur, hv, hl, hg, _⟩
  · omega
  · refine ⟨g, by injection hv, hl, ?_⟩
    rcases Nat.lt_or_ge g w.heap.size with hh | hh
    · exact hh
    · rw [Array.getElem?_eq_none hh] at hg; cases hg
theorem OwnS.at_ (h : OwnS w lo A n c xs) {k : Nat} (hk : k < n) : ∃ g, A = some ⟨g, 0, none⟩ ∧ g < w.heap.size ∧ w.cell? ⟨g, k, none⟩ = some (.string (xs.getD k ByteArray.empty)) := by
  obtain ⟨g, rfl, _, hg⟩ := h.form (by omega)
  have h' : w.ownsRow lo 9 1 (.slice (some ⟨g, 0, none⟩) n c) n (sv xs) := h
  exact ⟨g, rfl, hg, by rw [h'.cellAt k (by omega)]; exact sv_get (by rw [h.len]; exact hk)⟩
theorem grownOfBelow (h : Below w.heap.size w w') (row : Option Nat) : w.grownBy w' row := ⟨h.os, h.tape, h.output, h.size, fun i hi _ => h.block i hi⟩
theorem OwnS.below (h : OwnS w lo A n c xs) (hb : Below w.heap.size w w') : OwnS w' lo A n c xs := World.ownsRow.kept h (grownOfBelow hb none) (by
  cases A
  · exact .inl rfl
  · exact .inr (by simp [Value.ownBlock]))
theorem OwnS.far (h : OwnS w lo A n c xs) {row : Option Nat} (hg : w.grownBy w' row) (hr : ∀ g, A = some g → row ≠ some g.block) : OwnS w' lo A n c xs := World.ownsRow.kept h hg (by
  cases A with
  | none => exact .inl rfl
  | some a => exact .inr (by simpa [Value.ownBlock] using (hr a rfl).symm))
theorem OwnS.lt (h : OwnS w lo A n c xs) : ∀ a, A = some a → a.block < w.heap.size := fun a e => by
  subst e; exact (World.ownsRow.lt h a.block rfl).2
theorem OwnS.ge (h : OwnS w lo A n c xs) : ∀ a, A = some a → lo ≤ a.block := fun a e => by
  subst e; exact (World.ownsRow.lt h a.block rfl).1
/-- what a mark on one list leaves alone -/
theorem OwnS.marked {n' c' : Nat} {A' : Option Addr} (h : OwnS w lo A n c xs) (hg : w.grownBy w' (Value.ownBlock (.slice A' n' c'))) (hd : ∀ a b, A = some a → A' = some b → a.block ≠ b.block) : OwnS w' lo A n c xs :=
  h.far hg fun a ha e => by
    cases A' with
    | none => cases e
    | some b => exact hd a b ha rfl (by simpa [Value.ownBlock] using e.symm)
end
theorem belowMarked {w w1 w2 : World} {n' c' : Nat} {A' : Option Addr} (h : Below w.heap.size w w1) (hg : w1.grownBy w2 (Value.ownBlock (.slice A' n' c'))) (hd : ∀ b, A' = some b → w.heap.size ≤ b.block) : Below w.heap.size w w2 :=
  h.grown hg h.size fun k hk => by
    cases A' with
    | none => cases hk
    | some a =>
      have := hd a rfl
      have e' : k = a.block := by simpa [Value.ownBlock] using hk.symm
      omega
theorem belowDrewN {B : Nat} {a w : World} (h : Below B a w) (k : Nat) : Below B a (w.drewN k) := ⟨h.os, h.tape, h.output, h.size, h.block⟩

/-! compare two lists that are equal -/
set_option maxHeartbeats 1000000 in
theorem c_laws_eqStringS (A A' : Option Addr) (n c c' lo lo' : Nat) (xs : List ByteArray) (w : World) (hx : OwnS w lo A n c xs) (hy : OwnS w lo' A' n c' xs) (hn : n ≤ maxLen) :
    Calls Tryd.prog 18 #[.slice A n c, .slice A' n c'] w fun e w' => e = .returned (.bool true) ∧ Below w.heap.size w w' := by
  unfold maxLen at hn
  have HX := Lib.hid hx
  have HY := Lib.hid hy
  clear hx hy
  go_enter Tryd.func18, Tryd.ntmps18
  go_wp2_with fail
  go_loopw [5] (fun i wr => ∃ k : Nat, k ≤ n ∧ i = .int .i64 k ∧ Below w.heap.size w wr) (fun i _ => n - (intOf i).toNat)
  case atStart => exact ⟨0, by omega, rfl, Below.refl _ _⟩
  case round =>
    obtain ⟨k, hk, rfl, hbel⟩ := hrel
    by_cases hlt : k < n
    · obtain ⟨b, rfl, hbB, hc⟩ := (HX.out.below hbel).at_ hlt
      obtain ⟨b', rfl, hbB', hc'⟩ := (HY.out.below hbel).at_ hlt
      generalize xs.getD k ByteArray.empty = x at hc hc'
      have hlt' : (k : Int) < (n : Int) := by omega
      go_wp2_with fail
      go_quiet (fail)
      go_wp2_with fail
      go_roundw
      case rel => exact ⟨k + 1, by omega, by go_num, belowDrewN hbel _⟩
      case measure => simp [intOf]; omega
    · go_wp2_with fail
      go_ret
      exact ⟨rfl, hbel⟩

/-! the text of a mark -/
def mkT (k : Nat) : ByteArray := ⟨(109 :: Lib.decDigits k).toArray⟩
set_option maxRecDepth 100000 in
set_option maxHeartbeats 8000000 in
theorem c_laws_markText (N : Nat) (w : World) (h0 : N ≠ 0) (hN : N ≤ 9223372036854775807) :
    Calls Tryd.prog 34 #[.int .i64 (N : Int)] w fun e w' => e = .returned (.string (mkT N)) ∧ Below w.heap.size w w' := by
  have hp : ¬ (N : Int) ≤ 0 := by omega
  have hD := Lib.hid (dz_pos h0)
  go_enter Tryd.func34, Tryd.ntmps34
  go_wp2_with fail
  go_loopw [0, 3] (fun x s wr => ∃ (m : Nat) (sl : List UInt8), m ≤ N ∧ x = .int .i64 (m : Int) ∧ s = .string ⟨sl.toArray⟩ ∧ dz N = dz m ++ sl ∧ Below w.heap.size w wr) (fun x _ _ => (intOf x).toNat)
  case atStart => exact ⟨N, [], Nat.le_refl _, rfl, rfl, by simp, Below.refl _ _⟩
  case round =>
    obtain ⟨m, sl, hm, rfl, rfl, hd, hbr⟩ := hrel
    have HD := Lib.hid hd
    clear hd
    by_cases hm0 : m = 0
    · subst hm0
      have hs : sl = Lib.decDigits N := by have := HD.out; rw [hD.out] at this; simpa [dz] using this.symm
      have HS := Lib.hid hs
      clear hs
      have hl21 : sl.length ≤ 8388608 := by
        have h2 := Lib.itoa_length_le (N : Int) (by omega) (by omega)
        rw [Lib.itoa_nonneg, ← HS.out] at h2
        omega
      have hcat : ∀ W : World, (Op.stringOp .add (⟨#[109]⟩ : ByteArray) (⟨sl.toArray⟩ : ByteArray)).run Tryd.prog W = .ok (.string ⟨(109 :: sl).toArray⟩) W := fun W => by
        have h := run_string_add_lists (P := Tryd.prog) W [109] sl (by simp) (by omega)
        simpa using h
      go_wp2_with fail
      go_ret
      exact ⟨by unfold mkT; rw [HS.out]; rfl, hbr⟩
    · have hst := Lib.hid (dz_step hm0)
      have hne : (0 : Int) < (m : Int) := by omega
      have hr : (m : Int).tmod 10 = ((m % 10 : Nat) : Int) := by rw [Int.tmod_eq_emod_of_nonneg (by omega)]; omega
      have hq : IntKind.i64.wrap ((m : Int).tdiv 10) = ((m / 10 : Nat) : Int) := by rw [IntWalk.i64_quo _ _ (by omega)]; omega
      have hq2 : (m : Int).tdiv 10 = ((m / 10 : Nat) : Int) := by rw [Int.tdiv_eq_ediv_of_nonneg (by omega)]; omega
      have hd10 : m % 10 < 10 := Nat.mod_lt _ (by omega)
      have hml : m / 10 < m := Nat.div_lt_self (by omega) (by omega)
      have hcv := conv_one wr (UInt8.ofNat (48 + m % 10))
      have e8 : IntKind.u8.wrap (48 + ((m % 10 : Nat) : Int)) = ((UInt8.ofNat (48 + m % 10)).toNat : Int) := by
        rw [IntWalk.u8_in _ (by omega)]
        simp; omega
      have e64 : IntKind.i64.wrap (48 + ((m % 10 : Nat) : Int)) = 48 + ((m % 10 : Nat) : Int) := IntWalk.i64_in _ (by omega)
      have hl21 : sl.length ≤ 8388608 := by
        have h1 := congrArg List.length HD.out
        rw [hD.out, List.length_append] at h1
        have h2 := Lib.itoa_length_le (N : Int) (by omega) (by omega)
        rw [Lib.itoa_nonneg] at h2
        omega
      generalize UInt8.ofNat (48 + m % 10) = b at hst hcv e8
      have hcat : ∀ W : World, (Op.stringOp .add (⟨#[b]⟩ : ByteArray) (⟨sl.toArray⟩ : ByteArray)).run Tryd.prog W = .ok (.string ⟨(b :: sl).toArray⟩) W := fun W => by
        have h := run_string_add_lists (P := Tryd.prog) W [b] sl (by simp) (by omega)
        simpa using h
      generalize m / 10 = m' at hst hq hq2 hml
      generalize m % 10 = d at hr hd10 e8 e64
      go_wp2_with fail
      go_roundw
      case rel => exact ⟨m', b :: sl, by omega, rfl, rfl, by rw [HD.out, hst.out]; simp, hbr.alloc hbr.size _⟩
      case measure => simp [intOf]; omega

/-! mark, and ask for the marks -/
def seqT (k n : Nat) : List ByteArray := (List.range n).map fun i => mkT (k + i)
theorem seqT_len (k n : Nat) : (seqT k n).length = n := by simp [seqT]
theorem seqT_get {k n i : Nat} (h : i < n) : (seqT k n).getD i ByteArray.empty = mkT (k + i) := by simp [seqT, h]
def markedT (xs : List ByteArray) (k0 k : Nat) : List ByteArray := seqT k0 k ++ xs.drop k
theorem markedT_zero (xs : List ByteArray) (k0 : Nat) : markedT xs k0 0 = xs := by simp [markedT, seqT]
theorem markedT_all {xs : List ByteArray} {n : Nat} (k0 : Nat) (h : xs.length = n) : markedT xs k0 n = seqT k0 n := by simp [markedT, ← h]
theorem markedT_set {xs : List ByteArray} {n k : Nat} (k0 : Nat) (h : xs.length = n) (hk : k < n) : (sv (markedT xs k0 k)).set k (.string (mkT (k0 + k))) = sv (markedT xs k0 (k + 1)) := by
  unfold sv markedT seqT
  apply List.ext_getElem?
  intro j
  simp only [List.getElem?_set, List.length_map, List.length_append, List.length_drop, List.length_range, List.getElem?_map, List.getElem?_append, List.getElem?_drop]
  by_cases e : k = j
  · subst e
    have m1 : k < k + (n - k) := by omega
    simp [h, m1]
  · by_cases hj : j < k
    · have h3 : j < k + 1 := by omega
      simp [e, hj, h3]
    · have h3 : ¬ j < k + 1 := by omega
      simp only [if_neg e, if_neg hj, if_neg h3]
      rw [show k + (j - k) = k + 1 + (j - (k + 1)) by omega]
theorem ret_intS {k : IntKind} {a b : Int} (h : a = b) : Ending.returned (.int k a) = .returned (.int k b) := by rw [h]
set_option maxHeartbeats 4000000 in
theorem c_laws_markStringS (A : Option Addr) (n c lo k0 : Nat) (xs : List ByteArray) (w : World) (hx : OwnS w lo A n c xs) (hn : n ≤ 2097152) (h0 : 0 < k0) (h1 : k0 ≤ 1000000000000) :
    Calls Tryd.prog 19 #[.slice A n c, .int .i64 (k0 : Int)] w fun e w' => e = .returned (.int .i64 ((k0 : Int) + n)) ∧ OwnS w' lo A n c (seqT k0 n) ∧ w.grownBy w' (Value.ownBlock (.slice A n c)) := by
  rcases Nat.eq_zero_or_pos n with rfl | hpos
  · obtain rfl : xs = [] := List.eq_nil_of_length_eq_zero hx.len
    have HX := Lib.hid hx
    clear hx
    go_enter Tryd.func19, Tryd.ntmps19
    go_wp2_with fail
    refine wp_loop_rounds 1 ?_
    rw [rounds_succ]
    go_wp2_with fail
    go_ret
    exact ⟨ret_intS (by simp), HX.out, World.grownBy.refl _ _⟩
  · obtain ⟨g, rfl, hlo, hg⟩ := hx.form hpos
    have hl := Lib.hid hx.len
    have hstart : OwnS w lo (some ⟨g, 0, none⟩) n c (markedT xs k0 0) := by rw [markedT_zero]; exact hx
    clear hx
    go_enter Tryd.func19, Tryd.ntmps19
    go_wp2_with fail
    go_loopw [1, 5] (fun q i wr => ∃ k : Nat, k ≤ n ∧ i = .int .i64 k ∧ q = .int .i64 ((k0 + k : Nat) : Int) ∧ OwnS wr lo (some ⟨g, 0, none⟩) n c (markedT xs k0 k) ∧ w.grownBy wr (some g)) (fun _ i _ => n - (intOf i).toNat)
    case atStart => exact ⟨0, by omega, rfl, by simp, hstart, World.grownBy.refl _ _⟩
    case round =>
      obtain ⟨k, hk, rfl, rfl, hown, hgr⟩ := hrel
      by_cases hlt : k < n
      · have HOWN := Lib.hid hown
        have HT := Lib.hid (c_laws_markText (k0 + k) wr (by omega) (by omega))
        have hsum : ((k0 + k : Nat) : Int) + 1 = ((k0 + (k + 1) : Nat) : Int) := by omega
        have hw1 : IntKind.i64.wrap (((k0 + k : Nat) : Int) + 1) = ((k0 + (k + 1) : Nat) : Int) := by rw [hsum]; exact IntWalk.i64_in _ (by omega)
        clear hown
        generalize hkk : k0 + k = kk at HT hsum hw1
        go_wp2_with (go_at_call 34; (with_reducible refine HT.out.mono ?_); rintro e w1 ⟨rfl, hb⟩; have hown1 := Lib.hid (HOWN.out.below hb); have hcell : w1.cell? ⟨g, k, none⟩ = some (.string ((markedT xs k0 k).getD k ByteArray.empty)) := (by
          have h' : w1.ownsRow lo 9 1 (.slice (some ⟨g, 0, none⟩) n c) n (sv (markedT xs k0 k)) := hown1.out
          rw [h'.cellAt k (by omega)]
          exact sv_get (by rw [OwnS.len hown1.out]; exact hlt)); have hfree : w1.frozen? ⟨g, k, none⟩ = false := World.ownsRow.frozenAt hown1.out k; generalize (markedT xs k0 k).getD k ByteArray.empty = y at hcell)
        have hst := World.ownsRow.stored hown1.out k (.string (mkT kk))
        rw [← hkk, markedT_set k0 hl.out hlt, hkk] at hst
        have hnext := Lib.hid hst.1
        have hgn := Lib.hid hst.2
        clear hst
        go_roundw
        case rel => exact ⟨k + 1, by omega, by go_num, by go_num, hnext.out, (hgr.trans (grownOfBelow hb _)).trans hgn.out⟩
        case measure => simp [intOf]; omega
      · obtain rfl : k = n := by omega
        rw [markedT_all k0 hl.out] at hown
        have HO := Lib.hid hown
        clear hown
        go_wp2_with fail
        go_ret
        exact ⟨ret_intS (by omega), HO.out, hgr⟩
set_option maxHeartbeats 4000000 in
theorem c_laws_heldStringS (A : Option Addr) (n c lo k0 : Nat) (w : World) (hx : OwnS w lo A n c (seqT k0 n)) (hn : n ≤ 2097152) (h0 : 0 < k0) (h1 : k0 ≤ 1000000000000) :
    Calls Tryd.prog 20 #[.slice A n c, .int .i64 (k0 : Int)] w fun e w' => e = .returned (.int .i64 ((k0 : Int) + n)) ∧ Below w.heap.size w w' := by
  have HX := Lib.hid hx
  clear hx
  go_enter Tryd.func20, Tryd.ntmps20
  go_wp2_with fail
  go_loopw [1, 5] (fun q i wr => ∃ k : Nat, k ≤ n ∧ i = .int .i64 k ∧ q = .int .i64 ((k0 + k : Nat) : Int) ∧ Below w.heap.size w wr) (fun _ i _ => n - (intOf i).toNat)
  case atStart => exact ⟨0, by omega, rfl, by simp, Below.refl _ _⟩
  case round =>
    obtain ⟨k, hk, rfl, rfl, hbel⟩ := hrel
    by_cases hlt : k < n
    · obtain ⟨b, rfl, hbB, hc⟩ := (HX.out.below hbel).at_ hlt
      rw [seqT_get hlt] at hc
      have HT := Lib.hid (fun W => c_laws_markText (k0 + k) W (by omega) (by omega))
      have hsum : ((k0 + k : Nat) : Int) + 1 = ((k0 + (k + 1) : Nat) : Int) := by omega
      have hw1 : IntKind.i64.wrap (((k0 + k : Nat) : Int) + 1) = ((k0 + (k + 1) : Nat) : Int) := by rw [hsum]; exact IntWalk.i64_in _ (by omega)
      generalize hkk : k0 + k = kk at HT hsum hw1 hc
      generalize mkT kk = y at HT hc
      go_wp2_with fail
      go_region_held3 (fun W => Below wr.heap.size wr W ∧ W.cell? ⟨b, k, none⟩ = some (.string y)) (first | exact ⟨(Below.refl _ _).drew, hc⟩ | exact hc2) (first | (go_at_call 34; (with_reducible refine (HT.out _).mono ?_); rintro e w2 ⟨rfl, hb⟩; have hc2 : Below wr.heap.size wr w2 ∧ w2.cell? ⟨b, k, none⟩ = some (.string y) := ⟨(Below.refl _ _).drew.trans hb, (hb.cell (p := ⟨b, k, none⟩) hbB).trans hc⟩))
      go_wp2_with fail
      go_roundw
      case rel => exact ⟨k + 1, by omega, by go_num, by go_num, hbel.trans (hc2.1.mono hbel.size)⟩
      case measure => simp [intOf]; omega
    · obtain rfl : k = n := by omega
      go_wp2_with fail
      go_ret
      exact ⟨ret_intS (by omega), hbel⟩
end Go.Proofs.YtaacognadfodlaaDoor
