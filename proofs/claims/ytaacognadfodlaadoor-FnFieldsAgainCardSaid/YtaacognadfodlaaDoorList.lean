/- Slices of integers that the call itself made: what the given helpers of the statements (copy, compare, mark, ask) do to them. -/
import Derived.Test.YtaacognadfodlaaDoorRows
import Derived.Test.YtaacognadfodlaaDoorMem
import Derived.WalkKit
import Derived.WalkSpells
import Derived.WalkLawsBesides
import Derived.Handy
import Derived.RegionTactic
import Derived.BigQuiet
import Derived.Deep.QuietTactic
import Derived.Deep.AppendLies
import Derived.Deep.RegionHeld
import Derived.Lib.Hide
namespace Go.Proofs.YtaacognadfodlaaDoor
open Go.RowKit

theorem int_info : (Tryd.prog.info? 3).map (fun i => (i.zero, i.size, i.bytes)) = some (some (.int .i64 0), 1, 8) := by kernel_rfl

theorem ret_int' {k : IntKind} {a b : Int} (h : a = b) : Ending.returned (.int k a) = .returned (.int k b) := by rw [h]

def vals (xs : List Int) : List Value := xs.map (Value.int .i64)
theorem vals_get {xs : List Int} {k : Nat} (h : k < xs.length) : (vals xs)[k]? = some (.int .i64 (xs.getD k 0)) := by simp [vals, h]
/-- The slice value 'slice A n c' holds xs in a block of the call's own, from lo on. -/
def OwnI (w : World) (lo : Nat) (A : Option Addr) (n c : Nat) (xs : List Int) : Prop := w.ownsRow lo 3 1 (.slice A n c) n (vals xs)

section
variable {w w' : World} {lo B n c : Nat} {A : Option Addr} {xs : List Int}
theorem OwnI.len (h : OwnI w lo A n c xs) : xs.length = n := by simpa [vals] using h.1
theorem OwnI.form (h : OwnI w lo A n c xs) (hn : 0 < n) : ∃ g, A = some ⟨g, 0, none⟩ ∧ lo ≤ g ∧ g < w.heap.size := by
  rcases h.2 with ⟨_, h0⟩ | ⟨g, cap, cur, hv, hl, hg, _⟩
  · omega
  · refine ⟨g, by injection hv, hl, ?_⟩
    rcases Nat.lt_or_ge g w.heap.size with hh | hh
    · exact hh
    · rw [Array.getElem?_eq_none hh] at hg; cases hg
theorem OwnI.slice (h : OwnI w lo A n c xs) : SliceI w w.heap.size A n xs :=
  ⟨h.len, fun hn => by
    obtain ⟨g, rfl, _, hg⟩ := h.form hn
    refine ⟨g, 0, rfl, hg, fun k hk => ?_⟩
    have h' : w.ownsRow lo 3 1 (.slice (some ⟨g, 0, none⟩) n c) n (vals xs) := h
    rw [show (0 : Nat) + k = k by omega, h'.cellAt k (by omega)]
    exact vals_get (by rw [h.len]; exact hk)⟩
theorem grown_of_below (h : Below w.heap.size w w') (row : Option Nat) : w.grownBy w' row := ⟨h.os, h.tape, h.output, h.size, fun i hi _ => h.block i hi⟩
theorem OwnI.below (h : OwnI w lo A n c xs) (hb : Below w.heap.size w w') : OwnI w' lo A n c xs := World.ownsRow.kept h (grown_of_below hb none) (by
  cases A
  · exact .inl rfl
  · exact .inr (by simp [Value.ownBlock]))
/-- the block of an owned slice lies below the heap's size; a write to another block keeps it -/
theorem OwnI.far (h : OwnI w lo A n c xs) {row : Option Nat} (hg : w.grownBy w' row) (hr : ∀ g, A = some g → row ≠ some g.block) : OwnI w' lo A n c xs := World.ownsRow.kept h hg (by
  cases A with
  | none => exact .inl rfl
  | some a => exact .inr (by simpa [Value.ownBlock] using (hr a rfl).symm))
theorem OwnI.lit (w : World) (xs : List Int) (hm : xs.length ≤ maxLen) : OwnI (w.alloc (.cells (vals xs).toArray 3)) w.heap.size (some ⟨w.heap.size, 0, none⟩) xs.length xs.length xs := by
  have := World.ownsRow_lit (base := w.heap.size) (e := 3) (size := 1) w (vals xs).toArray xs.length (Nat.le_refl _) hm (by simp [vals])
  simpa [OwnI] using this
end

/-- the same of a value -/
def OwnV (w : World) (lo : Nat) (v : Value) (n : Nat) (xs : List Int) : Prop := w.ownsRow lo 3 1 v n (vals xs)
theorem OwnV.below {w w' : World} {lo n : Nat} {v : Value} {xs : List Int} (h : w.ownsRow lo 3 1 v n (vals xs)) (hb : Below w.heap.size w w') : w'.ownsRow lo 3 1 v n (vals xs) := World.ownsRow.kept h (grown_of_below hb none) (by
  rcases h.2 with ⟨rfl, _⟩ | ⟨g, cap, cur, rfl, _⟩
  · exact .inl rfl
  · exact .inr (by simp [Value.ownBlock]))
/-- A call that hands back the list ys in new memory. -/
def GivesI (w : World) (ys : List Int) (e : Ending) (w' : World) : Prop := ∃ A c, e = .returned (.slice A ys.length c) ∧ OwnI w' w.heap.size A ys.length c ys ∧ Below w.heap.size w w'
theorem GivesI.of {w w' : World} {n : Nat} {v : Value} {ys : List Int} (h : w'.ownsRow w.heap.size 3 1 v n (vals ys)) (hb : Below w.heap.size w w') : GivesI w ys (.returned v) w' := by
  have hl : ys.length = n := by simpa [vals] using h.1
  subst hl
  have h' := h
  rcases h.2 with ⟨rfl, h0⟩ | ⟨g, cap, cur, rfl, _⟩
  · rw [h0] at h'
    exact ⟨none, 0, by rw [h0], by unfold OwnI; rw [h0]; exact h', hb⟩
  · exact ⟨_, cap, rfl, h', hb⟩
theorem GivesI.nil (w : World) : GivesI w [] (.returned (.slice none 0 0)) w := ⟨none, 0, rfl, World.ownsRow_nil _ _ _ _, Below.refl _ _⟩

theorem GivesI.lit0 (w : World) : GivesI w [] (.returned (.slice (some ⟨w.heap.size, 0, none⟩) 0 0)) (w.alloc (.cells #[] 3)) :=
  ⟨some ⟨w.heap.size, 0, none⟩, 0, rfl, World.ownsRow_lit w #[] 0 (Nat.le_refl _) (by simp [maxLen]) rfl, (Below.refl _ _).alloc (Nat.le_refl _) _⟩
theorem SliceI.alloc0 {w : World} {B n : Nat} {A : Option Addr} {xs : List Int} {o : Obj} (h : SliceI w B A n xs) : SliceI (w.alloc o) B A n xs := ⟨h.1, fun hn => by
  obtain ⟨b, off, e, hb, hc⟩ := h.2 hn
  refine ⟨b, off, e, hb, fun k hk => ?_⟩
  have := hc k hk
  rw [World.cell?_alloc_some _ _ _ (by rw [this]; rfl)]
  exact this⟩
theorem add_plain (b off j : Nat) : (⟨b, off, none⟩ : Addr).add j = ⟨b, off + j, none⟩ := by
  unfold Addr.add
  split
  · next h => subst h; rfl
  · rfl
theorem SliceI.news {w : World} {B b off : Nat} {xs : List Int} (h : SliceI w B (some ⟨b, off, none⟩) xs.length xs) : ∀ j u, (vals xs)[j]? = some u → w.cell? ((⟨b, off, none⟩ : Addr).add j) = some u := by
  intro j u hu
  have hj : j < xs.length := by
    rcases Nat.lt_or_ge j xs.length with hh | hh
    · exact hh
    · rw [List.getElem?_eq_none (by simpa [vals] using hh)] at hu; cases hu
  obtain ⟨b', off', e, _, hc⟩ := h.2 (by omega)
  simp only [Option.some.injEq, Addr.mk.injEq, and_true] at e
  obtain ⟨rfl, rfl⟩ := e
  rw [add_plain, hc j hj, ← vals_get hj, hu]
/-- an append to a list of the call's own, behind the block of the new element -/
theorem below_app {w wr w2 : World} {v : Value} {n : Nat} {xs : List Value} {o : Obj} (hbel : Below w.heap.size w wr) (hown : wr.ownsRow w.heap.size 3 1 v n xs) (hg : (wr.alloc o).grownBy w2 v.ownBlock) : Below w.heap.size w w2 :=
  (hbel.alloc hbel.size o).grown hg (by have := hbel.size; simp; omega) (fun k hk => (hown.lt k hk).1)
theorem map_take {f : Int → Int} {xs : List Int} {k : Nat} (hk : k < xs.length) : vals ((xs.map f).take k) ++ [.int .i64 (f (xs.getD k 0))] = vals ((xs.map f).take (k + 1)) := by
  rw [List.take_succ_eq_append_getElem (by simpa using hk)]
  simp [vals, hk]

/-! copy -/
def mixed (xs : List Int) (n k : Nat) : List Int := xs.take k ++ List.replicate (n - k) 0
theorem mixed_zero (xs : List Int) (n : Nat) : mixed xs n 0 = List.replicate n 0 := by simp [mixed]
theorem mixed_all {xs : List Int} {n : Nat} (h : xs.length = n) : mixed xs n n = xs := by simp [mixed, ← h]
theorem mixed_set {xs : List Int} {n k : Nat} (h : xs.length = n) (hk : k < n) : (vals (mixed xs n k)).set k (.int .i64 (xs.getD k 0)) = vals (mixed xs n (k + 1)) := by
  unfold vals mixed
  apply List.ext_getElem?
  intro j
  simp only [List.getElem?_set, List.length_map, List.length_append, List.length_take, List.length_replicate, List.getElem?_map, List.getElem?_append, List.getElem?_take, List.getElem?_replicate]
  have m1 : min k n = k := by omega
  have m2 : min (k + 1) n = k + 1 := by omega
  have m3 : 0 < n - k := by omega
  by_cases e : k = j
  · subst e
    simp [h, hk, m1, m2, m3]
  · by_cases hj : j < k
    · have h3 : j < k + 1 := by omega
      have h2 : j < n := by omega
      simp [e, h, hj, m1, m2, h3]
    · have h3 : ¬ j < k + 1 := by omega
      simp only [if_neg e, h, m1, m2, if_neg hj, if_neg h3]
      by_cases hjn : j < n
      · rw [if_pos (by omega), if_pos (by omega)]
      · rw [if_neg (by omega), if_neg (by omega)]

/-! compare two lists that are equal -/

/-! mark, and ask for the marks -/
def seq (k : Int) (n : Nat) : List Int := (List.range n).map fun (i : Nat) => k + (i : Int)
theorem seq_len (k : Int) (n : Nat) : (seq k n).length = n := by simp [seq]
theorem seq_get {k : Int} {n i : Nat} (h : i < n) : (seq k n).getD i 0 = k + (i : Int) := by simp [seq, h]
def marked (xs : List Int) (k0 : Int) (k : Nat) : List Int := seq k0 k ++ xs.drop k
theorem marked_zero (xs : List Int) (k0 : Int) : marked xs k0 0 = xs := by simp [marked, seq]
theorem marked_all {xs : List Int} {n : Nat} (k0 : Int) (h : xs.length = n) : marked xs k0 n = seq k0 n := by simp [marked, ← h]
theorem marked_set {xs : List Int} {n k : Nat} (k0 : Int) (h : xs.length = n) (hk : k < n) : (vals (marked xs k0 k)).set k (.int .i64 (k0 + (k : Int))) = vals (marked xs k0 (k + 1)) := by
  unfold vals marked seq
  apply List.ext_getElem?
  intro j
  simp only [List.getElem?_set, List.length_map, List.length_append, List.length_drop, List.length_range, List.getElem?_map, List.getElem?_append, List.getElem?_drop]
  by_cases e : k = j
  · subst e
    have m1 : k < k + (n - k) := by omega
    simp [h, m1]
  · by_cases hj : j < k
    · have h3 : j < k + 1 := by omega
      simp [e, hj, h3]
    · have h3 : ¬ j < k + 1 := by omega
      simp only [if_neg e, if_neg hj, if_neg h3]
      rw [show k + (j - k) = k + 1 + (j - (k + 1)) by omega]
theorem OwnI.lt {w : World} {lo n c : Nat} {A : Option Addr} {xs : List Int} (h : OwnI w lo A n c xs) : ∀ a, A = some a → a.block < w.heap.size := fun a e => by
  subst e; exact (World.ownsRow.lt h a.block rfl).2
theorem OwnI.ge {w : World} {lo n c : Nat} {A : Option Addr} {xs : List Int} (h : OwnI w lo A n c xs) : ∀ a, A = some a → lo ≤ a.block := fun a e => by
  subst e; exact (World.ownsRow.lt h a.block rfl).1
/-- what a mark on one list leaves alone: another list of the call's own, a list that came in, a block -/
theorem OwnI.marked {w w' : World} {lo n c n' c' : Nat} {A A' : Option Addr} {xs : List Int} (h : OwnI w lo A n c xs) (hg : w.grownBy w' (Value.ownBlock (.slice A' n' c'))) (hd : ∀ a b, A = some a → A' = some b → a.block ≠ b.block) : OwnI w' lo A n c xs :=
  h.far hg fun a ha e => by
    cases A' with
    | none => cases e
    | some b => exact hd a b ha rfl (by simpa [Value.ownBlock] using e.symm)
theorem SliceI.marked {w w' : World} {B n n' c' : Nat} {A A' : Option Addr} {xs : List Int} (h : SliceI w B A n xs) (hg : w.grownBy w' (Value.ownBlock (.slice A' n' c'))) (hB : B ≤ w.heap.size) (hd : ∀ b, A' = some b → B ≤ b.block) : SliceI w' B A n xs :=
  h.keep fun b o hb => World.cell?_of_block (hg.block b (Nat.lt_of_lt_of_le hb hB) fun e => by
    cases A' with
    | none => cases e
    | some a =>
      have := hd a rfl
      have e' : b = a.block := by simpa [Value.ownBlock] using e
      omega)
theorem Box.marked {w w' : World} {g t n' c' : Nat} {cs : Array Value} {A' : Option Addr} (h : Box w g t cs) (hg : w.grownBy w' (Value.ownBlock (.slice A' n' c'))) (hd : ∀ b, A' = some b → g ≠ b.block) : Box w' g t cs :=
  (hg.block g h.lt fun e => by
    cases A' with
    | none => cases e
    | some a => exact hd a rfl (by simpa [Value.ownBlock] using e)).trans h
theorem below_marked {w w1 w2 : World} {n' c' : Nat} {A' : Option Addr} (h : Below w.heap.size w w1) (hg : w1.grownBy w2 (Value.ownBlock (.slice A' n' c'))) (hd : ∀ b, A' = some b → w.heap.size ≤ b.block) : Below w.heap.size w w2 :=
  h.grown hg h.size fun k hk => by
    cases A' with
    | none => cases hk
    | some a =>
      have := hd a rfl
      have e' : k = a.block := by simpa [Value.ownBlock] using hk.symm
      omega
end Go.Proofs.YtaacognadfodlaaDoor
