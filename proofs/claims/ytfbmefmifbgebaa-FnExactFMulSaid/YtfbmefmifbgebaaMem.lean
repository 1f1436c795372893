/- Slices of integers as lists: a slice value that reads as a list of numbers; it is kept while nothing below a bound changes. -/
import Derived.WalkKit
import Derived.Below
import Derived.Lib.Hide
import Derived.Deep.Draws
import Derived.Laws.OwnMore
import Derived.Laws.Rows
namespace Go.Proofs.Ytfbmefmifbgebaa
open Go.RowKit

/-- The slice value 'slice A n c' holds the numbers xs, in a block below B. -/
def SliceI (w : World) (B : Nat) (A : Option Addr) (n : Nat) (xs : List Int) : Prop :=
  xs.length = n ∧ (0 < n → ∃ b off, A = some ⟨b, off, none⟩ ∧ b < B ∧ ∀ k, k < n → w.cell? ⟨b, off + k, none⟩ = some (.int .i64 (xs.getD k 0)))

section
variable {w w' : World} {B B' n : Nat} {A : Option Addr} {xs : List Int}
theorem SliceI.len (h : SliceI w B A n xs) : xs.length = n := h.1
theorem SliceI.nil : SliceI w B A 0 [] := ⟨rfl, fun h => absurd h (by omega)⟩
theorem SliceI.at_ {k : Nat} (h : SliceI w B A n xs) (hk : k < n) : ∃ b off, A = some ⟨b, off, none⟩ ∧ b < B ∧ w.cell? ⟨b, off + k, none⟩ = some (.int .i64 (xs.getD k 0)) := by
  obtain ⟨b, off, e, hb, hc⟩ := h.2 (by omega)
  exact ⟨b, off, e, hb, hc k hk⟩
theorem SliceI.keep (h : SliceI w B A n xs) (hk : ∀ b o, b < B → w'.cell? ⟨b, o, none⟩ = w.cell? ⟨b, o, none⟩) : SliceI w' B A n xs :=
  ⟨h.1, fun hn => by
    obtain ⟨b, off, e, hb, hc⟩ := h.2 hn
    exact ⟨b, off, e, hb, fun k hkn => (hk b _ hb).trans (hc k hkn)⟩⟩
theorem SliceI.more (h : SliceI w B A n xs) (hB : B ≤ B') : SliceI w B' A n xs :=
  ⟨h.1, fun hn => by
    obtain ⟨b, off, e, hb, hc⟩ := h.2 hn
    exact ⟨b, off, e, by omega, hc⟩⟩
theorem SliceI.below (h : SliceI w B A n xs) (hb : Below B w w') : SliceI w' B A n xs := h.keep fun b o hlt => hb.cell (p := ⟨b, o, none⟩) hlt
theorem SliceI.below_le (h : SliceI w B A n xs) (hb : Below B' w w') (hB : B ≤ B') : SliceI w' B A n xs := h.keep fun b o hlt => hb.cell (p := ⟨b, o, none⟩) (Nat.lt_of_lt_of_le hlt hB)
theorem SliceI.two (w : World) (a b : Int) (t : TypeId) : SliceI (w.alloc (.cells #[.int .i64 a, .int .i64 b] t)) (w.heap.size + 1) (some ⟨w.heap.size, 0, none⟩) 2 [a, b] :=
  ⟨rfl, fun _ => ⟨w.heap.size, 0, rfl, by omega, fun k hk => by
    match k, hk with
    | 0, _ => exact cell_of_row _ _ 0 _ t (0, 0) (heap_alloc_new w _)
    | 1, _ => exact cell_of_row _ _ 1 _ t (0, 0) (heap_alloc_new w _)⟩⟩
end

/-- What the walk is told of a slice of integers that came in. -/
def IsRow (k : IntKind) (w : World) (a : Option Addr) (len cap : Nat) (zs : List Int) : Prop :=
  (a = none ∧ len = 0 ∧ cap = 0 ∧ zs = []) ∨
  ∃ x, a = some x ∧ len ≤ cap ∧ cap ≤ maxLen ∧ zs.length = cap ∧ (∀ i, i < zs.length → w.cell? (x.add i) = some (.int k (zs.getD i 0))) ∧ ∀ n ∈ zs, (Lit.int k n).wf = true

theorem below_drewN {B : Nat} {a w : World} (h : Below B a w) (n : Nat) : Below B a (w.drewN n) := ⟨h.os, h.tape, h.output, h.size, h.block⟩
end Go.Proofs.Ytfbmefmifbgebaa
