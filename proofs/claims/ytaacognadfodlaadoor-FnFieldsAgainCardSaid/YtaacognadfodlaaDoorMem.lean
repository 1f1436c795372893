/- Slices of integers as lists: a slice value that reads as a list of numbers; it is kept while nothing below a bound changes. -/
import Derived.WalkKit
import Derived.Below
import Derived.Lib.Hide
import Derived.Deep.Draws
import Derived.Laws.OwnMore
import Derived.Laws.Rows
namespace Go.Proofs.YtaacognadfodlaaDoor
open Go.RowKit

/-- The slice value 'slice A n c' holds the numbers xs, in a block below B. -/
def SliceI (w : World) (B : Nat) (A : Option Addr) (n : Nat) (xs : List Int) : Prop :=
  xs.length = n ∧ (0 < n → ∃ b off, A = some ⟨b, off, none⟩ ∧ b < B ∧ ∀ k, k < n → w.cell? ⟨b, off + k, none⟩ = some (.int .i64 (xs.getD k 0)))

section
variable {w w' : World} {B B' n : Nat} {A : Option Addr} {xs : List Int}
theorem SliceI.len (h : SliceI w B A n xs) : xs.length = n := h.1
theorem SliceI.nil : SliceI w B A 0 [] := ⟨rfl, fun h => absurd h (by omega)⟩
theorem SliceI.at_ {k : Nat} (h : SliceI w B A n xs) (hk : k < n) : ∃ b off, A = some ⟨b, off, none⟩ ∧ b < B ∧ w.cell? ⟨b, off + k, none⟩ = some (.int .i64 (xs.getD k 0)) := by
  obtain ⟨b, off, e, hb, hc⟩ := h.2 (by omega)
  exact ⟨b, off, e, hb, hc k hk⟩
theorem SliceI.keep (h : SliceI w B A n xs) (hk : ∀ b o, b < B → w'.cell? ⟨b, o, none⟩ = w.cell? ⟨b, o, none⟩) : SliceI w' B A n xs :=
  ⟨h.1, fun hn => by
    obtain ⟨b, off, e, hb, hc⟩ := h.2 hn
    exact ⟨b, off, e, hb, fun k hkn => (hk b _ hb).trans (hc k hkn)⟩⟩
theorem SliceI.more (h : SliceI w B A n xs) (hB : B ≤ B') : SliceI w B' A n xs :=
  ⟨h.1, fun hn => by
    obtain ⟨b, off, e, hb, hc⟩ := h.2 hn
    exact ⟨b, off, e, by omega, hc⟩⟩
theorem SliceI.below (h : SliceI w B A n xs) (hb : Below B w w') : SliceI w' B A n xs := h.keep fun b o hlt => hb.cell (p := ⟨b, o, none⟩) hlt
theorem SliceI.below_le (h : SliceI w B A n xs) (hb : Below B' w w') (hB : B ≤ B') : SliceI w' B A n xs := h.keep fun b o hlt => hb.cell (p := ⟨b, o, none⟩) (Nat.lt_of_lt_of_le hlt hB)
theorem SliceI.lits (w : World) (xs : List Int) (t : TypeId) : SliceI (w.alloc (.cells (xs.map (Value.int .i64)).toArray t)) (w.heap.size + 1) (some ⟨w.heap.size, 0, none⟩) xs.length xs :=
  ⟨rfl, fun _ => ⟨w.heap.size, 0, rfl, by omega, fun k hk => by
    rw [cell_of_row _ _ _ _ t (0, 0) (heap_alloc_new w _)]
    simp [hk]⟩⟩
theorem SliceI.one (w : World) (a : Int) (t : TypeId) : SliceI (w.alloc (.cells #[.int .i64 a] t)) (w.heap.size + 1) (some ⟨w.heap.size, 0, none⟩) 1 [a] := by simpa using SliceI.lits w [a] t
theorem SliceI.two (w : World) (a b : Int) (t : TypeId) : SliceI (w.alloc (.cells #[.int .i64 a, .int .i64 b] t)) (w.heap.size + 1) (some ⟨w.heap.size, 0, none⟩) 2 [a, b] := by simpa using SliceI.lits w [a, b] t
theorem SliceI.three (w : World) (a b c : Int) (t : TypeId) : SliceI (w.alloc (.cells #[.int .i64 a, .int .i64 b, .int .i64 c] t)) (w.heap.size + 1) (some ⟨w.heap.size, 0, none⟩) 3 [a, b, c] := by simpa using SliceI.lits w [a, b, c] t
theorem SliceI.four (w : World) (a b c d : Int) (t : TypeId) : SliceI (w.alloc (.cells #[.int .i64 a, .int .i64 b, .int .i64 c, .int .i64 d] t)) (w.heap.size + 1) (some ⟨w.heap.size, 0, none⟩) 4 [a, b, c, d] := by simpa using SliceI.lits w [a, b, c, d] t
end

/-- What the walk is told of a slice of integers that came in. -/
def IsRow (k : IntKind) (w : World) (a : Option Addr) (len cap : Nat) (zs : List Int) : Prop :=
  (a = none ∧ len = 0 ∧ cap = 0 ∧ zs = []) ∨
  ∃ x, a = some x ∧ len ≤ cap ∧ cap ≤ maxLen ∧ zs.length = cap ∧ (∀ i, i < zs.length → w.cell? (x.add i) = some (.int k (zs.getD i 0))) ∧ ∀ n ∈ zs, (Lit.int k n).wf = true

theorem IsRow.slice {w : World} {a : Option Addr} {len cap : Nat} {zs : List Int} (h : IsRow .i64 w a len cap zs) : SliceI w w.heap.size a len (zs.take len) := by
  rcases h with ⟨rfl, rfl, rfl, rfl⟩ | ⟨x, rfl, hl, _, hz, hcell, _⟩
  · exact SliceI.nil
  · refine ⟨by rw [List.length_take]; omega, fun hn => ?_⟩
    obtain ⟨b, off, spot⟩ := x
    have h0 := hcell 0 (by omega)
    have hs : spot = none := by simpa [Addr.add] using World.cell?_spot h0
    subst hs
    refine ⟨b, off, rfl, ?_, fun k hk => ?_⟩
    · rcases Nat.lt_or_ge b w.heap.size with hh | hh
      · exact hh
      · have e : ((⟨b, off, none⟩ : Addr).add 0).block = b := rfl
        unfold World.cell? at h0
        rw [e, Array.getElem?_eq_none hh] at h0
        cases h0
    · have hk' := hcell k (by omega)
      have e : (⟨b, off, none⟩ : Addr).add k = ⟨b, off + k, none⟩ := by
        unfold Addr.add
        split
        · next h => subst h; rfl
        · rfl
      rw [e] at hk'
      rw [hk']
      simp [List.getD_eq_getElem?_getD, hk]
theorem SliceI.next {w w' : World} {A : Option Addr} {n : Nat} {xs : List Int} (h : SliceI w w.heap.size A n xs) (hb : Below w.heap.size w w') : SliceI w' w'.heap.size A n xs := (h.below hb).more hb.size

/-! blocks that are known whole -/
def Box (w : World) (g : Nat) (t : TypeId) (cs : Array Value) : Prop := w.heap[g]? = some (.cells cs t (0, 0))
section
variable {w w' w1 w2 : World} {g : Nat} {t : TypeId} {cs : Array Value}
theorem Box.lt (h : Box w g t cs) : g < w.heap.size := by
  rcases Nat.lt_or_ge g w.heap.size with hl | hl
  · exact hl
  · unfold Box at h; rw [Array.getElem?_eq_none hl] at h; cases h
theorem Box.cell (h : Box w g t cs) (i : Nat) : w.cell? ⟨g, i, none⟩ = cs[i]? := cell_of_row w g i cs t (0, 0) h
theorem Box.free (h : Box w g t cs) (i : Nat) : w.frozen? ⟨g, i, none⟩ = false := by unfold Box at h; simp [World.frozen?, h]
theorem Box.new (w : World) (t : TypeId) (cs : Array Value) : Box (w.alloc (.cells cs t)) w.heap.size t cs := heap_alloc_new w _
theorem Box.alloc (h : Box w g t cs) (o : Obj) : Box (w.alloc o) g t cs := (Below.heap_alloc w o g h.lt).trans h
theorem Box.drew (h : Box w g t cs) : Box w.drew g t cs := h
theorem Box.drewN (h : Box w g t cs) (n : Nat) : Box (w.drewN n) g t cs := h
theorem Box.below (h : Box w g t cs) (hb : Below w.heap.size w w') : Box w' g t cs := (hb.block g h.lt).trans h
theorem Box.set (h : Box w g t cs) (i : Nat) (u : Value) : Box (w.setCell ⟨g, i, none⟩ u) g t (cs.setIfInBounds i u) := by
  unfold Box at h ⊢; simp [World.setCell, Array.getElem?_modify, h]
theorem Box.far (h : Box w g t cs) {p : Addr} (hp : g ≠ p.block) (u : Value) : Box (w.setCell p u) g t cs := (Below.heap_setCell w p u g hp).trans h
theorem below_next (h : Below w.heap.size w w1) (hb : Below w1.heap.size w1 w2) : Below w.heap.size w w2 := h.trans (hb.mono h.size)
/-- one block ahead of a call -/
theorem start1 {c1 : Array Value} {t1 : TypeId} (hb : Below (w.alloc (.cells c1 t1)).heap.size (w.alloc (.cells c1 t1)) w1) : Below w.heap.size w w1 ∧ Box w1 w.heap.size t1 c1 :=
  ⟨below_next ((Below.refl _ _).alloc (Nat.le_refl _) _) hb, (Box.new w t1 c1).below hb⟩
/-- two blocks ahead of a call -/
theorem start2 {c1 c2 : Array Value} {t1 t2 : TypeId} (hb : Below ((w.alloc (.cells c1 t1)).alloc (.cells c2 t2)).heap.size ((w.alloc (.cells c1 t1)).alloc (.cells c2 t2)) w1) :
    Below w.heap.size w w1 ∧ Box w1 w.heap.size t1 c1 ∧ Box w1 (w.heap.size + 1) t2 c2 :=
  ⟨below_next (((Below.refl _ _).alloc (Nat.le_refl _) _).alloc (by simp) _) hb, ((Box.new w t1 c1).alloc _).below hb, by
    have := (Box.new (w.alloc (.cells c1 t1)) t2 c2).below hb
    simpa using this⟩
/-- one block more since the last call -/
theorem next1 {c1 : Array Value} {t1 : TypeId} (h : Below w.heap.size w w1) (hb : Below (w1.alloc (.cells c1 t1)).heap.size (w1.alloc (.cells c1 t1)) w2) : Below w.heap.size w w2 ∧ Box w2 w1.heap.size t1 c1 :=
  ⟨below_next (h.alloc h.size _) hb, (Box.new w1 t1 c1).below hb⟩
end

theorem below_drewN {B : Nat} {a w : World} (h : Below B a w) (n : Nat) : Below B a (w.drewN n) := ⟨h.os, h.tape, h.output, h.size, h.block⟩
end Go.Proofs.YtaacognadfodlaaDoor
