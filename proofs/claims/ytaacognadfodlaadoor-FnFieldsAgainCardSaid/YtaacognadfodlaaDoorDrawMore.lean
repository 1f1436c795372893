/- The walks of the reference's draws of places, primes and tapes. -/
import Derived.Test.YtaacognadfodlaaDoorDrawWord
import Derived.Maps.AppendAt
import Derived.OwnWalk
namespace Go.Proofs.YtaacognadfodlaaDoor
open Go.RowKit

theorem CurAt.far {w w' : World} {g : Nat} {row : Option Nat} (h : CurAt w g) (hg : w.grownBy w' row) (hr : ∀ k, row = some k → g < k) : CurAt w' g := by
  obtain ⟨A, n, c, k, q, hb, hs, hn⟩ := h
  have hlt := hb.lt
  refine ⟨A, n, c, k, q, (hg.block g hlt (fun e => by have := hr g e.symm; omega)).trans hb, hs.keep (fun b o hb => World.cell?_of_block (hg.block b (by omega) (fun e => by have := hr b e.symm; omega))), hn⟩
/-- twelve numbers from 0 to 9999 -/
def Places (xs : List Int) : Prop := xs.length = 12 ∧ ∀ x ∈ xs, 0 ≤ x ∧ x < 10000
def GivesPlaces (w : World) (e : Ending) (w' : World) : Prop := ∃ xs, Places xs ∧ GivesI w xs e w'
def primes : List Int := [2, 3, 5, 7, 11, 13, 31, 97, 101]
/-- a drawn tape -/
def TapeP (s t : Int) : Prop := (0 ≤ s ∧ s ≤ 4294967295) ∧ 0 ≤ t ∧ t < 50
def GivesTapeCur (w : World) (g : Nat) (e : Ending) (w' : World) : Prop := ∃ s t : Int, TapeP s t ∧ e = .returned (.agg #[.int .i64 s, .int .i64 t]) ∧ CurAt w' g ∧ w.grownBy w' (some g)
def GivesTape (w : World) (e : Ending) (w' : World) : Prop := ∃ s t : Int, TapeP s t ∧ e = .returned (.agg #[.int .i64 s, .int .i64 t]) ∧ Below w.heap.size w w'
theorem grown_box {w w1 : World} {g t : Nat} {cs : Array Value} (hg : (w.alloc (.cells cs t)).grownBy w1 (some g)) (hlt : g < w.heap.size) : Box w1 w.heap.size t cs :=
  (Box.new w t cs).grown hg (by omega)
end Go.Proofs.YtaacognadfodlaaDoor
