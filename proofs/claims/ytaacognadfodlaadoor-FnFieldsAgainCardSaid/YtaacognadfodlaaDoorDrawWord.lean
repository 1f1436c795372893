/- The walks of the reference's draws of words and places. -/
import Derived.Test.YtaacognadfodlaaDoorDraw
import Derived.Test.YtaacognadfodlaaDoorList
import Derived.Deep.AppendLies
import Derived.Laws.AppendOwnNone
import Derived.OwnWalk
namespace Go.Proofs.YtaacognadfodlaaDoor
open Go.RowKit

theorem Box.grown {w w' : World} {g b : Nat} {t : TypeId} {cs : Array Value} (h : Box w b t cs) (hg : w.grownBy w' (some g)) (hne : b ≠ g) : Box w' b t cs := (hg.block b h.lt (fun e => hne (by injection e))).trans h
set_option maxHeartbeats 1000000 in
theorem c_spec_l01PickInt (g b : Nat) (xs : List Int) (w : World) (hc : CurAt w g) (hb : Box w b 3 (vals xs).toArray) (hne : b ≠ g) (h0 : 0 < xs.length) (h1 : xs.length ≤ 1000) :
    Calls Tryd.prog 51 #[.pointer (some ⟨g, 0, none⟩), .slice (some ⟨b, 0, none⟩) xs.length xs.length] w (GivesCur w g (fun v => v ∈ xs)) := by
  have HB := Lib.hid hb
  clear hb
  go_enter Tryd.func51, Tryd.ntmps51
  go_wp2_with fail
  refine (c_spec_l01Below _ _ _ hc (by omega) (by omega)).mono ?_
  rintro e w1 ⟨v, ⟨v0, v1⟩, rfl, hc1, hg1⟩
  obtain ⟨k, rfl⟩ := Int.eq_ofNat_of_zero_le v0
  have hk : k < xs.length := by omega
  have hcell := (((HB.out.grown hg1 hne).cell k).trans (by simpa using vals_get hk) : w1.cell? ⟨b, k, none⟩ = some (.int .i64 (xs.getD k 0)))
  have hmem : Hid (xs.getD k 0 ∈ xs) := by
    show xs.getD k 0 ∈ xs
    rw [List.getD_eq_getElem?_getD, List.getElem?_eq_getElem hk]
    exact List.getElem_mem hk
  have HC := Lib.hid hc1
  have HG := Lib.hid hg1
  generalize xs.getD k 0 = y at hcell hmem
  clear hc hc1 hg1
  go_wp2_with fail
  go_ret
  exact ⟨y, hmem.out, rfl, HC.out, HG.out⟩
def Word (v : Int) : Prop := 0 ≤ v ∧ v ≤ 4294967295
theorem CurAt.alloc {w : World} {g : Nat} (h : CurAt w g) (o : Obj) : CurAt (w.alloc o) g := by
  obtain ⟨A, n, c, k, q, hb, hs, hn⟩ := h
  have hlt := hb.lt
  exact ⟨A, n, c, k, q, hb.alloc o, hs.keep (fun b o hb => World.cell?_alloc_past _ _ _ (by omega)), hn⟩
theorem grown_alloc {w : World} (o : Obj) (row : Option Nat) : w.grownBy (w.alloc o) row := ⟨rfl, rfl, rfl, by simp, fun i hi _ => Below.heap_alloc w o i hi⟩
theorem CurAt.lt {w : World} {g : Nat} (h : CurAt w g) : g < w.heap.size := by obtain ⟨A, n, c, k, q, hb, _⟩ := h; exact hb.lt
def GivesInt (w : World) (P : Int → Prop) (e : Ending) (w' : World) : Prop := ∃ v : Int, P v ∧ e = .returned (.int .i64 v) ∧ Below w.heap.size w w'
theorem below_cur {w w1 w2 : World} (hb : Below w.heap.size w w1) (hg : w1.grownBy w2 (some w.heap.size)) : Below w.heap.size w w2 :=
  hb.grown hg hb.size (fun k hk => by cases hk; exact Nat.le_refl _)
end Go.Proofs.YtaacognadfodlaaDoor
