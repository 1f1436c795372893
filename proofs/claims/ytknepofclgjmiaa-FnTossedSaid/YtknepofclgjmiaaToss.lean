/- Commitments and openings as a struct of three lists: its copy, its comparison, its size. -/
import Derived.Test.YtknepofclgjmiaaRows
import Derived.Test.YtknepofclgjmiaaPlain
import Derived.Test.YtknepofclgjmiaaMem
import Derived.Test.YtknepofclgjmiaaWords
import Derived.Test.YtknepofclgjmiaaList
import Derived.Test.YtknepofclgjmiaaCommit
import Derived.WalkKit
import Derived.WalkSpells
import Derived.WalkLawsBesides
import Derived.Handy
import Derived.RegionTactic
import Derived.BigQuiet
import Derived.Deep.QuietTactic
import Derived.Deep.RegionWith
import Derived.Deep.RegionHeld3
import Derived.Deep.Onto
import Derived.Lib.Hide
namespace Go.Proofs.Ytknepofclgjmiaa
open Go.RowKit

def sameT (n0 n1 n2 : Nat) : Bool := decide (n0 = n1) && decide (n0 = n2)
/-- the first wrong opening from i on, in n rounds -/
def cheatGo (vs ns cs : List Int) : Nat → Nat → Int
  | 0, _ => -1
  | f + 1, i => if openF (cs.getD i 0) (vs.getD i 0) (ns.getD i 0) then cheatGo vs ns cs f (i + 1) else i
def cheatF (vs ns cs : List Int) : Int := if sameT vs.length ns.length cs.length then cheatGo vs ns cs vs.length 0 else -1
def CheatRel (vs ns cs : List Int) (n k : Nat) : Prop := cheatGo vs ns cs n 0 = cheatGo vs ns cs (n - k) k
theorem CheatRel.zero (vs ns cs : List Int) (n : Nat) : CheatRel vs ns cs n 0 := rfl
theorem CheatRel.step {vs ns cs : List Int} {n k : Nat} (h : CheatRel vs ns cs n k) (hk : k < n) (ho : openF (cs.getD k 0) (vs.getD k 0) (ns.getD k 0) = true) : CheatRel vs ns cs n (k + 1) := by
  unfold CheatRel at h ⊢
  rw [h, show n - k = (n - (k + 1)) + 1 by omega, cheatGo, if_pos ho]
theorem CheatRel.found {vs ns cs : List Int} {n k : Nat} (h : CheatRel vs ns cs n k) (hk : k < n) (ho : openF (cs.getD k 0) (vs.getD k 0) (ns.getD k 0) = false) : cheatGo vs ns cs n 0 = k := by
  unfold CheatRel at h
  rw [h, show n - k = (n - (k + 1)) + 1 by omega, cheatGo, if_neg (by rw [ho]; exact Bool.false_ne_true)]
theorem CheatRel.done {vs ns cs : List Int} {n : Nat} (h : CheatRel vs ns cs n n) : cheatGo vs ns cs n 0 = -1 := by
  unfold CheatRel at h
  rw [h, Nat.sub_self, cheatGo]
theorem cheatGo_open {vs ns cs : List Int} : ∀ (f i : Nat), cheatGo vs ns cs f i = -1 → ∀ j, i ≤ j → j < i + f → openF (cs.getD j 0) (vs.getD j 0) (ns.getD j 0) = true
  | 0, i, _, j, h1, h2 => by omega
  | f + 1, i, h, j, h1, h2 => by
    unfold cheatGo at h
    split at h
    · next ho =>
      rcases Nat.eq_or_lt_of_le h1 with rfl | hl
      · exact ho
      · exact cheatGo_open f (i + 1) h j hl (by omega)
    · omega
theorem cheat_no {vs ns cs : List Int} (h : sameT vs.length ns.length cs.length = false) : cheatF vs ns cs = -1 := by simp [cheatF, h]
theorem cheat_yes {vs ns cs : List Int} (h : sameT vs.length ns.length cs.length = true) : cheatF vs ns cs = cheatGo vs ns cs vs.length 0 := by simp [cheatF, h]

theorem SliceI.set {w : World} {B n : Nat} {A : Option Addr} {xs : List Int} {p : Addr} {u : Value} (h : SliceI w B A n xs) (hp : B ≤ p.block) : SliceI (w.setCell p u) B A n xs :=
  h.keep fun b o hb => World.cell?_of_block (Below.heap_setCell w p u b (by intro e; omega))
theorem OwnI.set {w : World} {lo n c : Nat} {A : Option Addr} {xs : List Int} {p : Addr} {u : Value} (h : OwnI w lo A n c xs) (hp : ∀ a, A = some a → a.block ≠ p.block) : OwnI (w.setCell p u) lo A n c xs :=
  World.ownsRow.kept (row := some p.block) h ⟨rfl, rfl, rfl, by simp, fun k _ hk => Below.heap_setCell w p u k fun e => hk (by rw [e])⟩ (by
    cases A with
    | none => exact .inl rfl
    | some a => exact .inr (by simp only [Value.ownBlock]; exact fun e => hp a rfl (Option.some.inj e)))
theorem start3T {w w1 : World} {c1 c2 c3 : Array Value} {t1 t2 t3 : TypeId} (hb : Below (((w.alloc (.cells c1 t1)).alloc (.cells c2 t2)).alloc (.cells c3 t3)).heap.size (((w.alloc (.cells c1 t1)).alloc (.cells c2 t2)).alloc (.cells c3 t3)) w1) :
    Below w.heap.size w w1 ∧ Box w1 w.heap.size t1 c1 ∧ Box w1 (w.heap.size + 1) t2 c2 ∧ Box w1 (w.heap.size + 1 + 1) t3 c3 :=
  ⟨below_next ((((Below.refl _ _).alloc (Nat.le_refl _) _).alloc (by simp) _).alloc (by simp; omega) _) hb, (((Box.new w t1 c1).alloc _).alloc _).below hb, by
    have := ((Box.new (w.alloc (.cells c1 t1)) t2 c2).alloc (.cells c3 t3)).below hb
    simpa using this, by
    have := (Box.new ((w.alloc (.cells c1 t1)).alloc (.cells c2 t2)) t3 c3).below hb
    simpa using this⟩
/-- A call that hands back three lists in new memory. -/
def GivesT (w : World) (xs ys zs : List Int) (e : Ending) (w' : World) : Prop :=
  ∃ A0 c0 A1 c1 A2 c2, e = .returned (.agg #[.slice A0 xs.length c0, .slice A1 ys.length c1, .slice A2 zs.length c2]) ∧ OwnI w' w.heap.size A0 xs.length c0 xs ∧ OwnI w' w.heap.size A1 ys.length c1 ys ∧ OwnI w' w.heap.size A2 zs.length c2 zs ∧ Below w.heap.size w w'
def szT (l : Int) (n0 n1 n2 : Nat) : Int := if l < (n0 : Int) + (n1 : Int) + (n2 : Int) then -1 else l - (n0 : Int) - (n1 : Int) - (n2 : Int)
end Go.Proofs.Ytknepofclgjmiaa
