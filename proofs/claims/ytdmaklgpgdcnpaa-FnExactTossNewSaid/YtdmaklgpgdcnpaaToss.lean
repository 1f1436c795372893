/- Commitments and openings as a struct of three lists: its copy, its comparison, its size. -/
import Derived.Test.YtdmaklgpgdcnpaaRows
import Derived.Test.YtdmaklgpgdcnpaaPlain
import Derived.Test.YtdmaklgpgdcnpaaMem
import Derived.Test.YtdmaklgpgdcnpaaWords
import Derived.Test.YtdmaklgpgdcnpaaList
import Derived.Test.YtdmaklgpgdcnpaaCommit
import Derived.WalkKit
import Derived.WalkSpells
import Derived.WalkLawsBesides
import Derived.Handy
import Derived.RegionTactic
import Derived.BigQuiet
import Derived.Deep.QuietTactic
import Derived.Deep.RegionWith
import Derived.Deep.RegionHeld3
import Derived.Deep.Onto
import Derived.Lib.Hide
namespace Go.Proofs.Ytdmaklgpgdcnpaa
open Go.RowKit

def sameT (n0 n1 n2 : Nat) : Bool := decide (n0 = n1) && decide (n0 = n2)
/-- the first wrong opening from i on, in n rounds -/
def cheatGo (vs ns cs : List Int) : Nat → Nat → Int
  | 0, _ => -1
  | f + 1, i => if openF (cs.getD i 0) (vs.getD i 0) (ns.getD i 0) then cheatGo vs ns cs f (i + 1) else i
def cheatF (vs ns cs : List Int) : Int := if sameT vs.length ns.length cs.length then cheatGo vs ns cs vs.length 0 else -1
def CheatRel (vs ns cs : List Int) (n k : Nat) : Prop := cheatGo vs ns cs n 0 = cheatGo vs ns cs (n - k) k
theorem CheatRel.zero (vs ns cs : List Int) (n : Nat) : CheatRel vs ns cs n 0 := rfl
theorem CheatRel.step {vs ns cs : List Int} {n k : Nat} (h : CheatRel vs ns cs n k) (hk : k < n) (ho : openF (cs.getD k 0) (vs.getD k 0) (ns.getD k 0) = true) : CheatRel vs ns cs n (k + 1) := by
  unfold CheatRel at h ⊢
  rw [h, show n - k = (n - (k + 1)) + 1 by omega, cheatGo, if_pos ho]
theorem CheatRel.found {vs ns cs : List Int} {n k : Nat} (h : CheatRel vs ns cs n k) (hk : k < n) (ho : openF (cs.getD k 0) (vs.getD k 0) (ns.getD k 0) = false) : cheatGo vs ns cs n 0 = k := by
  unfold CheatRel at h
  rw [h, show n - k = (n - (k + 1)) + 1 by omega, cheatGo, if_neg (by rw [ho]; exact Bool.false_ne_true)]
theorem CheatRel.done {vs ns cs : List Int} {n : Nat} (h : CheatRel vs ns cs n n) : cheatGo vs ns cs n 0 = -1 := by
  unfold CheatRel at h
  rw [h, Nat.sub_self, cheatGo]
theorem cheatGo_open {vs ns cs : List Int} : ∀ (f i : Nat), cheatGo vs ns cs f i = -1 → ∀ j, i ≤ j → j < i + f → openF (cs.getD j 0) (vs.getD j 0) (ns.getD j 0) = true
  | 0, i, _, j, h1, h2 => by omega
  | f + 1, i, h, j, h1, h2 => by
    unfold cheatGo at h
    split at h
    · next ho =>
      rcases Nat.eq_or_lt_of_le h1 with rfl | hl
      · exact ho
      · exact cheatGo_open f (i + 1) h j hl (by omega)
    · omega
theorem cheat_no {vs ns cs : List Int} (h : sameT vs.length ns.length cs.length = false) : cheatF vs ns cs = -1 := by simp [cheatF, h]
theorem cheat_yes {vs ns cs : List Int} (h : sameT vs.length ns.length cs.length = true) : cheatF vs ns cs = cheatGo vs ns cs vs.length 0 := by simp [cheatF, h]

theorem SliceI.set {w : World} {B n : Nat} {A : Option Addr} {xs : List Int} {p : Addr} {u : Value} (h : SliceI w B A n xs) (hp : B ≤ p.block) : SliceI (w.setCell p u) B A n xs :=
  h.keep fun b o hb => World.cell?_of_block (Below.heap_setCell w p u b (by intro e; omega))
theorem OwnI.set {w : World} {lo n c : Nat} {A : Option Addr} {xs : List Int} {p : Addr} {u : Value} (h : OwnI w lo A n c xs) (hp : ∀ a, A = some a → a.block ≠ p.block) : OwnI (w.setCell p u) lo A n c xs :=
  World.ownsRow.kept (row := some p.block) h ⟨rfl, rfl, rfl, by simp, fun k _ hk => Below.heap_setCell w p u k fun e => hk (by rw [e])⟩ (by
    cases A with
    | none => exact .inl rfl
    | some a => exact .inr (by simp only [Value.ownBlock]; exact fun e => hp a rfl (Option.some.inj e)))
theorem start3T {w w1 : World} {c1 c2 c3 : Array Value} {t1 t2 t3 : TypeId} (hb : Below (((w.alloc (.cells c1 t1)).alloc (.cells c2 t2)).alloc (.cells c3 t3)).heap.size (((w.alloc (.cells c1 t1)).alloc (.cells c2 t2)).alloc (.cells c3 t3)) w1) :
    Below w.heap.size w w1 ∧ Box w1 w.heap.size t1 c1 ∧ Box w1 (w.heap.size + 1) t2 c2 ∧ Box w1 (w.heap.size + 1 + 1) t3 c3 :=
  ⟨below_next ((((Below.refl _ _).alloc (Nat.le_refl _) _).alloc (by simp) _).alloc (by simp; omega) _) hb, (((Box.new w t1 c1).alloc _).alloc _).below hb, by
    have := ((Box.new (w.alloc (.cells c1 t1)) t2 c2).alloc (.cells c3 t3)).below hb
    simpa using this, by
    have := (Box.new ((w.alloc (.cells c1 t1)).alloc (.cells c2 t2)) t3 c3).below hb
    simpa using this⟩
/-- A call that hands back three lists in new memory. -/
def GivesT (w : World) (xs ys zs : List Int) (e : Ending) (w' : World) : Prop :=
  ∃ A0 c0 A1 c1 A2 c2, e = .returned (.agg #[.slice A0 xs.length c0, .slice A1 ys.length c1, .slice A2 zs.length c2]) ∧ OwnI w' w.heap.size A0 xs.length c0 xs ∧ OwnI w' w.heap.size A1 ys.length c1 ys ∧ OwnI w' w.heap.size A2 zs.length c2 zs ∧ Below w.heap.size w w'
set_option maxHeartbeats 4000000 in
theorem c_laws_toToss (A0 A1 A2 : Option Addr) (c0 c1 c2 B : Nat) (xs ys zs : List Int) (w : World) (hx : SliceI w B A0 xs.length xs) (hy : SliceI w B A1 ys.length ys) (hz : SliceI w B A2 zs.length zs) (hB : B ≤ w.heap.size) (h0 : xs.length ≤ 1048576) (h1 : ys.length ≤ 1048576) (h2 : zs.length ≤ 1048576) :
    Calls Try.prog 15 #[.agg #[.slice A0 xs.length c0, .slice A1 ys.length c1, .slice A2 zs.length c2]] w (GivesT w xs ys zs) := by
  have HX := Lib.hid hx
  have HY := Lib.hid hy
  have HZ := Lib.hid hz
  clear hx hy hz
  go_enter Try.func15, Try.ntmps15
  go_wp2_with fail
  refine (c_laws_toIntS _ _ _ _ _ _ (SliceI.alloc0 (SliceI.alloc0 (SliceI.alloc0 HX.out))) (by simp; omega) h0).mono ?_
  rintro e w1 ⟨rfl, o0, hb⟩
  obtain ⟨bel, b1, b2, b3⟩ := start3T hb
  have HY1 := Lib.hid (HY.out.below_le bel hB)
  have HZ1 := Lib.hid (HZ.out.below_le bel hB)
  clear hb
  have k1 := b1.cell
  have k3 := b3.cell
  have f3 := b3.free
  have l3 := b3.lt
  simp only [World.size_alloc] at o0 ⊢
  go_wp2_with fail
  refine (c_laws_toIntS _ _ _ _ _ _ (SliceI.set HY1.out (show B ≤ w.heap.size + 1 + 1 by omega)) (by have := bel.size; simp; omega) h1).mono ?_
  rintro e w2 ⟨rfl, o1, hb⟩
  replace bel := below_next (bel.setCell (p := ⟨w.heap.size + 1 + 1, 0, none⟩) (show w.heap.size ≤ w.heap.size + 1 + 1 by omega) _) hb
  have HZ2 := Lib.hid ((SliceI.set HZ1.out (show B ≤ w.heap.size + 1 + 1 by omega)).below_le hb (by simp; omega))
  replace o0 := OwnI.below (OwnI.set (p := ⟨w.heap.size + 1 + 1, 0, none⟩) o0 (fun a e => by cases e; simp)) hb
  replace b1 := (b1.far (p := ⟨w.heap.size + 1 + 1, 0, none⟩) (by simp; omega) _).below hb
  replace b2 := (b2.far (p := ⟨w.heap.size + 1 + 1, 0, none⟩) (by simp) _).below hb
  replace b3 := (b3.set 0 _).below hb
  have l31 := l3
  clear hb k1 k3 f3 l3 HY1 HZ1
  simp only [World.size_setCell] at o1 ⊢
  have k1 := b1.cell
  have k3 := b3.cell
  have f3 := b3.free
  have l3 := b3.lt
  go_wp2_with fail
  refine (c_laws_toIntS _ _ _ _ _ _ (SliceI.set HZ2.out (show B ≤ w.heap.size + 1 + 1 by omega)) (by have := bel.size; simp; omega) h2).mono ?_
  rintro e w3 ⟨rfl, o2, hb⟩
  have q2 := bel.size
  replace bel := below_next (bel.setCell (p := ⟨w.heap.size + 1 + 1, 1, none⟩) (show w.heap.size ≤ w.heap.size + 1 + 1 by omega) _) hb
  replace o0 := OwnI.below (OwnI.set (p := ⟨w.heap.size + 1 + 1, 1, none⟩) o0 (fun a e => by cases e; simp)) hb
  replace o1 := OwnI.below (OwnI.set (p := ⟨w.heap.size + 1 + 1, 1, none⟩) o1 (fun a e => by cases e; simp; omega)) hb
  replace b2 := (b2.far (p := ⟨w.heap.size + 1 + 1, 1, none⟩) (by simp) _).below hb
  replace b3 := (b3.set 1 _).below hb
  have l32 := l3
  clear hb k1 k3 f3 l3 HZ2 b1
  simp only [World.size_setCell] at o2 ⊢
  have k2 := b2.cell
  have f2 := b2.free
  have l2 := b2.lt
  have k3 := b3.cell
  have f3 := b3.free
  go_wp2
  refine bodyPost_ret (v := .agg #[.slice (some ⟨w.heap.size + 1 + 1 + 1, 0, none⟩) xs.length xs.length, .slice (some ⟨w1.heap.size, 0, none⟩) ys.length ys.length, .slice (some ⟨w2.heap.size, 0, none⟩) zs.length zs.length]) (by simp [results, Try.results15, go_sem, *]) rfl ⟨_, _, _, _, _, _, rfl, ?_, ?_, ?_, ?_⟩
  · exact World.ownsRow.mono (OwnI.set (OwnI.set (OwnI.set (OwnI.set o0 (fun a e => by cases e; simp <;> omega)) (fun a e => by cases e; simp <;> omega)) (fun a e => by cases e; simp <;> omega)) (fun a e => by cases e; simp <;> omega)) (by omega)
  · exact World.ownsRow.mono (OwnI.set (OwnI.set (OwnI.set (OwnI.set o1 (fun a e => by cases e; simp <;> omega)) (fun a e => by cases e; simp <;> omega)) (fun a e => by cases e; simp <;> omega)) (fun a e => by cases e; simp <;> omega)) (by omega)
  · exact World.ownsRow.mono (OwnI.set (OwnI.set (OwnI.set (OwnI.set o2 (fun a e => by cases e; simp <;> omega)) (fun a e => by cases e; simp <;> omega)) (fun a e => by cases e; simp <;> omega)) (fun a e => by cases e; simp <;> omega)) (by omega)
  · go_grown
set_option maxHeartbeats 4000000 in
theorem c_laws_eqToss (A0 A1 A2 A0' A1' A2' : Option Addr) (c0 c1 c2 c0' c1' c2' B : Nat) (xs ys zs : List Int) (w : World) (hx : SliceI w B A0 xs.length xs) (hy : SliceI w B A1 ys.length ys) (hz : SliceI w B A2 zs.length zs) (hx' : SliceI w B A0' xs.length xs) (hy' : SliceI w B A1' ys.length ys) (hz' : SliceI w B A2' zs.length zs) (hB : B ≤ w.heap.size) (h0 : xs.length ≤ maxLen) (h1 : ys.length ≤ maxLen) (h2 : zs.length ≤ maxLen) :
    Calls Try.prog 17 #[.agg #[.slice A0 xs.length c0, .slice A1 ys.length c1, .slice A2 zs.length c2], .agg #[.slice A0' xs.length c0', .slice A1' ys.length c1', .slice A2' zs.length c2']] w fun e w' => e = .returned (.bool true) ∧ Below w.heap.size w w' := by
  have HX := Lib.hid (And.intro hx hx')
  have HY := Lib.hid (And.intro hy hy')
  have HZ := Lib.hid (And.intro hz hz')
  clear hx hy hz hx' hy' hz'
  go_enter Try.func17, Try.ntmps17
  go_wp2_with fail
  refine (c_laws_eqIntS _ _ _ _ _ _ _ _ _ (SliceI.alloc0 (SliceI.alloc0 HX.out.1)) (SliceI.alloc0 (SliceI.alloc0 HX.out.2)) (by simp; omega) (by simp; omega) h0).mono ?_
  rintro e w1 ⟨rfl, hb⟩
  obtain ⟨bel, b1, b2⟩ := start2 hb
  clear hb
  have k1 := b1.cell
  have k2 := b2.cell
  have q1 := bel.size
  go_wp2_with fail
  refine (c_laws_eqIntS _ _ _ _ _ _ _ _ _ (HY.out.1.below_le bel hB) (HY.out.2.below_le bel hB) (by omega) (by omega) h1).mono ?_
  rintro e w2 ⟨rfl, hb⟩
  replace bel := below_next bel hb
  replace b1 := b1.below hb
  replace b2 := b2.below hb
  clear hb k1 k2
  have k1 := b1.cell
  have k2 := b2.cell
  have q2 := bel.size
  go_wp2_with fail
  refine (c_laws_eqIntS _ _ _ _ _ _ _ _ _ (HZ.out.1.below_le bel hB) (HZ.out.2.below_le bel hB) (by omega) (by omega) h2).mono ?_
  rintro e w3 ⟨rfl, hb⟩
  replace bel := below_next bel hb
  clear hb k1 k2
  go_wp2_with fail
  go_ret
  exact ⟨rfl, bel⟩
set_option maxHeartbeats 400000 in
theorem c_laws_szIntS (A : Option Addr) (n c : Nat) (l : Int) (w : World) (hn : n ≤ maxLen) (h0 : 0 ≤ l) (h1 : l ≤ 1048576) :
    Calls Try.prog 49 #[.slice A n c, .int .i64 l] w fun e w' => e = .returned (.int .i64 (if l < (n : Int) then -1 else l - (n : Int))) ∧ w = w' := by
  unfold maxLen at hn
  by_cases h : l < (n : Int)
  · have hneg : l - (n : Int) < 0 := by omega
    go_enter Try.func49, Try.ntmps49
    go_wp2_with fail
    go_ret
    exact ⟨rfl, rfl⟩
  · have hneg : ¬ l - (n : Int) < 0 := by omega
    go_enter Try.func49, Try.ntmps49
    go_wp2_with fail
    go_ret
    exact ⟨rfl, rfl⟩
def szT (l : Int) (n0 n1 n2 : Nat) : Int := if l < (n0 : Int) + (n1 : Int) + (n2 : Int) then -1 else l - (n0 : Int) - (n1 : Int) - (n2 : Int)
set_option maxHeartbeats 4000000 in
theorem c_laws_szToss (A0 A1 A2 : Option Addr) (n0 n1 n2 c0 c1 c2 : Nat) (l : Int) (w : World) (m0 : n0 ≤ maxLen) (m1 : n1 ≤ maxLen) (m2 : n2 ≤ maxLen) (h0 : 0 ≤ l) (h1 : l ≤ 1048576) :
    Calls Try.prog 13 #[.agg #[.slice A0 n0 c0, .slice A1 n1 c1, .slice A2 n2 c2], .int .i64 l] w fun e w' => e = .returned (.int .i64 (szT l n0 n1 n2)) ∧ Below w.heap.size w w' := by
  have hB : Below w.heap.size w (w.alloc (.cells #[.slice A0 n0 c0, .slice A1 n1 c1, .slice A2 n2 c2] 24)) := (Below.refl _ _).alloc (Nat.le_refl _) _
  have HB := Lib.hid hB
  clear hB
  by_cases g0 : l < (n0 : Int)
  · have hfin := Lib.hid (show szT l n0 n1 n2 = -1 by unfold szT; rw [if_pos (by omega)])
    go_enter Try.func13, Try.ntmps13
    go_wp2_with fail
    refine (c_laws_szIntS _ _ _ _ _ m0 h0 h1).mono ?_
    rintro e w' ⟨rfl, rfl⟩
    rw [if_pos (by omega)]
    go_wp2_with fail
    go_ret
    exact ⟨ret_int hfin.out.symm, HB.out⟩
  by_cases g1 : l - (n0 : Int) < (n1 : Int)
  · have hfin := Lib.hid (show szT l n0 n1 n2 = -1 by unfold szT; rw [if_pos (by omega)])
    go_enter Try.func13, Try.ntmps13
    go_wp2_with fail
    refine (c_laws_szIntS _ _ _ _ _ m0 h0 h1).mono ?_
    rintro e w' ⟨rfl, rfl⟩
    rw [if_neg (by omega)]
    have hp : ¬ l - (n0 : Int) < 0 := by omega
    go_wp2_with fail
    refine (c_laws_szIntS _ _ _ _ _ m1 (by omega) (by omega)).mono ?_
    rintro e w' ⟨rfl, rfl⟩
    rw [if_pos (by omega)]
    go_wp2_with fail
    go_ret
    exact ⟨ret_int hfin.out.symm, HB.out⟩
  by_cases g2 : l - (n0 : Int) - (n1 : Int) < (n2 : Int)
  · have hfin := Lib.hid (show szT l n0 n1 n2 = -1 by unfold szT; rw [if_pos (by omega)])
    go_enter Try.func13, Try.ntmps13
    go_wp2_with fail
    refine (c_laws_szIntS _ _ _ _ _ m0 h0 h1).mono ?_
    rintro e w' ⟨rfl, rfl⟩
    rw [if_neg (by omega)]
    have hp : ¬ l - (n0 : Int) < 0 := by omega
    go_wp2_with fail
    refine (c_laws_szIntS _ _ _ _ _ m1 (by omega) (by omega)).mono ?_
    rintro e w' ⟨rfl, rfl⟩
    rw [if_neg (by omega)]
    have hp1 : ¬ l - (n0 : Int) - (n1 : Int) < 0 := by omega
    go_wp2_with fail
    refine (c_laws_szIntS _ _ _ _ _ m2 (by omega) (by omega)).mono ?_
    rintro e w' ⟨rfl, rfl⟩
    rw [if_pos (by omega)]
    go_wp2_with fail
    go_ret
    exact ⟨ret_int hfin.out.symm, HB.out⟩
  · have hfin := Lib.hid (show szT l n0 n1 n2 = l - (n0 : Int) - (n1 : Int) - (n2 : Int) by unfold szT; rw [if_neg (by omega)])
    go_enter Try.func13, Try.ntmps13
    go_wp2_with fail
    refine (c_laws_szIntS _ _ _ _ _ m0 h0 h1).mono ?_
    rintro e w' ⟨rfl, rfl⟩
    rw [if_neg (by omega)]
    have hp : ¬ l - (n0 : Int) < 0 := by omega
    go_wp2_with fail
    refine (c_laws_szIntS _ _ _ _ _ m1 (by omega) (by omega)).mono ?_
    rintro e w' ⟨rfl, rfl⟩
    rw [if_neg (by omega)]
    have hp1 : ¬ l - (n0 : Int) - (n1 : Int) < 0 := by omega
    go_wp2_with fail
    refine (c_laws_szIntS _ _ _ _ _ m2 (by omega) (by omega)).mono ?_
    rintro e w' ⟨rfl, rfl⟩
    rw [if_neg (by omega)]
    have hp2 : ¬ l - (n0 : Int) - (n1 : Int) - (n2 : Int) < 0 := by omega
    go_wp2_with fail
    go_ret
    exact ⟨ret_int hfin.out.symm, HB.out⟩
end Go.Proofs.Ytdmaklgpgdcnpaa
