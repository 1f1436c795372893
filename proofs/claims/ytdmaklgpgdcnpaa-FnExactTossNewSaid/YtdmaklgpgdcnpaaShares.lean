/- The walks of the functions on additive shares: each returns a list in new memory. -/
import Derived.Test.YtdmaklgpgdcnpaaRows
import Derived.Test.YtdmaklgpgdcnpaaPlain
import Derived.Test.YtdmaklgpgdcnpaaMem
import Derived.Test.YtdmaklgpgdcnpaaList
import Derived.Test.YtdmaklgpgdcnpaaWords
import Derived.Test.YtdmaklgpgdcnpaaField
import Derived.Test.YtdmaklgpgdcnpaaSums
import Derived.WalkKit
import Derived.WalkSpells
import Derived.WalkLawsBesides
import Derived.OwnWalk
import Derived.Handy
import Derived.RegionTactic
import Derived.Deep.RegionLaw
import Derived.Deep.AppendLies
import Derived.Maps.AppendAt
import Derived.Lib.Hide
namespace Go.Proofs.Ytdmaklgpgdcnpaa
open Go.RowKit

def scaleF (p : Int) (xs : List Int) (k : Int) : List Int := if isEl p k && allEl p xs then xs.map (fun x => fmul p x k) else []

theorem ones_vals (xs : List Int) : ∀ u ∈ vals xs, u.oneCell' = true := by simp [vals, Value.oneCell']
set_option maxHeartbeats 1000000 in
theorem c_impl_ints (A : Option Addr) (c B : Nat) (xs : List Int) (w : World) (hx : SliceI w B A xs.length xs) (hpos : 0 < xs.length) (hn : xs.length ≤ 1048576) :
    Calls Try.prog 57 #[.slice A xs.length c] w (GivesI w xs) := by
  obtain ⟨i0, hi, hz0, hz1, hz2⟩ := info_parts int_info
  have HZ := Lib.hid (And.intro hz1 hz2)
  obtain ⟨b, off, rfl, hbB, _⟩ := hx.at_ hpos
  have HN := Lib.hid (SliceI.news (SliceI.alloc0 (o := .cells #[] 3) hx))
  clear hz1 hz2 hx
  go_enter Try.func57, Try.ntmps57
  go_wp2_with (at_builtin; refine wpList_append_own _ rfl (.tmp 3) (.tmp 4) 22 rfl w.heap.size 3 i0 (.int .i64 0) 1 8 Try.underlying22 hi hz0 HZ.out.1 HZ.out.2 rfl (by decide) _ _ _ rfl (World.ownsRow_lit w #[] 0 (Nat.le_refl _) (by simp [maxLen]) rfl) ⟨b, off, none⟩ xs.length _ (vals xs) rfl (by simp [vals]) HN.out (by simp [vals, Value.oneCell']) (by unfold maxLen; omega) (by omega) (by simp) ?_; intro v' w2 hown2 hgrow2 _)
  go_ret
  refine GivesI.of (n := xs.length) (by simpa using hown2) ?_
  exact ((Below.refl _ _).alloc (Nat.le_refl _) _).grown hgrow2 (by simp) (fun k hk => by cases hk; exact Nat.le_refl _)
def addConstF (p : Int) (xs : List Int) (k : Int) : List Int := if !xs.isEmpty && isEl p k && allEl p xs then xs.set 0 (fadd p (xs.getD 0 0) k) else []

theorem vals_set {xs : List Int} {i : Nat} {a : Int} : (vals xs).set i (.int .i64 a) = vals (xs.set i a) := by simp [vals, List.map_set]
theorem addConst_no1 {p k : Int} {xs : List Int} (h : isEl p k = false) : addConstF p xs k = [] := by simp [addConstF, h]
theorem addConst_no2 {p k : Int} {xs : List Int} (h : allEl p xs = false) : addConstF p xs k = [] := by simp [addConstF, h]
theorem addConst_yes {p k : Int} {xs : List Int} (h0 : 0 < xs.length) (h1 : isEl p k = true) (h2 : allEl p xs = true) : addConstF p xs k = xs.set 0 (fadd p (xs.getD 0 0) k) := by
  have : xs.isEmpty = false := by cases xs with | nil => simp at h0 | cons a l => rfl
  simp [addConstF, h1, h2, this]

def addF (p : Int) (xs ys : List Int) : List Int := if xs.length = ys.length ∧ allEl p xs = true ∧ allEl p ys = true then List.zipWith (fadd p) xs ys else []
theorem addF_no {p : Int} {xs ys : List Int} (h : ¬ (xs.length = ys.length ∧ allEl p xs = true ∧ allEl p ys = true)) : addF p xs ys = [] := if_neg h
theorem addF_yes {p : Int} {xs ys : List Int} (h : xs.length = ys.length ∧ allEl p xs = true ∧ allEl p ys = true) : addF p xs ys = List.zipWith (fadd p) xs ys := if_pos h
theorem zip_take {f : Int → Int → Int} {xs ys : List Int} {k : Nat} (hk : k < xs.length) (hy : k < ys.length) : vals ((List.zipWith f xs ys).take k) ++ [.int .i64 (f (xs.getD k 0) (ys.getD k 0))] = vals ((List.zipWith f xs ys).take (k + 1)) := by
  rw [List.take_succ_eq_append_getElem (by simp; omega)]
  simp [vals, hk, hy]
theorem addF_len {p : Int} {xs ys : List Int} (h : xs.length ≤ 1048576) : (addF p xs ys).length ≤ 1048576 := by
  unfold addF; split
  · simp; omega
  · simp

theorem scale_len {p k : Int} {xs : List Int} (h : xs.length ≤ 1048576) : (scaleF p xs k).length ≤ 1048576 := by
  unfold scaleF; split
  · simpa using h
  · simp
theorem addConst_len {p k : Int} {xs : List Int} (h : xs.length ≤ 1048576) : (addConstF p xs k).length ≤ 1048576 := by
  unfold addConstF; split
  · simpa using h
  · simp

end Go.Proofs.Ytdmaklgpgdcnpaa
