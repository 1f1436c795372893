/- Arguments that are structs of numbers, structs of lists, or lists of structs of numbers: what the reading of the data says of the value and of the memory. -/
import Derived.WalkKit
import Derived.ProofKit
import Derived.OpenShut
import Derived.Lib.SmallJoins
import Derived.ChangeOld
import Derived.ChangeSlices
import Derived.Below
import Derived.Deep.Slices
import Derived.Deep.Fields
import Derived.Test.YtdmaklgpgdcnpaaMem
namespace Go.Proofs.Ytdmaklgpgdcnpaa
open Go.ChangeShapes Go.WideShapes Go.ChangeAt Go.RowKit Go.Joins Go.Deep

def intCell (o : Option Value) : Int := match o with | some (.int _ z) => z | _ => 0

section
variable {H : Type} {enc : TypeId × Value → H} {P : Program} {w : World} {base : Nat} {spare : Nat → Bool} {held : Bool}

/-- The cells of a struct whose fields are numbers of one kind are numbers of that kind. -/
theorem trod_nums {t e : TypeId} {k : IntKind} {fs : Array Field} {fuel : Nat} {cs : List Value} {x : DataW H × List MemPlace}
    (ht : P.underlying t = some (.struct fs)) (he : P.underlying e = some (.int k)) (hone : oneCellFields P fs = true) (hC : P.cellsOf t = fs.size)
    (hall : ∀ i (h : i < fs.size), fs[i].type = e) (h : DataW.trod enc P w base spare held fuel t cs = some x) :
    cs.length = fs.size ∧ ∀ i, i < fs.size → ∃ z, cs[i]? = some (.int k z) := by
  obtain ⟨xs, n, _, _, hl, hlen, hf⟩ := DataW.trod_struct ht h
  refine ⟨by omega, fun i hi => ?_⟩
  have hfi : fs[i]? = some fs[i] := Array.getElem?_eq_getElem hi
  obtain ⟨ho, hk⟩ := hone_of hone i _ hfi
  have h1 := hf i _ hfi
  rw [ho, hk, hall i hi, take1_drop cs i (.int k 0) (by omega), List.getElem?_eq_getElem (by omega)] at h1
  obtain ⟨z, hz, _, _⟩ := DataW.trod_int he h1
  refine ⟨z, ?_⟩
  simp only [List.cons.injEq, and_true] at hz
  rw [List.getD_eq_getElem?_getD, List.getElem?_eq_getElem (by omega)] at hz
  rw [List.getElem?_eq_getElem (by omega), ← hz]; rfl

/-- A struct of six numbers, by value. -/
theorem open_six {r : Reach} {b0 : Nat} {t e : TypeId} {k : IntKind} {fs : Array Field} {v : Value} {d : DataW H} {p : List MemPlace}
    (ht : P.underlying t = some (.struct fs)) (he : P.underlying e = some (.int k)) (hone : oneCellFields P fs = true) (hC : P.cellsOf t = fs.size) (h6 : fs.size = 6)
    (hall : ∀ i (h : i < fs.size), fs[i].type = e) (hv : Value.okWide P w r b0 t v) (h : DataW.Trod enc P w base spare held t v d p) :
    ∃ z0 z1 z2 z3 z4 z5 : Int, v = .agg #[.int k z0, .int k z1, .int k z2, .int k z3, .int k z4, .int k z5] := by
  obtain ⟨cs, rfl, hsz⟩ := okWide_struct ht hv
  obtain ⟨l⟩ := cs
  have hl6 : l.length = 6 := by simpa using hsz.trans (hC.trans h6)
  obtain ⟨fuel, hf⟩ := h
  obtain ⟨_, hi⟩ := trod_nums ht he hone hC hall hf
  match l, hl6 with
  | [c0, c1, c2, c3, c4, c5], _ =>
    obtain ⟨z0, e0⟩ := hi 0 (by omega)
    obtain ⟨z1, e1⟩ := hi 1 (by omega)
    obtain ⟨z2, e2⟩ := hi 2 (by omega)
    obtain ⟨z3, e3⟩ := hi 3 (by omega)
    obtain ⟨z4, e4⟩ := hi 4 (by omega)
    obtain ⟨z5, e5⟩ := hi 5 (by omega)
    simp [Value.cells] at e0 e1 e2 e3 e4 e5
    exact ⟨z0, z1, z2, z3, z4, z5, by rw [e0, e1, e2, e3, e4, e5]⟩

/-- What the walk is told of a slice of structs of m numbers. -/
def IsFlat (m : Nat) (w : World) (a : Option Addr) (len cap : Nat) (zs : List Int) : Prop :=
  (a = none ∧ len = 0 ∧ cap = 0 ∧ zs = []) ∨
  ∃ x, a = some x ∧ len ≤ cap ∧ cap ≤ maxLen ∧ zs.length = len * m ∧ ∀ i, i < len * m → w.cell? (x.add i) = some (.int .i64 (zs.getD i 0))

theorem add_add' (a : Addr) (i j : Nat) : (a.add i).add j = a.add (i + j) := (Go.Deep.add_add a i j)

theorem open_flat {t s e : TypeId} {fs : Array Field} {fuel : Nat} {a : Option Addr} {len cap : Nat} {x : DataW H × List MemPlace}
    (hsl : P.underlying t = some (.slice s)) (ht : P.underlying s = some (.struct fs)) (he : P.underlying e = some (.int .i64)) (hone : oneCellFields P fs = true) (hC : P.cellsOf s = fs.size)
    (hall : ∀ i (h : i < fs.size), fs[i].type = e) (hpos : 0 < fs.size) (h : DataW.trod enc P w base spare held fuel t [.slice a len cap] = some x) : ∃ zs, IsFlat fs.size w a len cap zs := by
  rcases open_slice hsl h with ⟨hcs, _⟩ | ⟨a', len', cap', m, n, D, Pl, hcs, _, hl, hm, hmm, _, hi⟩
  · simp at hcs
    obtain ⟨rfl, rfl, rfl⟩ := hcs
    exact ⟨[], .inl ⟨rfl, rfl, rfl, rfl⟩⟩
  · simp at hcs
    obtain ⟨rfl, rfl, rfl⟩ := hcs
    have hlm : len ≤ m := by rw [hmm]; split <;> omega
    have each : ∀ k, k < len * fs.size → ∃ z, w.cell? (a'.add k) = some (.int .i64 z) := by
      intro k hk
      have hq : k / fs.size < len := Nat.div_lt_of_lt_mul (by rw [Nat.mul_comm]; exact hk)
      obtain ⟨cs', hc, ht'⟩ := hi (k / fs.size) (by omega)
      obtain ⟨_, hz⟩ := trod_nums ht he hone hC hall ht'
      have hr : k % fs.size < fs.size := Nat.mod_lt _ hpos
      obtain ⟨z, hz⟩ := hz (k % fs.size) hr
      have hcell := (World.cells?_some hc).2.2 (k % fs.size) (by omega)
      rw [hC, add_add', Nat.mul_comm, Nat.div_add_mod] at hcell
      exact ⟨z, hcell.trans hz⟩
    refine ⟨(List.range (len * fs.size)).map fun k => intCell (w.cell? (a'.add k)), .inr ⟨a', rfl, hl, hm, by simp, fun i hi => ?_⟩⟩
    obtain ⟨z, hz⟩ := each i hi
    simp [List.getD_eq_getElem?_getD, hi, hz, intCell]

/-- A list in a field of a struct. -/
theorem open_row {t e : TypeId} {fuel : Nat} {v : Value} {x : DataW H × List MemPlace} (ht : P.underlying t = some (.slice e)) (he : P.underlying e = some (.int .i64)) (hc : P.cellsOf e = 1) (hs : ∀ b, spare b = true)
    (h : DataW.trod enc P w base spare held fuel t [v] = some x) : ∃ a len cap zs, v = .slice a len cap ∧ IsRow .i64 w a len cap (zs : List Int) ∧ len ≤ maxLen := by
  rcases open_ints ht he hc h with ⟨hcs, _⟩ | ⟨a, l, c, zs, hcs, _, hl, hm, hz, _, hcell, hwz⟩
  · simp only [List.cons.injEq, and_true] at hcs
    exact ⟨none, 0, 0, [], hcs, .inl ⟨rfl, rfl, rfl, rfl⟩, by unfold maxLen; omega⟩
  · simp only [List.cons.injEq, and_true] at hcs
    exact ⟨some a, l, c, zs, hcs, .inr ⟨a, rfl, hl, hm, by simpa [hs] using hz, hcell, hwz⟩, by omega⟩
end

theorem IsFlat.slice {m : Nat} {w : World} {a : Option Addr} {len cap : Nat} {zs : List Int} (h : IsFlat m w a len cap zs) : SliceI w w.heap.size a (len * m) zs := by
  rcases h with ⟨rfl, rfl, rfl, rfl⟩ | ⟨x, rfl, hl, _, hz, hcell⟩
  · rw [Nat.zero_mul]; exact SliceI.nil
  · refine ⟨hz, fun hn => ?_⟩
    obtain ⟨b, off, spot⟩ := x
    have h0 := hcell 0 hn
    have hs : spot = none := by simpa [Addr.add] using World.cell?_spot h0
    subst hs
    have e : ∀ k, ((⟨b, off, none⟩ : Addr).add k) = ⟨b, off + k, none⟩ := fun k => by
      unfold Addr.add
      split
      · next h => subst h; rfl
      · rfl
    refine ⟨b, off, rfl, ?_, fun k hk => by rw [← e]; exact hcell k hk⟩
    rcases Nat.lt_or_ge b w.heap.size with hh | hh
    · exact hh
    · rw [e] at h0
      unfold World.cell? at h0
      rw [Array.getElem?_eq_none hh] at h0
      cases h0
end Go.Proofs.Ytdmaklgpgdcnpaa
