/-
  No cell of these rows narrows 'for every input' (looked for: loops, veiled, ifaces, maps, wideKeys, modest, calm, conditions, laid).
  DERIVED. THE GIVEN ROWS OF THIS SEAT. 12 by the template 'for every input the law returns true; each argument reads behind the call as it read before'; 0 by the template 'total and deterministic' (their statements: YtagocjdodgolkaaTotals.lean).
  GIVEN WITH THE SEED: the statements are not yours to turn. If you find one false, say at which input.
  Laid BY PROGRAM, IN A SANDBOX (cutbox-rows.mjs): the forced cells as the released guide's own fill.sh prints them over the translation 1dbe375ed6723300… (all of the seat's roots in one cut). By AI agents, Wed Nov 11 2026. No macro, syntax, notation, axiom, sorry.
-/
import Derived.Test.YtagocjdodgolkaaChecked
import GoSem.Claim
import GoSem.ClaimJoined
import GoSem.ClaimMapViews
import Derived.JoinedTies
import Derived.KernelRfl
namespace Go.Proofs.Ytagocjdodgolkaa
/- THE CELL 'sum', in the pinned program and in every row, IS THE sha256 OF THE DUMP (.gsa) THAT YtagocjdodgolkaaProg.lean LOADS. Nothing in Lean hashes anything: it is a label: what it is worth is what the hold of that sum in a sandbox is worth. -/
noncomputable def Try.pinned : Pinned := { name := "ytagocjdodgolkaa", sum := "1dbe375ed67233004377d63eda1cbc76fddc3357449a927a31f6dee7a3148d22", checked := Try.checked }
namespace Rows
def none {H : Type} : Left H := { results := [], args := [] }

/-- 'laws.FnExactFSum': WHATEVER THE INPUT: true; the input reads as it did. -/
def fnExactFSumSpec : ChangeSpec := { name := "fnExactFSum", fn := fun _ => fun
  | [d1, d2] => { results := [.lit (.bool true)], args := [d1, d2] }
  | _ => none }
def fnExactFSumRow : OpenClaim := { program := "ytagocjdodgolkaa", sum := "1dbe375ed67233004377d63eda1cbc76fddc3357449a927a31f6dee7a3148d22", func := "loop.example/g00979/laws.FnExactFSum", spec := "fnExactFSum", apart := false }
def FnExactFSumSaid : Prop := fnExactFSumRow.holds Try.pinned (OpenSpec.ofChange fnExactFSumSpec)

/-- ITS FALSE NEIGHBOUR: 'it returns false'. Refute it at one input. -/
def fnExactFSumWrong : ChangeSpec := { name := "fnExactFSum", fn := fun _ => fun
  | [d1, d2] => { results := [.lit (.bool false)], args := [d1, d2] }
  | _ => none }
def FnExactFSumWrongFalsely : Prop := fnExactFSumRow.holds Try.pinned (OpenSpec.ofChange fnExactFSumWrong)

/-- 'laws.FnExactPolyAt': WHATEVER THE INPUT: true; the input reads as it did. -/
def fnExactPolyAtSpec : ChangeSpec := { name := "fnExactPolyAt", fn := fun _ => fun
  | [d1, d2, d3] => { results := [.lit (.bool true)], args := [d1, d2, d3] }
  | _ => none }
def fnExactPolyAtRow : OpenClaim := { program := "ytagocjdodgolkaa", sum := "1dbe375ed67233004377d63eda1cbc76fddc3357449a927a31f6dee7a3148d22", func := "loop.example/g00979/laws.FnExactPolyAt", spec := "fnExactPolyAt", apart := false }
def FnExactPolyAtSaid : Prop := fnExactPolyAtRow.holds Try.pinned (OpenSpec.ofChange fnExactPolyAtSpec)

/-- ITS FALSE NEIGHBOUR: 'it returns false'. Refute it at one input. -/
def fnExactPolyAtWrong : ChangeSpec := { name := "fnExactPolyAt", fn := fun _ => fun
  | [d1, d2, d3] => { results := [.lit (.bool false)], args := [d1, d2, d3] }
  | _ => none }
def FnExactPolyAtWrongFalsely : Prop := fnExactPolyAtRow.holds Try.pinned (OpenSpec.ofChange fnExactPolyAtWrong)

/-- 'laws.FnExactOpenAdd': WHATEVER THE INPUT: true; the input reads as it did. -/
def fnExactOpenAddSpec : ChangeSpec := { name := "fnExactOpenAdd", fn := fun _ => fun
  | [d1, d2] => { results := [.lit (.bool true)], args := [d1, d2] }
  | _ => none }
def fnExactOpenAddRow : OpenClaim := { program := "ytagocjdodgolkaa", sum := "1dbe375ed67233004377d63eda1cbc76fddc3357449a927a31f6dee7a3148d22", func := "loop.example/g00979/laws.FnExactOpenAdd", spec := "fnExactOpenAdd", apart := false }
def FnExactOpenAddSaid : Prop := fnExactOpenAddRow.holds Try.pinned (OpenSpec.ofChange fnExactOpenAddSpec)

/-- ITS FALSE NEIGHBOUR: 'it returns false'. Refute it at one input. -/
def fnExactOpenAddWrong : ChangeSpec := { name := "fnExactOpenAdd", fn := fun _ => fun
  | [d1, d2] => { results := [.lit (.bool false)], args := [d1, d2] }
  | _ => none }
def FnExactOpenAddWrongFalsely : Prop := fnExactOpenAddRow.holds Try.pinned (OpenSpec.ofChange fnExactOpenAddWrong)

/-- 'laws.FnExactScaleShares': WHATEVER THE INPUT: true; the input reads as it did. -/
def fnExactScaleSharesSpec : ChangeSpec := { name := "fnExactScaleShares", fn := fun _ => fun
  | [d1, d2, d3] => { results := [.lit (.bool true)], args := [d1, d2, d3] }
  | _ => none }
def fnExactScaleSharesRow : OpenClaim := { program := "ytagocjdodgolkaa", sum := "1dbe375ed67233004377d63eda1cbc76fddc3357449a927a31f6dee7a3148d22", func := "loop.example/g00979/laws.FnExactScaleShares", spec := "fnExactScaleShares", apart := false }
def FnExactScaleSharesSaid : Prop := fnExactScaleSharesRow.holds Try.pinned (OpenSpec.ofChange fnExactScaleSharesSpec)

/-- ITS FALSE NEIGHBOUR: 'it returns false'. Refute it at one input. -/
def fnExactScaleSharesWrong : ChangeSpec := { name := "fnExactScaleShares", fn := fun _ => fun
  | [d1, d2, d3] => { results := [.lit (.bool false)], args := [d1, d2, d3] }
  | _ => none }
def FnExactScaleSharesWrongFalsely : Prop := fnExactScaleSharesRow.holds Try.pinned (OpenSpec.ofChange fnExactScaleSharesWrong)

/-- 'laws.FnExactAddConstant': WHATEVER THE INPUT: true; the input reads as it did. -/
def fnExactAddConstantSpec : ChangeSpec := { name := "fnExactAddConstant", fn := fun _ => fun
  | [d1, d2, d3] => { results := [.lit (.bool true)], args := [d1, d2, d3] }
  | _ => none }
def fnExactAddConstantRow : OpenClaim := { program := "ytagocjdodgolkaa", sum := "1dbe375ed67233004377d63eda1cbc76fddc3357449a927a31f6dee7a3148d22", func := "loop.example/g00979/laws.FnExactAddConstant", spec := "fnExactAddConstant", apart := false }
def FnExactAddConstantSaid : Prop := fnExactAddConstantRow.holds Try.pinned (OpenSpec.ofChange fnExactAddConstantSpec)

/-- ITS FALSE NEIGHBOUR: 'it returns false'. Refute it at one input. -/
def fnExactAddConstantWrong : ChangeSpec := { name := "fnExactAddConstant", fn := fun _ => fun
  | [d1, d2, d3] => { results := [.lit (.bool false)], args := [d1, d2, d3] }
  | _ => none }
def FnExactAddConstantWrongFalsely : Prop := fnExactAddConstantRow.holds Try.pinned (OpenSpec.ofChange fnExactAddConstantWrong)

/-- 'laws.FnExactAddShares': WHATEVER THE INPUT: true; the input reads as it did. -/
def fnExactAddSharesSpec : ChangeSpec := { name := "fnExactAddShares", fn := fun _ => fun
  | [d1, d2, d3] => { results := [.lit (.bool true)], args := [d1, d2, d3] }
  | _ => none }
def fnExactAddSharesRow : OpenClaim := { program := "ytagocjdodgolkaa", sum := "1dbe375ed67233004377d63eda1cbc76fddc3357449a927a31f6dee7a3148d22", func := "loop.example/g00979/laws.FnExactAddShares", spec := "fnExactAddShares", apart := false }
def FnExactAddSharesSaid : Prop := fnExactAddSharesRow.holds Try.pinned (OpenSpec.ofChange fnExactAddSharesSpec)

/-- ITS FALSE NEIGHBOUR: 'it returns false'. Refute it at one input. -/
def fnExactAddSharesWrong : ChangeSpec := { name := "fnExactAddShares", fn := fun _ => fun
  | [d1, d2, d3] => { results := [.lit (.bool false)], args := [d1, d2, d3] }
  | _ => none }
def FnExactAddSharesWrongFalsely : Prop := fnExactAddSharesRow.holds Try.pinned (OpenSpec.ofChange fnExactAddSharesWrong)

/-- 'laws.FnExactCountSharings': WHATEVER THE INPUT: true; the input reads as it did. -/
def fnExactCountSharingsSpec : ChangeSpec := { name := "fnExactCountSharings", fn := fun _ => fun
  | [d1, d2, d3, d4] => { results := [.lit (.bool true)], args := [d1, d2, d3, d4] }
  | _ => none }
def fnExactCountSharingsRow : OpenClaim := { program := "ytagocjdodgolkaa", sum := "1dbe375ed67233004377d63eda1cbc76fddc3357449a927a31f6dee7a3148d22", func := "loop.example/g00979/laws.FnExactCountSharings", spec := "fnExactCountSharings", recurses := true, apart := false }
def FnExactCountSharingsSaid : Prop := fnExactCountSharingsRow.holds Try.pinned (OpenSpec.ofChange fnExactCountSharingsSpec)

/-- ITS FALSE NEIGHBOUR: 'it returns false'. Refute it at one input. -/
def fnExactCountSharingsWrong : ChangeSpec := { name := "fnExactCountSharings", fn := fun _ => fun
  | [d1, d2, d3, d4] => { results := [.lit (.bool false)], args := [d1, d2, d3, d4] }
  | _ => none }
def FnExactCountSharingsWrongFalsely : Prop := fnExactCountSharingsRow.holds Try.pinned (OpenSpec.ofChange fnExactCountSharingsWrong)

/-- 'laws.FnExactCountPolys': WHATEVER THE INPUT: true; the input reads as it did. -/
def fnExactCountPolysSpec : ChangeSpec := { name := "fnExactCountPolys", fn := fun _ => fun
  | [d1, d2, d3, d4, d5] => { results := [.lit (.bool true)], args := [d1, d2, d3, d4, d5] }
  | _ => none }
def fnExactCountPolysRow : OpenClaim := { program := "ytagocjdodgolkaa", sum := "1dbe375ed67233004377d63eda1cbc76fddc3357449a927a31f6dee7a3148d22", func := "loop.example/g00979/laws.FnExactCountPolys", spec := "fnExactCountPolys", recurses := true, apart := false }
def FnExactCountPolysSaid : Prop := fnExactCountPolysRow.holds Try.pinned (OpenSpec.ofChange fnExactCountPolysSpec)

/-- ITS FALSE NEIGHBOUR: 'it returns false'. Refute it at one input. -/
def fnExactCountPolysWrong : ChangeSpec := { name := "fnExactCountPolys", fn := fun _ => fun
  | [d1, d2, d3, d4, d5] => { results := [.lit (.bool false)], args := [d1, d2, d3, d4, d5] }
  | _ => none }
def FnExactCountPolysWrongFalsely : Prop := fnExactCountPolysRow.holds Try.pinned (OpenSpec.ofChange fnExactCountPolysWrong)

/-- 'laws.FnExactOpenPoly': WHATEVER THE INPUT: true; the input reads as it did. -/
def fnExactOpenPolySpec : ChangeSpec := { name := "fnExactOpenPoly", fn := fun _ => fun
  | [d1, d2, d3] => { results := [.lit (.bool true)], args := [d1, d2, d3] }
  | _ => none }
def fnExactOpenPolyRow : OpenClaim := { program := "ytagocjdodgolkaa", sum := "1dbe375ed67233004377d63eda1cbc76fddc3357449a927a31f6dee7a3148d22", func := "loop.example/g00979/laws.FnExactOpenPoly", spec := "fnExactOpenPoly", apart := false }
def FnExactOpenPolySaid : Prop := fnExactOpenPolyRow.holds Try.pinned (OpenSpec.ofChange fnExactOpenPolySpec)

/-- ITS FALSE NEIGHBOUR: 'it returns false'. Refute it at one input. -/
def fnExactOpenPolyWrong : ChangeSpec := { name := "fnExactOpenPoly", fn := fun _ => fun
  | [d1, d2, d3] => { results := [.lit (.bool false)], args := [d1, d2, d3] }
  | _ => none }
def FnExactOpenPolyWrongFalsely : Prop := fnExactOpenPolyRow.holds Try.pinned (OpenSpec.ofChange fnExactOpenPolyWrong)

/-- 'laws.FnExactPolyConsistent': WHATEVER THE INPUT: true; the input reads as it did. -/
def fnExactPolyConsistentSpec : ChangeSpec := { name := "fnExactPolyConsistent", fn := fun _ => fun
  | [d1, d2, d3] => { results := [.lit (.bool true)], args := [d1, d2, d3] }
  | _ => none }
def fnExactPolyConsistentRow : OpenClaim := { program := "ytagocjdodgolkaa", sum := "1dbe375ed67233004377d63eda1cbc76fddc3357449a927a31f6dee7a3148d22", func := "loop.example/g00979/laws.FnExactPolyConsistent", spec := "fnExactPolyConsistent", apart := false }
def FnExactPolyConsistentSaid : Prop := fnExactPolyConsistentRow.holds Try.pinned (OpenSpec.ofChange fnExactPolyConsistentSpec)

/-- ITS FALSE NEIGHBOUR: 'it returns false'. Refute it at one input. -/
def fnExactPolyConsistentWrong : ChangeSpec := { name := "fnExactPolyConsistent", fn := fun _ => fun
  | [d1, d2, d3] => { results := [.lit (.bool false)], args := [d1, d2, d3] }
  | _ => none }
def FnExactPolyConsistentWrongFalsely : Prop := fnExactPolyConsistentRow.holds Try.pinned (OpenSpec.ofChange fnExactPolyConsistentWrong)

/-- 'laws.FnExactSharePoly': WHATEVER THE INPUT: true; the input reads as it did. -/
def fnExactSharePolySpec : ChangeSpec := { name := "fnExactSharePoly", fn := fun _ => fun
  | [d1, d2, d3, d4, d5] => { results := [.lit (.bool true)], args := [d1, d2, d3, d4, d5] }
  | _ => none }
def fnExactSharePolyRow : OpenClaim := { program := "ytagocjdodgolkaa", sum := "1dbe375ed67233004377d63eda1cbc76fddc3357449a927a31f6dee7a3148d22", func := "loop.example/g00979/laws.FnExactSharePoly", spec := "fnExactSharePoly", apart := false }
def FnExactSharePolySaid : Prop := fnExactSharePolyRow.holds Try.pinned (OpenSpec.ofChange fnExactSharePolySpec)

/-- ITS FALSE NEIGHBOUR: 'it returns false'. Refute it at one input. -/
def fnExactSharePolyWrong : ChangeSpec := { name := "fnExactSharePoly", fn := fun _ => fun
  | [d1, d2, d3, d4, d5] => { results := [.lit (.bool false)], args := [d1, d2, d3, d4, d5] }
  | _ => none }
def FnExactSharePolyWrongFalsely : Prop := fnExactSharePolyRow.holds Try.pinned (OpenSpec.ofChange fnExactSharePolyWrong)

/-- 'laws.FnExactShareAdd': WHATEVER THE INPUT: true; the input reads as it did. -/
def fnExactShareAddSpec : ChangeSpec := { name := "fnExactShareAdd", fn := fun _ => fun
  | [d1, d2, d3, d4] => { results := [.lit (.bool true)], args := [d1, d2, d3, d4] }
  | _ => none }
def fnExactShareAddRow : OpenClaim := { program := "ytagocjdodgolkaa", sum := "1dbe375ed67233004377d63eda1cbc76fddc3357449a927a31f6dee7a3148d22", func := "loop.example/g00979/laws.FnExactShareAdd", spec := "fnExactShareAdd", apart := false }
def FnExactShareAddSaid : Prop := fnExactShareAddRow.holds Try.pinned (OpenSpec.ofChange fnExactShareAddSpec)

/-- ITS FALSE NEIGHBOUR: 'it returns false'. Refute it at one input. -/
def fnExactShareAddWrong : ChangeSpec := { name := "fnExactShareAdd", fn := fun _ => fun
  | [d1, d2, d3, d4] => { results := [.lit (.bool false)], args := [d1, d2, d3, d4] }
  | _ => none }
def FnExactShareAddWrongFalsely : Prop := fnExactShareAddRow.holds Try.pinned (OpenSpec.ofChange fnExactShareAddWrong)

/- THE SECOND FORM. 'bulk': how many values and letters a reading holds, each counted each time it is reached (what is shared counts as often as it is met; a slice's spare places count too). A statement '..UptoSaid' is the law's where the arguments, and the package variables that the reading takes, are together of bulk at most 1048576: NARROWER than '..Said'. Prove '..Said' where nothing that the law and all that it calls make is longer than what came in: it says more and counts as full. Else prove '..UptoSaid'. A law counts once. -/
mutual
def uptoBulk {H : Type} : DataW H → Nat
  | .lit (.string bytes) => bytes.length + 1
  | .lit _ => 1
  | .nil => 1
  | .ptr d => uptoBulk d + 1
  | .slice elems spare => uptoBulkAll elems + uptoBulkAll spare + 1
  | .agg parts => uptoBulkAll parts + 1
  | .iface _ d => uptoBulk d + 1
  | .map entries => uptoBulkEntries entries + 1
  | .held _ => 1
def uptoBulkAll {H : Type} : List (DataW H) → Nat
  | [] => 0
  | d :: r => uptoBulk d + uptoBulkAll r
def uptoBulkEntries {H : Type} : List (Lit × DataW H) → Nat
  | [] => 0
  | x :: r => uptoBulkEntry x + uptoBulkEntries r
def uptoBulkEntry {H : Type} : Lit × DataW H → Nat
  | (.string bytes, d) => bytes.length + uptoBulk d + 1
  | (_, d) => uptoBulk d + 1
 end
def uptoSmall : (H : Type) → List (DataW H) → Bool := fun _ ds => decide (uptoBulkAll ds ≤ 1048576)
def OpenSpec.upto (s : _root_.Go.ChangeSpec) : _root_.Go.OpenSpec := { _root_.Go.OpenSpec.ofChange s with cond := some uptoSmall }

/-- 'laws.FnExactFSum', WHERE WHAT IT READS IS OF BULK AT MOST 1048576: true; the input reads as it did. -/
def fnExactFSumUptoRow : OpenClaim := { program := "ytagocjdodgolkaa", sum := "1dbe375ed67233004377d63eda1cbc76fddc3357449a927a31f6dee7a3148d22", func := "loop.example/g00979/laws.FnExactFSum", spec := "fnExactFSum", apart := false, narrowed := true }
def FnExactFSumUptoSaid : Prop := fnExactFSumUptoRow.holds Try.pinned (OpenSpec.upto fnExactFSumSpec)

/-- 'laws.FnExactPolyAt', WHERE WHAT IT READS IS OF BULK AT MOST 1048576: true; the input reads as it did. -/
def fnExactPolyAtUptoRow : OpenClaim := { program := "ytagocjdodgolkaa", sum := "1dbe375ed67233004377d63eda1cbc76fddc3357449a927a31f6dee7a3148d22", func := "loop.example/g00979/laws.FnExactPolyAt", spec := "fnExactPolyAt", apart := false, narrowed := true }
def FnExactPolyAtUptoSaid : Prop := fnExactPolyAtUptoRow.holds Try.pinned (OpenSpec.upto fnExactPolyAtSpec)

/-- 'laws.FnExactOpenAdd', WHERE WHAT IT READS IS OF BULK AT MOST 1048576: true; the input reads as it did. -/
def fnExactOpenAddUptoRow : OpenClaim := { program := "ytagocjdodgolkaa", sum := "1dbe375ed67233004377d63eda1cbc76fddc3357449a927a31f6dee7a3148d22", func := "loop.example/g00979/laws.FnExactOpenAdd", spec := "fnExactOpenAdd", apart := false, narrowed := true }
def FnExactOpenAddUptoSaid : Prop := fnExactOpenAddUptoRow.holds Try.pinned (OpenSpec.upto fnExactOpenAddSpec)

/-- 'laws.FnExactScaleShares', WHERE WHAT IT READS IS OF BULK AT MOST 1048576: true; the input reads as it did. -/
def fnExactScaleSharesUptoRow : OpenClaim := { program := "ytagocjdodgolkaa", sum := "1dbe375ed67233004377d63eda1cbc76fddc3357449a927a31f6dee7a3148d22", func := "loop.example/g00979/laws.FnExactScaleShares", spec := "fnExactScaleShares", apart := false, narrowed := true }
def FnExactScaleSharesUptoSaid : Prop := fnExactScaleSharesUptoRow.holds Try.pinned (OpenSpec.upto fnExactScaleSharesSpec)

/-- 'laws.FnExactAddConstant', WHERE WHAT IT READS IS OF BULK AT MOST 1048576: true; the input reads as it did. -/
def fnExactAddConstantUptoRow : OpenClaim := { program := "ytagocjdodgolkaa", sum := "1dbe375ed67233004377d63eda1cbc76fddc3357449a927a31f6dee7a3148d22", func := "loop.example/g00979/laws.FnExactAddConstant", spec := "fnExactAddConstant", apart := false, narrowed := true }
def FnExactAddConstantUptoSaid : Prop := fnExactAddConstantUptoRow.holds Try.pinned (OpenSpec.upto fnExactAddConstantSpec)

/-- 'laws.FnExactAddShares', WHERE WHAT IT READS IS OF BULK AT MOST 1048576: true; the input reads as it did. -/
def fnExactAddSharesUptoRow : OpenClaim := { program := "ytagocjdodgolkaa", sum := "1dbe375ed67233004377d63eda1cbc76fddc3357449a927a31f6dee7a3148d22", func := "loop.example/g00979/laws.FnExactAddShares", spec := "fnExactAddShares", apart := false, narrowed := true }
def FnExactAddSharesUptoSaid : Prop := fnExactAddSharesUptoRow.holds Try.pinned (OpenSpec.upto fnExactAddSharesSpec)

/-- 'laws.FnExactCountSharings', WHERE WHAT IT READS IS OF BULK AT MOST 1048576: true; the input reads as it did. -/
def fnExactCountSharingsUptoRow : OpenClaim := { program := "ytagocjdodgolkaa", sum := "1dbe375ed67233004377d63eda1cbc76fddc3357449a927a31f6dee7a3148d22", func := "loop.example/g00979/laws.FnExactCountSharings", spec := "fnExactCountSharings", recurses := true, apart := false, narrowed := true }
def FnExactCountSharingsUptoSaid : Prop := fnExactCountSharingsUptoRow.holds Try.pinned (OpenSpec.upto fnExactCountSharingsSpec)

/-- 'laws.FnExactCountPolys', WHERE WHAT IT READS IS OF BULK AT MOST 1048576: true; the input reads as it did. -/
def fnExactCountPolysUptoRow : OpenClaim := { program := "ytagocjdodgolkaa", sum := "1dbe375ed67233004377d63eda1cbc76fddc3357449a927a31f6dee7a3148d22", func := "loop.example/g00979/laws.FnExactCountPolys", spec := "fnExactCountPolys", recurses := true, apart := false, narrowed := true }
def FnExactCountPolysUptoSaid : Prop := fnExactCountPolysUptoRow.holds Try.pinned (OpenSpec.upto fnExactCountPolysSpec)

/-- 'laws.FnExactOpenPoly', WHERE WHAT IT READS IS OF BULK AT MOST 1048576: true; the input reads as it did. -/
def fnExactOpenPolyUptoRow : OpenClaim := { program := "ytagocjdodgolkaa", sum := "1dbe375ed67233004377d63eda1cbc76fddc3357449a927a31f6dee7a3148d22", func := "loop.example/g00979/laws.FnExactOpenPoly", spec := "fnExactOpenPoly", apart := false, narrowed := true }
def FnExactOpenPolyUptoSaid : Prop := fnExactOpenPolyUptoRow.holds Try.pinned (OpenSpec.upto fnExactOpenPolySpec)

/-- 'laws.FnExactPolyConsistent', WHERE WHAT IT READS IS OF BULK AT MOST 1048576: true; the input reads as it did. -/
def fnExactPolyConsistentUptoRow : OpenClaim := { program := "ytagocjdodgolkaa", sum := "1dbe375ed67233004377d63eda1cbc76fddc3357449a927a31f6dee7a3148d22", func := "loop.example/g00979/laws.FnExactPolyConsistent", spec := "fnExactPolyConsistent", apart := false, narrowed := true }
def FnExactPolyConsistentUptoSaid : Prop := fnExactPolyConsistentUptoRow.holds Try.pinned (OpenSpec.upto fnExactPolyConsistentSpec)

/-- 'laws.FnExactSharePoly', WHERE WHAT IT READS IS OF BULK AT MOST 1048576: true; the input reads as it did. -/
def fnExactSharePolyUptoRow : OpenClaim := { program := "ytagocjdodgolkaa", sum := "1dbe375ed67233004377d63eda1cbc76fddc3357449a927a31f6dee7a3148d22", func := "loop.example/g00979/laws.FnExactSharePoly", spec := "fnExactSharePoly", apart := false, narrowed := true }
def FnExactSharePolyUptoSaid : Prop := fnExactSharePolyUptoRow.holds Try.pinned (OpenSpec.upto fnExactSharePolySpec)

/-- 'laws.FnExactShareAdd', WHERE WHAT IT READS IS OF BULK AT MOST 1048576: true; the input reads as it did. -/
def fnExactShareAddUptoRow : OpenClaim := { program := "ytagocjdodgolkaa", sum := "1dbe375ed67233004377d63eda1cbc76fddc3357449a927a31f6dee7a3148d22", func := "loop.example/g00979/laws.FnExactShareAdd", spec := "fnExactShareAdd", apart := false, narrowed := true }
def FnExactShareAddUptoSaid : Prop := fnExactShareAddUptoRow.holds Try.pinned (OpenSpec.upto fnExactShareAddSpec)

end Rows
end Go.Proofs.Ytagocjdodgolkaa
