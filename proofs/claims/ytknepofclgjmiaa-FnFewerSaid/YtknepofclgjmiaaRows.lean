/-
  No cell of these rows narrows 'for every input' (looked for: loops, veiled, ifaces, maps, wideKeys, modest, calm, conditions, laid).
  DERIVED. THE GIVEN ROWS OF THIS SEAT. 8 by the template 'for every input the law returns true; each argument reads behind the call as it read before'; 0 by the template 'total and deterministic' (their statements: YtknepofclgjmiaaTotals.lean).
  GIVEN WITH THE SEED: the statements are not yours to turn. If you find one false, say at which input.
  Laid BY PROGRAM, IN A SANDBOX (cutbox-rows.mjs): the forced cells as the released guide's own fill.sh prints them over the translation c65f0b62e668cf4e… (all of the seat's roots in one cut). By AI agents, Wed Nov 11 2026. No macro, syntax, notation, axiom, sorry.
-/
import Derived.Test.YtknepofclgjmiaaChecked
import GoSem.Claim
import GoSem.ClaimJoined
import GoSem.ClaimMapViews
import Derived.JoinedTies
import Derived.KernelRfl
namespace Go.Proofs.Ytknepofclgjmiaa
/- THE CELL 'sum', in the pinned program and in every row, IS THE sha256 OF THE DUMP (.gsa) THAT YtknepofclgjmiaaProg.lean LOADS. Nothing in Lean hashes anything: it is a label: what it is worth is what the hold of that sum in a sandbox is worth. -/
noncomputable def Try.pinned : Pinned := { name := "ytknepofclgjmiaa", sum := "c65f0b62e668cf4eb9c4ac3dc457a4b77cf662a7c956486f897f39a02b6ea2c5", checked := Try.checked }
namespace Rows
def none {H : Type} : Left H := { results := [], args := [] }

/-- 'laws.FnAllButOne': WHATEVER THE INPUT: true; the input reads as it did. -/
def fnAllButOneSpec : ChangeSpec := { name := "fnAllButOne", fn := fun _ => fun
  | [d] => { results := [.lit (.bool true)], args := [d] }
  | _ => none }
def fnAllButOneRow : OpenClaim := { program := "ytknepofclgjmiaa", sum := "c65f0b62e668cf4eb9c4ac3dc457a4b77cf662a7c956486f897f39a02b6ea2c5", func := "loop.example/g00979/laws.FnAllButOne", spec := "fnAllButOne", apart := false }
def FnAllButOneSaid : Prop := fnAllButOneRow.holds Try.pinned (OpenSpec.ofChange fnAllButOneSpec)

/-- ITS FALSE NEIGHBOUR: 'it returns false'. Refute it at one input. -/
def fnAllButOneWrong : ChangeSpec := { name := "fnAllButOne", fn := fun _ => fun
  | [d] => { results := [.lit (.bool false)], args := [d] }
  | _ => none }
def FnAllButOneWrongFalsely : Prop := fnAllButOneRow.holds Try.pinned (OpenSpec.ofChange fnAllButOneWrong)

/-- 'laws.FnFewer': WHATEVER THE INPUT: true; the input reads as it did. -/
def fnFewerSpec : ChangeSpec := { name := "fnFewer", fn := fun _ => fun
  | [d] => { results := [.lit (.bool true)], args := [d] }
  | _ => none }
def fnFewerRow : OpenClaim := { program := "ytknepofclgjmiaa", sum := "c65f0b62e668cf4eb9c4ac3dc457a4b77cf662a7c956486f897f39a02b6ea2c5", func := "loop.example/g00979/laws.FnFewer", spec := "fnFewer", apart := false }
def FnFewerSaid : Prop := fnFewerRow.holds Try.pinned (OpenSpec.ofChange fnFewerSpec)

/-- ITS FALSE NEIGHBOUR: 'it returns false'. Refute it at one input. -/
def fnFewerWrong : ChangeSpec := { name := "fnFewer", fn := fun _ => fun
  | [d] => { results := [.lit (.bool false)], args := [d] }
  | _ => none }
def FnFewerWrongFalsely : Prop := fnFewerRow.holds Try.pinned (OpenSpec.ofChange fnFewerWrong)

/-- 'laws.FnTapes': WHATEVER THE INPUT: true; the input reads as it did. -/
def fnTapesSpec : ChangeSpec := { name := "fnTapes", fn := fun _ => fun
  | [d] => { results := [.lit (.bool true)], args := [d] }
  | _ => none }
def fnTapesRow : OpenClaim := { program := "ytknepofclgjmiaa", sum := "c65f0b62e668cf4eb9c4ac3dc457a4b77cf662a7c956486f897f39a02b6ea2c5", func := "loop.example/g00979/laws.FnTapes", spec := "fnTapes", apart := false }
def FnTapesSaid : Prop := fnTapesRow.holds Try.pinned (OpenSpec.ofChange fnTapesSpec)

/-- ITS FALSE NEIGHBOUR: 'it returns false'. Refute it at one input. -/
def fnTapesWrong : ChangeSpec := { name := "fnTapes", fn := fun _ => fun
  | [d] => { results := [.lit (.bool false)], args := [d] }
  | _ => none }
def FnTapesWrongFalsely : Prop := fnTapesRow.holds Try.pinned (OpenSpec.ofChange fnTapesWrong)

/-- 'laws.FnTossed': WHATEVER THE INPUT: true; the input reads as it did. -/
def fnTossedSpec : ChangeSpec := { name := "fnTossed", fn := fun _ => fun
  | [d] => { results := [.lit (.bool true)], args := [d] }
  | _ => none }
def fnTossedRow : OpenClaim := { program := "ytknepofclgjmiaa", sum := "c65f0b62e668cf4eb9c4ac3dc457a4b77cf662a7c956486f897f39a02b6ea2c5", func := "loop.example/g00979/laws.FnTossed", spec := "fnTossed", apart := false }
def FnTossedSaid : Prop := fnTossedRow.holds Try.pinned (OpenSpec.ofChange fnTossedSpec)

/-- ITS FALSE NEIGHBOUR: 'it returns false'. Refute it at one input. -/
def fnTossedWrong : ChangeSpec := { name := "fnTossed", fn := fun _ => fun
  | [d] => { results := [.lit (.bool false)], args := [d] }
  | _ => none }
def FnTossedWrongFalsely : Prop := fnTossedRow.holds Try.pinned (OpenSpec.ofChange fnTossedWrong)

/-- 'laws.FnWrongShare': WHATEVER THE INPUT: true; the input reads as it did. -/
def fnWrongShareSpec : ChangeSpec := { name := "fnWrongShare", fn := fun _ => fun
  | [d] => { results := [.lit (.bool true)], args := [d] }
  | _ => none }
def fnWrongShareRow : OpenClaim := { program := "ytknepofclgjmiaa", sum := "c65f0b62e668cf4eb9c4ac3dc457a4b77cf662a7c956486f897f39a02b6ea2c5", func := "loop.example/g00979/laws.FnWrongShare", spec := "fnWrongShare", apart := false }
def FnWrongShareSaid : Prop := fnWrongShareRow.holds Try.pinned (OpenSpec.ofChange fnWrongShareSpec)

/-- ITS FALSE NEIGHBOUR: 'it returns false'. Refute it at one input. -/
def fnWrongShareWrong : ChangeSpec := { name := "fnWrongShare", fn := fun _ => fun
  | [d] => { results := [.lit (.bool false)], args := [d] }
  | _ => none }
def FnWrongShareWrongFalsely : Prop := fnWrongShareRow.holds Try.pinned (OpenSpec.ofChange fnWrongShareWrong)

/-- 'laws.FnAdditive': WHATEVER THE INPUT: true; the input reads as it did. -/
def fnAdditiveSpec : ChangeSpec := { name := "fnAdditive", fn := fun _ => fun
  | [d] => { results := [.lit (.bool true)], args := [d] }
  | _ => none }
def fnAdditiveRow : OpenClaim := { program := "ytknepofclgjmiaa", sum := "c65f0b62e668cf4eb9c4ac3dc457a4b77cf662a7c956486f897f39a02b6ea2c5", func := "loop.example/g00979/laws.FnAdditive", spec := "fnAdditive", apart := false }
def FnAdditiveSaid : Prop := fnAdditiveRow.holds Try.pinned (OpenSpec.ofChange fnAdditiveSpec)

/-- ITS FALSE NEIGHBOUR: 'it returns false'. Refute it at one input. -/
def fnAdditiveWrong : ChangeSpec := { name := "fnAdditive", fn := fun _ => fun
  | [d] => { results := [.lit (.bool false)], args := [d] }
  | _ => none }
def FnAdditiveWrongFalsely : Prop := fnAdditiveRow.holds Try.pinned (OpenSpec.ofChange fnAdditiveWrong)

/-- 'laws.FnThreshold': WHATEVER THE INPUT: true; the input reads as it did. -/
def fnThresholdSpec : ChangeSpec := { name := "fnThreshold", fn := fun _ => fun
  | [d] => { results := [.lit (.bool true)], args := [d] }
  | _ => none }
def fnThresholdRow : OpenClaim := { program := "ytknepofclgjmiaa", sum := "c65f0b62e668cf4eb9c4ac3dc457a4b77cf662a7c956486f897f39a02b6ea2c5", func := "loop.example/g00979/laws.FnThreshold", spec := "fnThreshold", apart := false }
def FnThresholdSaid : Prop := fnThresholdRow.holds Try.pinned (OpenSpec.ofChange fnThresholdSpec)

/-- ITS FALSE NEIGHBOUR: 'it returns false'. Refute it at one input. -/
def fnThresholdWrong : ChangeSpec := { name := "fnThreshold", fn := fun _ => fun
  | [d] => { results := [.lit (.bool false)], args := [d] }
  | _ => none }
def FnThresholdWrongFalsely : Prop := fnThresholdRow.holds Try.pinned (OpenSpec.ofChange fnThresholdWrong)

/-- 'laws.FnLinearShares': WHATEVER THE INPUT: true; the input reads as it did. -/
def fnLinearSharesSpec : ChangeSpec := { name := "fnLinearShares", fn := fun _ => fun
  | [d] => { results := [.lit (.bool true)], args := [d] }
  | _ => none }
def fnLinearSharesRow : OpenClaim := { program := "ytknepofclgjmiaa", sum := "c65f0b62e668cf4eb9c4ac3dc457a4b77cf662a7c956486f897f39a02b6ea2c5", func := "loop.example/g00979/laws.FnLinearShares", spec := "fnLinearShares", apart := false }
def FnLinearSharesSaid : Prop := fnLinearSharesRow.holds Try.pinned (OpenSpec.ofChange fnLinearSharesSpec)

/-- ITS FALSE NEIGHBOUR: 'it returns false'. Refute it at one input. -/
def fnLinearSharesWrong : ChangeSpec := { name := "fnLinearShares", fn := fun _ => fun
  | [d] => { results := [.lit (.bool false)], args := [d] }
  | _ => none }
def FnLinearSharesWrongFalsely : Prop := fnLinearSharesRow.holds Try.pinned (OpenSpec.ofChange fnLinearSharesWrong)

/- THE SECOND FORM. 'bulk': how many values and letters a reading holds, each counted each time it is reached (what is shared counts as often as it is met; a slice's spare places count too). A statement '..UptoSaid' is the law's where the arguments, and the package variables that the reading takes, are together of bulk at most 1048576: NARROWER than '..Said'. Prove '..Said' where nothing that the law and all that it calls make is longer than what came in: it says more and counts as full. Else prove '..UptoSaid'. A law counts once. -/
mutual
def uptoBulk {H : Type} : DataW H → Nat
  | .lit (.string bytes) => bytes.length + 1
  | .lit _ => 1
  | .nil => 1
  | .ptr d => uptoBulk d + 1
  | .slice elems spare => uptoBulkAll elems + uptoBulkAll spare + 1
  | .agg parts => uptoBulkAll parts + 1
  | .iface _ d => uptoBulk d + 1
  | .map entries => uptoBulkEntries entries + 1
  | .held _ => 1
def uptoBulkAll {H : Type} : List (DataW H) → Nat
  | [] => 0
  | d :: r => uptoBulk d + uptoBulkAll r
def uptoBulkEntries {H : Type} : List (Lit × DataW H) → Nat
  | [] => 0
  | x :: r => uptoBulkEntry x + uptoBulkEntries r
def uptoBulkEntry {H : Type} : Lit × DataW H → Nat
  | (.string bytes, d) => bytes.length + uptoBulk d + 1
  | (_, d) => uptoBulk d + 1
 end
def uptoSmall : (H : Type) → List (DataW H) → Bool := fun _ ds => decide (uptoBulkAll ds ≤ 1048576)
def OpenSpec.upto (s : _root_.Go.ChangeSpec) : _root_.Go.OpenSpec := { _root_.Go.OpenSpec.ofChange s with cond := some uptoSmall }

/-- 'laws.FnAllButOne', WHERE WHAT IT READS IS OF BULK AT MOST 1048576: true; the input reads as it did. -/
def fnAllButOneUptoRow : OpenClaim := { program := "ytknepofclgjmiaa", sum := "c65f0b62e668cf4eb9c4ac3dc457a4b77cf662a7c956486f897f39a02b6ea2c5", func := "loop.example/g00979/laws.FnAllButOne", spec := "fnAllButOne", apart := false, narrowed := true }
def FnAllButOneUptoSaid : Prop := fnAllButOneUptoRow.holds Try.pinned (OpenSpec.upto fnAllButOneSpec)

/-- 'laws.FnFewer', WHERE WHAT IT READS IS OF BULK AT MOST 1048576: true; the input reads as it did. -/
def fnFewerUptoRow : OpenClaim := { program := "ytknepofclgjmiaa", sum := "c65f0b62e668cf4eb9c4ac3dc457a4b77cf662a7c956486f897f39a02b6ea2c5", func := "loop.example/g00979/laws.FnFewer", spec := "fnFewer", apart := false, narrowed := true }
def FnFewerUptoSaid : Prop := fnFewerUptoRow.holds Try.pinned (OpenSpec.upto fnFewerSpec)

/-- 'laws.FnTapes', WHERE WHAT IT READS IS OF BULK AT MOST 1048576: true; the input reads as it did. -/
def fnTapesUptoRow : OpenClaim := { program := "ytknepofclgjmiaa", sum := "c65f0b62e668cf4eb9c4ac3dc457a4b77cf662a7c956486f897f39a02b6ea2c5", func := "loop.example/g00979/laws.FnTapes", spec := "fnTapes", apart := false, narrowed := true }
def FnTapesUptoSaid : Prop := fnTapesUptoRow.holds Try.pinned (OpenSpec.upto fnTapesSpec)

/-- 'laws.FnTossed', WHERE WHAT IT READS IS OF BULK AT MOST 1048576: true; the input reads as it did. -/
def fnTossedUptoRow : OpenClaim := { program := "ytknepofclgjmiaa", sum := "c65f0b62e668cf4eb9c4ac3dc457a4b77cf662a7c956486f897f39a02b6ea2c5", func := "loop.example/g00979/laws.FnTossed", spec := "fnTossed", apart := false, narrowed := true }
def FnTossedUptoSaid : Prop := fnTossedUptoRow.holds Try.pinned (OpenSpec.upto fnTossedSpec)

/-- 'laws.FnWrongShare', WHERE WHAT IT READS IS OF BULK AT MOST 1048576: true; the input reads as it did. -/
def fnWrongShareUptoRow : OpenClaim := { program := "ytknepofclgjmiaa", sum := "c65f0b62e668cf4eb9c4ac3dc457a4b77cf662a7c956486f897f39a02b6ea2c5", func := "loop.example/g00979/laws.FnWrongShare", spec := "fnWrongShare", apart := false, narrowed := true }
def FnWrongShareUptoSaid : Prop := fnWrongShareUptoRow.holds Try.pinned (OpenSpec.upto fnWrongShareSpec)

/-- 'laws.FnAdditive', WHERE WHAT IT READS IS OF BULK AT MOST 1048576: true; the input reads as it did. -/
def fnAdditiveUptoRow : OpenClaim := { program := "ytknepofclgjmiaa", sum := "c65f0b62e668cf4eb9c4ac3dc457a4b77cf662a7c956486f897f39a02b6ea2c5", func := "loop.example/g00979/laws.FnAdditive", spec := "fnAdditive", apart := false, narrowed := true }
def FnAdditiveUptoSaid : Prop := fnAdditiveUptoRow.holds Try.pinned (OpenSpec.upto fnAdditiveSpec)

/-- 'laws.FnThreshold', WHERE WHAT IT READS IS OF BULK AT MOST 1048576: true; the input reads as it did. -/
def fnThresholdUptoRow : OpenClaim := { program := "ytknepofclgjmiaa", sum := "c65f0b62e668cf4eb9c4ac3dc457a4b77cf662a7c956486f897f39a02b6ea2c5", func := "loop.example/g00979/laws.FnThreshold", spec := "fnThreshold", apart := false, narrowed := true }
def FnThresholdUptoSaid : Prop := fnThresholdUptoRow.holds Try.pinned (OpenSpec.upto fnThresholdSpec)

/-- 'laws.FnLinearShares', WHERE WHAT IT READS IS OF BULK AT MOST 1048576: true; the input reads as it did. -/
def fnLinearSharesUptoRow : OpenClaim := { program := "ytknepofclgjmiaa", sum := "c65f0b62e668cf4eb9c4ac3dc457a4b77cf662a7c956486f897f39a02b6ea2c5", func := "loop.example/g00979/laws.FnLinearShares", spec := "fnLinearShares", apart := false, narrowed := true }
def FnLinearSharesUptoSaid : Prop := fnLinearSharesUptoRow.holds Try.pinned (OpenSpec.upto fnLinearSharesSpec)

end Rows
end Go.Proofs.Ytknepofclgjmiaa
