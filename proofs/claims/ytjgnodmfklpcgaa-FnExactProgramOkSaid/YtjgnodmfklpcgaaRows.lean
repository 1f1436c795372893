/-
  No cell of these rows narrows 'for every input' (looked for: loops, veiled, ifaces, maps, wideKeys, modest, calm, conditions, laid).
  DERIVED. THE GIVEN ROWS OF THIS SEAT. 12 by the template 'for every input the law returns true; each argument reads behind the call as it read before'; 0 by the template 'total and deterministic' (their statements: YtjgnodmfklpcgaaTotals.lean).
  GIVEN WITH THE SEED: the statements are not yours to turn. If you find one false, say at which input.
  Laid BY PROGRAM, IN A SANDBOX (cutbox-rows.mjs): the forced cells as the released guide's own fill.sh prints them over the translation c48ae7764d85c023… (all of the seat's roots in one cut). By AI agents, Wed Nov 11 2026. No macro, syntax, notation, axiom, sorry.
-/
import Derived.Test.YtjgnodmfklpcgaaChecked
import GoSem.Claim
import GoSem.ClaimJoined
import GoSem.ClaimMapViews
import Derived.JoinedTies
import Derived.KernelRfl
namespace Go.Proofs.Ytjgnodmfklpcgaa
/- THE CELL 'sum', in the pinned program and in every row, IS THE sha256 OF THE DUMP (.gsa) THAT YtjgnodmfklpcgaaProg.lean LOADS. Nothing in Lean hashes anything: it is a label: what it is worth is what the hold of that sum in a sandbox is worth. -/
noncomputable def Try.pinned : Pinned := { name := "ytjgnodmfklpcgaa", sum := "c48ae7764d85c023c64863852582e5cf571cb8d0e6c2d158732fc68a6ceeb806", checked := Try.checked }
namespace Rows
def none {H : Type} : Left H := { results := [], args := [] }

/-- 'laws.FnExactTapeOk': WHATEVER THE INPUT: true; the input reads as it did. -/
def fnExactTapeOkSpec : ChangeSpec := { name := "fnExactTapeOk", fn := fun _ => fun
  | [d] => { results := [.lit (.bool true)], args := [d] }
  | _ => none }
def fnExactTapeOkRow : OpenClaim := { program := "ytjgnodmfklpcgaa", sum := "c48ae7764d85c023c64863852582e5cf571cb8d0e6c2d158732fc68a6ceeb806", func := "loop.example/g00979/laws.FnExactTapeOk", spec := "fnExactTapeOk", apart := false }
def FnExactTapeOkSaid : Prop := fnExactTapeOkRow.holds Try.pinned (OpenSpec.ofChange fnExactTapeOkSpec)

/-- ITS FALSE NEIGHBOUR: 'it returns false'. Refute it at one input. -/
def fnExactTapeOkWrong : ChangeSpec := { name := "fnExactTapeOk", fn := fun _ => fun
  | [d] => { results := [.lit (.bool false)], args := [d] }
  | _ => none }
def FnExactTapeOkWrongFalsely : Prop := fnExactTapeOkRow.holds Try.pinned (OpenSpec.ofChange fnExactTapeOkWrong)

/-- 'laws.FnExactTapeFork': WHATEVER THE INPUT: true; the input reads as it did. -/
def fnExactTapeForkSpec : ChangeSpec := { name := "fnExactTapeFork", fn := fun _ => fun
  | [d1, d2] => { results := [.lit (.bool true)], args := [d1, d2] }
  | _ => none }
def fnExactTapeForkRow : OpenClaim := { program := "ytjgnodmfklpcgaa", sum := "c48ae7764d85c023c64863852582e5cf571cb8d0e6c2d158732fc68a6ceeb806", func := "loop.example/g00979/laws.FnExactTapeFork", spec := "fnExactTapeFork", apart := false }
def FnExactTapeForkSaid : Prop := fnExactTapeForkRow.holds Try.pinned (OpenSpec.ofChange fnExactTapeForkSpec)

/-- ITS FALSE NEIGHBOUR: 'it returns false'. Refute it at one input. -/
def fnExactTapeForkWrong : ChangeSpec := { name := "fnExactTapeFork", fn := fun _ => fun
  | [d1, d2] => { results := [.lit (.bool false)], args := [d1, d2] }
  | _ => none }
def FnExactTapeForkWrongFalsely : Prop := fnExactTapeForkRow.holds Try.pinned (OpenSpec.ofChange fnExactTapeForkWrong)

/-- 'laws.FnExactTapeWord': WHATEVER THE INPUT: true; the input reads as it did. -/
def fnExactTapeWordSpec : ChangeSpec := { name := "fnExactTapeWord", fn := fun _ => fun
  | [d] => { results := [.lit (.bool true)], args := [d] }
  | _ => none }
def fnExactTapeWordRow : OpenClaim := { program := "ytjgnodmfklpcgaa", sum := "c48ae7764d85c023c64863852582e5cf571cb8d0e6c2d158732fc68a6ceeb806", func := "loop.example/g00979/laws.FnExactTapeWord", spec := "fnExactTapeWord", apart := false }
def FnExactTapeWordSaid : Prop := fnExactTapeWordRow.holds Try.pinned (OpenSpec.ofChange fnExactTapeWordSpec)

/-- ITS FALSE NEIGHBOUR: 'it returns false'. Refute it at one input. -/
def fnExactTapeWordWrong : ChangeSpec := { name := "fnExactTapeWord", fn := fun _ => fun
  | [d] => { results := [.lit (.bool false)], args := [d] }
  | _ => none }
def FnExactTapeWordWrongFalsely : Prop := fnExactTapeWordRow.holds Try.pinned (OpenSpec.ofChange fnExactTapeWordWrong)

/-- 'laws.FnExactTapeBelow': WHATEVER THE INPUT: true; the input reads as it did. -/
def fnExactTapeBelowSpec : ChangeSpec := { name := "fnExactTapeBelow", fn := fun _ => fun
  | [d1, d2] => { results := [.lit (.bool true)], args := [d1, d2] }
  | _ => none }
def fnExactTapeBelowRow : OpenClaim := { program := "ytjgnodmfklpcgaa", sum := "c48ae7764d85c023c64863852582e5cf571cb8d0e6c2d158732fc68a6ceeb806", func := "loop.example/g00979/laws.FnExactTapeBelow", spec := "fnExactTapeBelow", apart := false }
def FnExactTapeBelowSaid : Prop := fnExactTapeBelowRow.holds Try.pinned (OpenSpec.ofChange fnExactTapeBelowSpec)

/-- ITS FALSE NEIGHBOUR: 'it returns false'. Refute it at one input. -/
def fnExactTapeBelowWrong : ChangeSpec := { name := "fnExactTapeBelow", fn := fun _ => fun
  | [d1, d2] => { results := [.lit (.bool false)], args := [d1, d2] }
  | _ => none }
def FnExactTapeBelowWrongFalsely : Prop := fnExactTapeBelowRow.holds Try.pinned (OpenSpec.ofChange fnExactTapeBelowWrong)

/-- 'laws.FnExactFSub': WHATEVER THE INPUT: true; the input reads as it did. -/
def fnExactFSubSpec : ChangeSpec := { name := "fnExactFSub", fn := fun _ => fun
  | [d1, d2, d3] => { results := [.lit (.bool true)], args := [d1, d2, d3] }
  | _ => none }
def fnExactFSubRow : OpenClaim := { program := "ytjgnodmfklpcgaa", sum := "c48ae7764d85c023c64863852582e5cf571cb8d0e6c2d158732fc68a6ceeb806", func := "loop.example/g00979/laws.FnExactFSub", spec := "fnExactFSub", apart := false }
def FnExactFSubSaid : Prop := fnExactFSubRow.holds Try.pinned (OpenSpec.ofChange fnExactFSubSpec)

/-- ITS FALSE NEIGHBOUR: 'it returns false'. Refute it at one input. -/
def fnExactFSubWrong : ChangeSpec := { name := "fnExactFSub", fn := fun _ => fun
  | [d1, d2, d3] => { results := [.lit (.bool false)], args := [d1, d2, d3] }
  | _ => none }
def FnExactFSubWrongFalsely : Prop := fnExactFSubRow.holds Try.pinned (OpenSpec.ofChange fnExactFSubWrong)

/-- 'laws.FnExactCommit': WHATEVER THE INPUT: true; the input reads as it did. -/
def fnExactCommitSpec : ChangeSpec := { name := "fnExactCommit", fn := fun _ => fun
  | [d1, d2] => { results := [.lit (.bool true)], args := [d1, d2] }
  | _ => none }
def fnExactCommitRow : OpenClaim := { program := "ytjgnodmfklpcgaa", sum := "c48ae7764d85c023c64863852582e5cf571cb8d0e6c2d158732fc68a6ceeb806", func := "loop.example/g00979/laws.FnExactCommit", spec := "fnExactCommit", apart := false }
def FnExactCommitSaid : Prop := fnExactCommitRow.holds Try.pinned (OpenSpec.ofChange fnExactCommitSpec)

/-- ITS FALSE NEIGHBOUR: 'it returns false'. Refute it at one input. -/
def fnExactCommitWrong : ChangeSpec := { name := "fnExactCommit", fn := fun _ => fun
  | [d1, d2] => { results := [.lit (.bool false)], args := [d1, d2] }
  | _ => none }
def FnExactCommitWrongFalsely : Prop := fnExactCommitRow.holds Try.pinned (OpenSpec.ofChange fnExactCommitWrong)

/-- 'laws.FnExactOpenOk': WHATEVER THE INPUT: true; the input reads as it did. -/
def fnExactOpenOkSpec : ChangeSpec := { name := "fnExactOpenOk", fn := fun _ => fun
  | [d1, d2, d3] => { results := [.lit (.bool true)], args := [d1, d2, d3] }
  | _ => none }
def fnExactOpenOkRow : OpenClaim := { program := "ytjgnodmfklpcgaa", sum := "c48ae7764d85c023c64863852582e5cf571cb8d0e6c2d158732fc68a6ceeb806", func := "loop.example/g00979/laws.FnExactOpenOk", spec := "fnExactOpenOk", apart := false }
def FnExactOpenOkSaid : Prop := fnExactOpenOkRow.holds Try.pinned (OpenSpec.ofChange fnExactOpenOkSpec)

/-- ITS FALSE NEIGHBOUR: 'it returns false'. Refute it at one input. -/
def fnExactOpenOkWrong : ChangeSpec := { name := "fnExactOpenOk", fn := fun _ => fun
  | [d1, d2, d3] => { results := [.lit (.bool false)], args := [d1, d2, d3] }
  | _ => none }
def FnExactOpenOkWrongFalsely : Prop := fnExactOpenOkRow.holds Try.pinned (OpenSpec.ofChange fnExactOpenOkWrong)

/-- 'laws.FnExactStmtOk': WHATEVER THE INPUT: true; the input reads as it did. -/
def fnExactStmtOkSpec : ChangeSpec := { name := "fnExactStmtOk", fn := fun _ => fun
  | [d] => { results := [.lit (.bool true)], args := [d] }
  | _ => none }
def fnExactStmtOkRow : OpenClaim := { program := "ytjgnodmfklpcgaa", sum := "c48ae7764d85c023c64863852582e5cf571cb8d0e6c2d158732fc68a6ceeb806", func := "loop.example/g00979/laws.FnExactStmtOk", spec := "fnExactStmtOk", apart := false }
def FnExactStmtOkSaid : Prop := fnExactStmtOkRow.holds Try.pinned (OpenSpec.ofChange fnExactStmtOkSpec)

/-- ITS FALSE NEIGHBOUR: 'it returns false'. Refute it at one input. -/
def fnExactStmtOkWrong : ChangeSpec := { name := "fnExactStmtOk", fn := fun _ => fun
  | [d] => { results := [.lit (.bool false)], args := [d] }
  | _ => none }
def FnExactStmtOkWrongFalsely : Prop := fnExactStmtOkRow.holds Try.pinned (OpenSpec.ofChange fnExactStmtOkWrong)

/-- 'laws.FnExactWritesOf': WHATEVER THE INPUT: true; the input reads as it did. -/
def fnExactWritesOfSpec : ChangeSpec := { name := "fnExactWritesOf", fn := fun _ => fun
  | [d] => { results := [.lit (.bool true)], args := [d] }
  | _ => none }
def fnExactWritesOfRow : OpenClaim := { program := "ytjgnodmfklpcgaa", sum := "c48ae7764d85c023c64863852582e5cf571cb8d0e6c2d158732fc68a6ceeb806", func := "loop.example/g00979/laws.FnExactWritesOf", spec := "fnExactWritesOf", apart := false }
def FnExactWritesOfSaid : Prop := fnExactWritesOfRow.holds Try.pinned (OpenSpec.ofChange fnExactWritesOfSpec)

/-- ITS FALSE NEIGHBOUR: 'it returns false'. Refute it at one input. -/
def fnExactWritesOfWrong : ChangeSpec := { name := "fnExactWritesOf", fn := fun _ => fun
  | [d] => { results := [.lit (.bool false)], args := [d] }
  | _ => none }
def FnExactWritesOfWrongFalsely : Prop := fnExactWritesOfRow.holds Try.pinned (OpenSpec.ofChange fnExactWritesOfWrong)

/-- 'laws.FnExactReadsOf': WHATEVER THE INPUT: true; the input reads as it did. -/
def fnExactReadsOfSpec : ChangeSpec := { name := "fnExactReadsOf", fn := fun _ => fun
  | [d] => { results := [.lit (.bool true)], args := [d] }
  | _ => none }
def fnExactReadsOfRow : OpenClaim := { program := "ytjgnodmfklpcgaa", sum := "c48ae7764d85c023c64863852582e5cf571cb8d0e6c2d158732fc68a6ceeb806", func := "loop.example/g00979/laws.FnExactReadsOf", spec := "fnExactReadsOf", apart := false }
def FnExactReadsOfSaid : Prop := fnExactReadsOfRow.holds Try.pinned (OpenSpec.ofChange fnExactReadsOfSpec)

/-- ITS FALSE NEIGHBOUR: 'it returns false'. Refute it at one input. -/
def fnExactReadsOfWrong : ChangeSpec := { name := "fnExactReadsOf", fn := fun _ => fun
  | [d] => { results := [.lit (.bool false)], args := [d] }
  | _ => none }
def FnExactReadsOfWrongFalsely : Prop := fnExactReadsOfRow.holds Try.pinned (OpenSpec.ofChange fnExactReadsOfWrong)

/-- 'laws.FnExactProgramOk': WHATEVER THE INPUT: true; the input reads as it did. -/
def fnExactProgramOkSpec : ChangeSpec := { name := "fnExactProgramOk", fn := fun _ => fun
  | [d] => { results := [.lit (.bool true)], args := [d] }
  | _ => none }
def fnExactProgramOkRow : OpenClaim := { program := "ytjgnodmfklpcgaa", sum := "c48ae7764d85c023c64863852582e5cf571cb8d0e6c2d158732fc68a6ceeb806", func := "loop.example/g00979/laws.FnExactProgramOk", spec := "fnExactProgramOk", apart := false }
def FnExactProgramOkSaid : Prop := fnExactProgramOkRow.holds Try.pinned (OpenSpec.ofChange fnExactProgramOkSpec)

/-- ITS FALSE NEIGHBOUR: 'it returns false'. Refute it at one input. -/
def fnExactProgramOkWrong : ChangeSpec := { name := "fnExactProgramOk", fn := fun _ => fun
  | [d] => { results := [.lit (.bool false)], args := [d] }
  | _ => none }
def FnExactProgramOkWrongFalsely : Prop := fnExactProgramOkRow.holds Try.pinned (OpenSpec.ofChange fnExactProgramOkWrong)

/-- 'laws.FnExactTapeList': WHATEVER THE INPUT: true; the input reads as it did. -/
def fnExactTapeListSpec : ChangeSpec := { name := "fnExactTapeList", fn := fun _ => fun
  | [d1, d2, d3] => { results := [.lit (.bool true)], args := [d1, d2, d3] }
  | _ => none }
def fnExactTapeListRow : OpenClaim := { program := "ytjgnodmfklpcgaa", sum := "c48ae7764d85c023c64863852582e5cf571cb8d0e6c2d158732fc68a6ceeb806", func := "loop.example/g00979/laws.FnExactTapeList", spec := "fnExactTapeList", apart := false }
def FnExactTapeListSaid : Prop := fnExactTapeListRow.holds Try.pinned (OpenSpec.ofChange fnExactTapeListSpec)

/-- ITS FALSE NEIGHBOUR: 'it returns false'. Refute it at one input. -/
def fnExactTapeListWrong : ChangeSpec := { name := "fnExactTapeList", fn := fun _ => fun
  | [d1, d2, d3] => { results := [.lit (.bool false)], args := [d1, d2, d3] }
  | _ => none }
def FnExactTapeListWrongFalsely : Prop := fnExactTapeListRow.holds Try.pinned (OpenSpec.ofChange fnExactTapeListWrong)

/- THE SECOND FORM. 'bulk': how many values and letters a reading holds, each counted each time it is reached (what is shared counts as often as it is met; a slice's spare places count too). A statement '..UptoSaid' is the law's where the arguments, and the package variables that the reading takes, are together of bulk at most 1048576: NARROWER than '..Said'. Prove '..Said' where nothing that the law and all that it calls make is longer than what came in: it says more and counts as full. Else prove '..UptoSaid'. A law counts once. -/
mutual
def uptoBulk {H : Type} : DataW H → Nat
  | .lit (.string bytes) => bytes.length + 1
  | .lit _ => 1
  | .nil => 1
  | .ptr d => uptoBulk d + 1
  | .slice elems spare => uptoBulkAll elems + uptoBulkAll spare + 1
  | .agg parts => uptoBulkAll parts + 1
  | .iface _ d => uptoBulk d + 1
  | .map entries => uptoBulkEntries entries + 1
  | .held _ => 1
def uptoBulkAll {H : Type} : List (DataW H) → Nat
  | [] => 0
  | d :: r => uptoBulk d + uptoBulkAll r
def uptoBulkEntries {H : Type} : List (Lit × DataW H) → Nat
  | [] => 0
  | x :: r => uptoBulkEntry x + uptoBulkEntries r
def uptoBulkEntry {H : Type} : Lit × DataW H → Nat
  | (.string bytes, d) => bytes.length + uptoBulk d + 1
  | (_, d) => uptoBulk d + 1
 end
def uptoSmall : (H : Type) → List (DataW H) → Bool := fun _ ds => decide (uptoBulkAll ds ≤ 1048576)
def OpenSpec.upto (s : _root_.Go.ChangeSpec) : _root_.Go.OpenSpec := { _root_.Go.OpenSpec.ofChange s with cond := some uptoSmall }

/-- 'laws.FnExactTapeOk', WHERE WHAT IT READS IS OF BULK AT MOST 1048576: true; the input reads as it did. -/
def fnExactTapeOkUptoRow : OpenClaim := { program := "ytjgnodmfklpcgaa", sum := "c48ae7764d85c023c64863852582e5cf571cb8d0e6c2d158732fc68a6ceeb806", func := "loop.example/g00979/laws.FnExactTapeOk", spec := "fnExactTapeOk", apart := false, narrowed := true }
def FnExactTapeOkUptoSaid : Prop := fnExactTapeOkUptoRow.holds Try.pinned (OpenSpec.upto fnExactTapeOkSpec)

/-- 'laws.FnExactTapeFork', WHERE WHAT IT READS IS OF BULK AT MOST 1048576: true; the input reads as it did. -/
def fnExactTapeForkUptoRow : OpenClaim := { program := "ytjgnodmfklpcgaa", sum := "c48ae7764d85c023c64863852582e5cf571cb8d0e6c2d158732fc68a6ceeb806", func := "loop.example/g00979/laws.FnExactTapeFork", spec := "fnExactTapeFork", apart := false, narrowed := true }
def FnExactTapeForkUptoSaid : Prop := fnExactTapeForkUptoRow.holds Try.pinned (OpenSpec.upto fnExactTapeForkSpec)

/-- 'laws.FnExactTapeWord', WHERE WHAT IT READS IS OF BULK AT MOST 1048576: true; the input reads as it did. -/
def fnExactTapeWordUptoRow : OpenClaim := { program := "ytjgnodmfklpcgaa", sum := "c48ae7764d85c023c64863852582e5cf571cb8d0e6c2d158732fc68a6ceeb806", func := "loop.example/g00979/laws.FnExactTapeWord", spec := "fnExactTapeWord", apart := false, narrowed := true }
def FnExactTapeWordUptoSaid : Prop := fnExactTapeWordUptoRow.holds Try.pinned (OpenSpec.upto fnExactTapeWordSpec)

/-- 'laws.FnExactTapeBelow', WHERE WHAT IT READS IS OF BULK AT MOST 1048576: true; the input reads as it did. -/
def fnExactTapeBelowUptoRow : OpenClaim := { program := "ytjgnodmfklpcgaa", sum := "c48ae7764d85c023c64863852582e5cf571cb8d0e6c2d158732fc68a6ceeb806", func := "loop.example/g00979/laws.FnExactTapeBelow", spec := "fnExactTapeBelow", apart := false, narrowed := true }
def FnExactTapeBelowUptoSaid : Prop := fnExactTapeBelowUptoRow.holds Try.pinned (OpenSpec.upto fnExactTapeBelowSpec)

/-- 'laws.FnExactFSub', WHERE WHAT IT READS IS OF BULK AT MOST 1048576: true; the input reads as it did. -/
def fnExactFSubUptoRow : OpenClaim := { program := "ytjgnodmfklpcgaa", sum := "c48ae7764d85c023c64863852582e5cf571cb8d0e6c2d158732fc68a6ceeb806", func := "loop.example/g00979/laws.FnExactFSub", spec := "fnExactFSub", apart := false, narrowed := true }
def FnExactFSubUptoSaid : Prop := fnExactFSubUptoRow.holds Try.pinned (OpenSpec.upto fnExactFSubSpec)

/-- 'laws.FnExactCommit', WHERE WHAT IT READS IS OF BULK AT MOST 1048576: true; the input reads as it did. -/
def fnExactCommitUptoRow : OpenClaim := { program := "ytjgnodmfklpcgaa", sum := "c48ae7764d85c023c64863852582e5cf571cb8d0e6c2d158732fc68a6ceeb806", func := "loop.example/g00979/laws.FnExactCommit", spec := "fnExactCommit", apart := false, narrowed := true }
def FnExactCommitUptoSaid : Prop := fnExactCommitUptoRow.holds Try.pinned (OpenSpec.upto fnExactCommitSpec)

/-- 'laws.FnExactOpenOk', WHERE WHAT IT READS IS OF BULK AT MOST 1048576: true; the input reads as it did. -/
def fnExactOpenOkUptoRow : OpenClaim := { program := "ytjgnodmfklpcgaa", sum := "c48ae7764d85c023c64863852582e5cf571cb8d0e6c2d158732fc68a6ceeb806", func := "loop.example/g00979/laws.FnExactOpenOk", spec := "fnExactOpenOk", apart := false, narrowed := true }
def FnExactOpenOkUptoSaid : Prop := fnExactOpenOkUptoRow.holds Try.pinned (OpenSpec.upto fnExactOpenOkSpec)

/-- 'laws.FnExactStmtOk', WHERE WHAT IT READS IS OF BULK AT MOST 1048576: true; the input reads as it did. -/
def fnExactStmtOkUptoRow : OpenClaim := { program := "ytjgnodmfklpcgaa", sum := "c48ae7764d85c023c64863852582e5cf571cb8d0e6c2d158732fc68a6ceeb806", func := "loop.example/g00979/laws.FnExactStmtOk", spec := "fnExactStmtOk", apart := false, narrowed := true }
def FnExactStmtOkUptoSaid : Prop := fnExactStmtOkUptoRow.holds Try.pinned (OpenSpec.upto fnExactStmtOkSpec)

/-- 'laws.FnExactWritesOf', WHERE WHAT IT READS IS OF BULK AT MOST 1048576: true; the input reads as it did. -/
def fnExactWritesOfUptoRow : OpenClaim := { program := "ytjgnodmfklpcgaa", sum := "c48ae7764d85c023c64863852582e5cf571cb8d0e6c2d158732fc68a6ceeb806", func := "loop.example/g00979/laws.FnExactWritesOf", spec := "fnExactWritesOf", apart := false, narrowed := true }
def FnExactWritesOfUptoSaid : Prop := fnExactWritesOfUptoRow.holds Try.pinned (OpenSpec.upto fnExactWritesOfSpec)

/-- 'laws.FnExactReadsOf', WHERE WHAT IT READS IS OF BULK AT MOST 1048576: true; the input reads as it did. -/
def fnExactReadsOfUptoRow : OpenClaim := { program := "ytjgnodmfklpcgaa", sum := "c48ae7764d85c023c64863852582e5cf571cb8d0e6c2d158732fc68a6ceeb806", func := "loop.example/g00979/laws.FnExactReadsOf", spec := "fnExactReadsOf", apart := false, narrowed := true }
def FnExactReadsOfUptoSaid : Prop := fnExactReadsOfUptoRow.holds Try.pinned (OpenSpec.upto fnExactReadsOfSpec)

/-- 'laws.FnExactProgramOk', WHERE WHAT IT READS IS OF BULK AT MOST 1048576: true; the input reads as it did. -/
def fnExactProgramOkUptoRow : OpenClaim := { program := "ytjgnodmfklpcgaa", sum := "c48ae7764d85c023c64863852582e5cf571cb8d0e6c2d158732fc68a6ceeb806", func := "loop.example/g00979/laws.FnExactProgramOk", spec := "fnExactProgramOk", apart := false, narrowed := true }
def FnExactProgramOkUptoSaid : Prop := fnExactProgramOkUptoRow.holds Try.pinned (OpenSpec.upto fnExactProgramOkSpec)

/-- 'laws.FnExactTapeList', WHERE WHAT IT READS IS OF BULK AT MOST 1048576: true; the input reads as it did. -/
def fnExactTapeListUptoRow : OpenClaim := { program := "ytjgnodmfklpcgaa", sum := "c48ae7764d85c023c64863852582e5cf571cb8d0e6c2d158732fc68a6ceeb806", func := "loop.example/g00979/laws.FnExactTapeList", spec := "fnExactTapeList", apart := false, narrowed := true }
def FnExactTapeListUptoSaid : Prop := fnExactTapeListUptoRow.holds Try.pinned (OpenSpec.upto fnExactTapeListSpec)

end Rows
end Go.Proofs.Ytjgnodmfklpcgaa
