/-
  No cell of these rows narrows 'for every input' (looked for: loops, veiled, ifaces, maps, wideKeys, modest, calm, conditions, laid).
  DERIVED. THE GIVEN ROWS OF THIS SEAT. 10 by the template 'for every input the law returns true; each argument reads behind the call as it read before'; 0 by the template 'total and deterministic' (their statements: YtdmaklgpgdcnpaaTotals.lean).
  GIVEN WITH THE SEED: the statements are not yours to turn. If you find one false, say at which input.
  Laid BY PROGRAM, IN A SANDBOX (cutbox-rows.mjs): the forced cells as the released guide's own fill.sh prints them over the translation 8d9eb0bc636d254f… (all of the seat's roots in one cut). By AI agents, Wed Nov 11 2026. No macro, syntax, notation, axiom, sorry.
-/
import Derived.Test.YtdmaklgpgdcnpaaChecked
import GoSem.Claim
import GoSem.ClaimJoined
import GoSem.ClaimMapViews
import Derived.JoinedTies
import Derived.KernelRfl
namespace Go.Proofs.Ytdmaklgpgdcnpaa
/- THE CELL 'sum', in the pinned program and in every row, IS THE sha256 OF THE DUMP (.gsa) THAT YtdmaklgpgdcnpaaProg.lean LOADS. Nothing in Lean hashes anything: it is a label: what it is worth is what the hold of that sum in a sandbox is worth. -/
noncomputable def Try.pinned : Pinned := { name := "ytdmaklgpgdcnpaa", sum := "8d9eb0bc636d254ff6ac36bbfd1da17898adbcbd7039a8b399aa3e1cb66b3174", checked := Try.checked }
namespace Rows
def none {H : Type} : Left H := { results := [], args := [] }

/-- 'laws.FnExactTossCheat': WHATEVER THE INPUT: true; the input reads as it did. -/
def fnExactTossCheatSpec : ChangeSpec := { name := "fnExactTossCheat", fn := fun _ => fun
  | [d] => { results := [.lit (.bool true)], args := [d] }
  | _ => none }
def fnExactTossCheatRow : OpenClaim := { program := "ytdmaklgpgdcnpaa", sum := "8d9eb0bc636d254ff6ac36bbfd1da17898adbcbd7039a8b399aa3e1cb66b3174", func := "loop.example/g00979/laws.FnExactTossCheat", spec := "fnExactTossCheat", apart := false }
def FnExactTossCheatSaid : Prop := fnExactTossCheatRow.holds Try.pinned (OpenSpec.ofChange fnExactTossCheatSpec)

/-- ITS FALSE NEIGHBOUR: 'it returns false'. Refute it at one input. -/
def fnExactTossCheatWrong : ChangeSpec := { name := "fnExactTossCheat", fn := fun _ => fun
  | [d] => { results := [.lit (.bool false)], args := [d] }
  | _ => none }
def FnExactTossCheatWrongFalsely : Prop := fnExactTossCheatRow.holds Try.pinned (OpenSpec.ofChange fnExactTossCheatWrong)

/-- 'laws.FnExactTossNew': WHATEVER THE INPUT: true; the input reads as it did. -/
def fnExactTossNewSpec : ChangeSpec := { name := "fnExactTossNew", fn := fun _ => fun
  | [d1, d2] => { results := [.lit (.bool true)], args := [d1, d2] }
  | _ => none }
def fnExactTossNewRow : OpenClaim := { program := "ytdmaklgpgdcnpaa", sum := "8d9eb0bc636d254ff6ac36bbfd1da17898adbcbd7039a8b399aa3e1cb66b3174", func := "loop.example/g00979/laws.FnExactTossNew", spec := "fnExactTossNew", apart := false }
def FnExactTossNewSaid : Prop := fnExactTossNewRow.holds Try.pinned (OpenSpec.ofChange fnExactTossNewSpec)

/-- ITS FALSE NEIGHBOUR: 'it returns false'. Refute it at one input. -/
def fnExactTossNewWrong : ChangeSpec := { name := "fnExactTossNew", fn := fun _ => fun
  | [d1, d2] => { results := [.lit (.bool false)], args := [d1, d2] }
  | _ => none }
def FnExactTossNewWrongFalsely : Prop := fnExactTossNewRow.holds Try.pinned (OpenSpec.ofChange fnExactTossNewWrong)

/-- 'laws.FnExactTossCoin': WHATEVER THE INPUT: true; the input reads as it did. -/
def fnExactTossCoinSpec : ChangeSpec := { name := "fnExactTossCoin", fn := fun _ => fun
  | [d] => { results := [.lit (.bool true)], args := [d] }
  | _ => none }
def fnExactTossCoinRow : OpenClaim := { program := "ytdmaklgpgdcnpaa", sum := "8d9eb0bc636d254ff6ac36bbfd1da17898adbcbd7039a8b399aa3e1cb66b3174", func := "loop.example/g00979/laws.FnExactTossCoin", spec := "fnExactTossCoin", apart := false }
def FnExactTossCoinSaid : Prop := fnExactTossCoinRow.holds Try.pinned (OpenSpec.ofChange fnExactTossCoinSpec)

/-- ITS FALSE NEIGHBOUR: 'it returns false'. Refute it at one input. -/
def fnExactTossCoinWrong : ChangeSpec := { name := "fnExactTossCoin", fn := fun _ => fun
  | [d] => { results := [.lit (.bool false)], args := [d] }
  | _ => none }
def FnExactTossCoinWrongFalsely : Prop := fnExactTossCoinRow.holds Try.pinned (OpenSpec.ofChange fnExactTossCoinWrong)

/-- 'laws.FnXor': WHATEVER THE INPUT: true; the input reads as it did. -/
def fnXorSpec : ChangeSpec := { name := "fnXor", fn := fun _ => fun
  | [d] => { results := [.lit (.bool true)], args := [d] }
  | _ => none }
def fnXorRow : OpenClaim := { program := "ytdmaklgpgdcnpaa", sum := "8d9eb0bc636d254ff6ac36bbfd1da17898adbcbd7039a8b399aa3e1cb66b3174", func := "loop.example/g00979/laws.FnXor", spec := "fnXor", apart := false }
def FnXorSaid : Prop := fnXorRow.holds Try.pinned (OpenSpec.ofChange fnXorSpec)

/-- ITS FALSE NEIGHBOUR: 'it returns false'. Refute it at one input. -/
def fnXorWrong : ChangeSpec := { name := "fnXor", fn := fun _ => fun
  | [d] => { results := [.lit (.bool false)], args := [d] }
  | _ => none }
def FnXorWrongFalsely : Prop := fnXorRow.holds Try.pinned (OpenSpec.ofChange fnXorWrong)

/-- 'laws.FnClamped': WHATEVER THE INPUT: true; the input reads as it did. -/
def fnClampedSpec : ChangeSpec := { name := "fnClamped", fn := fun _ => fun
  | [d] => { results := [.lit (.bool true)], args := [d] }
  | _ => none }
def fnClampedRow : OpenClaim := { program := "ytdmaklgpgdcnpaa", sum := "8d9eb0bc636d254ff6ac36bbfd1da17898adbcbd7039a8b399aa3e1cb66b3174", func := "loop.example/g00979/laws.FnClamped", spec := "fnClamped", apart := false }
def FnClampedSaid : Prop := fnClampedRow.holds Try.pinned (OpenSpec.ofChange fnClampedSpec)

/-- ITS FALSE NEIGHBOUR: 'it returns false'. Refute it at one input. -/
def fnClampedWrong : ChangeSpec := { name := "fnClamped", fn := fun _ => fun
  | [d] => { results := [.lit (.bool false)], args := [d] }
  | _ => none }
def FnClampedWrongFalsely : Prop := fnClampedRow.holds Try.pinned (OpenSpec.ofChange fnClampedWrong)

/-- 'laws.FnMixing': WHATEVER THE INPUT: true; the input reads as it did. -/
def fnMixingSpec : ChangeSpec := { name := "fnMixing", fn := fun _ => fun
  | [d] => { results := [.lit (.bool true)], args := [d] }
  | _ => none }
def fnMixingRow : OpenClaim := { program := "ytdmaklgpgdcnpaa", sum := "8d9eb0bc636d254ff6ac36bbfd1da17898adbcbd7039a8b399aa3e1cb66b3174", func := "loop.example/g00979/laws.FnMixing", spec := "fnMixing", apart := false }
def FnMixingSaid : Prop := fnMixingRow.holds Try.pinned (OpenSpec.ofChange fnMixingSpec)

/-- ITS FALSE NEIGHBOUR: 'it returns false'. Refute it at one input. -/
def fnMixingWrong : ChangeSpec := { name := "fnMixing", fn := fun _ => fun
  | [d] => { results := [.lit (.bool false)], args := [d] }
  | _ => none }
def FnMixingWrongFalsely : Prop := fnMixingRow.holds Try.pinned (OpenSpec.ofChange fnMixingWrong)

/-- 'laws.FnCommitted': WHATEVER THE INPUT: true; the input reads as it did. -/
def fnCommittedSpec : ChangeSpec := { name := "fnCommitted", fn := fun _ => fun
  | [d] => { results := [.lit (.bool true)], args := [d] }
  | _ => none }
def fnCommittedRow : OpenClaim := { program := "ytdmaklgpgdcnpaa", sum := "8d9eb0bc636d254ff6ac36bbfd1da17898adbcbd7039a8b399aa3e1cb66b3174", func := "loop.example/g00979/laws.FnCommitted", spec := "fnCommitted", apart := false }
def FnCommittedSaid : Prop := fnCommittedRow.holds Try.pinned (OpenSpec.ofChange fnCommittedSpec)

/-- ITS FALSE NEIGHBOUR: 'it returns false'. Refute it at one input. -/
def fnCommittedWrong : ChangeSpec := { name := "fnCommitted", fn := fun _ => fun
  | [d] => { results := [.lit (.bool false)], args := [d] }
  | _ => none }
def FnCommittedWrongFalsely : Prop := fnCommittedRow.holds Try.pinned (OpenSpec.ofChange fnCommittedWrong)

/-- 'laws.FnField': WHATEVER THE INPUT: true; the input reads as it did. -/
def fnFieldSpec : ChangeSpec := { name := "fnField", fn := fun _ => fun
  | [d] => { results := [.lit (.bool true)], args := [d] }
  | _ => none }
def fnFieldRow : OpenClaim := { program := "ytdmaklgpgdcnpaa", sum := "8d9eb0bc636d254ff6ac36bbfd1da17898adbcbd7039a8b399aa3e1cb66b3174", func := "loop.example/g00979/laws.FnField", spec := "fnField", apart := false }
def FnFieldSaid : Prop := fnFieldRow.holds Try.pinned (OpenSpec.ofChange fnFieldSpec)

/-- ITS FALSE NEIGHBOUR: 'it returns false'. Refute it at one input. -/
def fnFieldWrong : ChangeSpec := { name := "fnField", fn := fun _ => fun
  | [d] => { results := [.lit (.bool false)], args := [d] }
  | _ => none }
def FnFieldWrongFalsely : Prop := fnFieldRow.holds Try.pinned (OpenSpec.ofChange fnFieldWrong)

/-- 'laws.FnInverse': WHATEVER THE INPUT: true; the input reads as it did. -/
def fnInverseSpec : ChangeSpec := { name := "fnInverse", fn := fun _ => fun
  | [d] => { results := [.lit (.bool true)], args := [d] }
  | _ => none }
def fnInverseRow : OpenClaim := { program := "ytdmaklgpgdcnpaa", sum := "8d9eb0bc636d254ff6ac36bbfd1da17898adbcbd7039a8b399aa3e1cb66b3174", func := "loop.example/g00979/laws.FnInverse", spec := "fnInverse", apart := false }
def FnInverseSaid : Prop := fnInverseRow.holds Try.pinned (OpenSpec.ofChange fnInverseSpec)

/-- ITS FALSE NEIGHBOUR: 'it returns false'. Refute it at one input. -/
def fnInverseWrong : ChangeSpec := { name := "fnInverse", fn := fun _ => fun
  | [d] => { results := [.lit (.bool false)], args := [d] }
  | _ => none }
def FnInverseWrongFalsely : Prop := fnInverseRow.holds Try.pinned (OpenSpec.ofChange fnInverseWrong)

/-- 'laws.FnForked': WHATEVER THE INPUT: true; the input reads as it did. -/
def fnForkedSpec : ChangeSpec := { name := "fnForked", fn := fun _ => fun
  | [d] => { results := [.lit (.bool true)], args := [d] }
  | _ => none }
def fnForkedRow : OpenClaim := { program := "ytdmaklgpgdcnpaa", sum := "8d9eb0bc636d254ff6ac36bbfd1da17898adbcbd7039a8b399aa3e1cb66b3174", func := "loop.example/g00979/laws.FnForked", spec := "fnForked", apart := false }
def FnForkedSaid : Prop := fnForkedRow.holds Try.pinned (OpenSpec.ofChange fnForkedSpec)

/-- ITS FALSE NEIGHBOUR: 'it returns false'. Refute it at one input. -/
def fnForkedWrong : ChangeSpec := { name := "fnForked", fn := fun _ => fun
  | [d] => { results := [.lit (.bool false)], args := [d] }
  | _ => none }
def FnForkedWrongFalsely : Prop := fnForkedRow.holds Try.pinned (OpenSpec.ofChange fnForkedWrong)

/- THE SECOND FORM. 'bulk': how many values and letters a reading holds, each counted each time it is reached (what is shared counts as often as it is met; a slice's spare places count too). A statement '..UptoSaid' is the law's where the arguments, and the package variables that the reading takes, are together of bulk at most 1048576: NARROWER than '..Said'. Prove '..Said' where nothing that the law and all that it calls make is longer than what came in: it says more and counts as full. Else prove '..UptoSaid'. A law counts once. -/
mutual
def uptoBulk {H : Type} : DataW H → Nat
  | .lit (.string bytes) => bytes.length + 1
  | .lit _ => 1
  | .nil => 1
  | .ptr d => uptoBulk d + 1
  | .slice elems spare => uptoBulkAll elems + uptoBulkAll spare + 1
  | .agg parts => uptoBulkAll parts + 1
  | .iface _ d => uptoBulk d + 1
  | .map entries => uptoBulkEntries entries + 1
  | .held _ => 1
def uptoBulkAll {H : Type} : List (DataW H) → Nat
  | [] => 0
  | d :: r => uptoBulk d + uptoBulkAll r
def uptoBulkEntries {H : Type} : List (Lit × DataW H) → Nat
  | [] => 0
  | x :: r => uptoBulkEntry x + uptoBulkEntries r
def uptoBulkEntry {H : Type} : Lit × DataW H → Nat
  | (.string bytes, d) => bytes.length + uptoBulk d + 1
  | (_, d) => uptoBulk d + 1
 end
def uptoSmall : (H : Type) → List (DataW H) → Bool := fun _ ds => decide (uptoBulkAll ds ≤ 1048576)
def OpenSpec.upto (s : _root_.Go.ChangeSpec) : _root_.Go.OpenSpec := { _root_.Go.OpenSpec.ofChange s with cond := some uptoSmall }

/-- 'laws.FnExactTossCheat', WHERE WHAT IT READS IS OF BULK AT MOST 1048576: true; the input reads as it did. -/
def fnExactTossCheatUptoRow : OpenClaim := { program := "ytdmaklgpgdcnpaa", sum := "8d9eb0bc636d254ff6ac36bbfd1da17898adbcbd7039a8b399aa3e1cb66b3174", func := "loop.example/g00979/laws.FnExactTossCheat", spec := "fnExactTossCheat", apart := false, narrowed := true }
def FnExactTossCheatUptoSaid : Prop := fnExactTossCheatUptoRow.holds Try.pinned (OpenSpec.upto fnExactTossCheatSpec)

/-- 'laws.FnExactTossNew', WHERE WHAT IT READS IS OF BULK AT MOST 1048576: true; the input reads as it did. -/
def fnExactTossNewUptoRow : OpenClaim := { program := "ytdmaklgpgdcnpaa", sum := "8d9eb0bc636d254ff6ac36bbfd1da17898adbcbd7039a8b399aa3e1cb66b3174", func := "loop.example/g00979/laws.FnExactTossNew", spec := "fnExactTossNew", apart := false, narrowed := true }
def FnExactTossNewUptoSaid : Prop := fnExactTossNewUptoRow.holds Try.pinned (OpenSpec.upto fnExactTossNewSpec)

/-- 'laws.FnExactTossCoin', WHERE WHAT IT READS IS OF BULK AT MOST 1048576: true; the input reads as it did. -/
def fnExactTossCoinUptoRow : OpenClaim := { program := "ytdmaklgpgdcnpaa", sum := "8d9eb0bc636d254ff6ac36bbfd1da17898adbcbd7039a8b399aa3e1cb66b3174", func := "loop.example/g00979/laws.FnExactTossCoin", spec := "fnExactTossCoin", apart := false, narrowed := true }
def FnExactTossCoinUptoSaid : Prop := fnExactTossCoinUptoRow.holds Try.pinned (OpenSpec.upto fnExactTossCoinSpec)

/-- 'laws.FnXor', WHERE WHAT IT READS IS OF BULK AT MOST 1048576: true; the input reads as it did. -/
def fnXorUptoRow : OpenClaim := { program := "ytdmaklgpgdcnpaa", sum := "8d9eb0bc636d254ff6ac36bbfd1da17898adbcbd7039a8b399aa3e1cb66b3174", func := "loop.example/g00979/laws.FnXor", spec := "fnXor", apart := false, narrowed := true }
def FnXorUptoSaid : Prop := fnXorUptoRow.holds Try.pinned (OpenSpec.upto fnXorSpec)

/-- 'laws.FnClamped', WHERE WHAT IT READS IS OF BULK AT MOST 1048576: true; the input reads as it did. -/
def fnClampedUptoRow : OpenClaim := { program := "ytdmaklgpgdcnpaa", sum := "8d9eb0bc636d254ff6ac36bbfd1da17898adbcbd7039a8b399aa3e1cb66b3174", func := "loop.example/g00979/laws.FnClamped", spec := "fnClamped", apart := false, narrowed := true }
def FnClampedUptoSaid : Prop := fnClampedUptoRow.holds Try.pinned (OpenSpec.upto fnClampedSpec)

/-- 'laws.FnMixing', WHERE WHAT IT READS IS OF BULK AT MOST 1048576: true; the input reads as it did. -/
def fnMixingUptoRow : OpenClaim := { program := "ytdmaklgpgdcnpaa", sum := "8d9eb0bc636d254ff6ac36bbfd1da17898adbcbd7039a8b399aa3e1cb66b3174", func := "loop.example/g00979/laws.FnMixing", spec := "fnMixing", apart := false, narrowed := true }
def FnMixingUptoSaid : Prop := fnMixingUptoRow.holds Try.pinned (OpenSpec.upto fnMixingSpec)

/-- 'laws.FnCommitted', WHERE WHAT IT READS IS OF BULK AT MOST 1048576: true; the input reads as it did. -/
def fnCommittedUptoRow : OpenClaim := { program := "ytdmaklgpgdcnpaa", sum := "8d9eb0bc636d254ff6ac36bbfd1da17898adbcbd7039a8b399aa3e1cb66b3174", func := "loop.example/g00979/laws.FnCommitted", spec := "fnCommitted", apart := false, narrowed := true }
def FnCommittedUptoSaid : Prop := fnCommittedUptoRow.holds Try.pinned (OpenSpec.upto fnCommittedSpec)

/-- 'laws.FnField', WHERE WHAT IT READS IS OF BULK AT MOST 1048576: true; the input reads as it did. -/
def fnFieldUptoRow : OpenClaim := { program := "ytdmaklgpgdcnpaa", sum := "8d9eb0bc636d254ff6ac36bbfd1da17898adbcbd7039a8b399aa3e1cb66b3174", func := "loop.example/g00979/laws.FnField", spec := "fnField", apart := false, narrowed := true }
def FnFieldUptoSaid : Prop := fnFieldUptoRow.holds Try.pinned (OpenSpec.upto fnFieldSpec)

/-- 'laws.FnInverse', WHERE WHAT IT READS IS OF BULK AT MOST 1048576: true; the input reads as it did. -/
def fnInverseUptoRow : OpenClaim := { program := "ytdmaklgpgdcnpaa", sum := "8d9eb0bc636d254ff6ac36bbfd1da17898adbcbd7039a8b399aa3e1cb66b3174", func := "loop.example/g00979/laws.FnInverse", spec := "fnInverse", apart := false, narrowed := true }
def FnInverseUptoSaid : Prop := fnInverseUptoRow.holds Try.pinned (OpenSpec.upto fnInverseSpec)

/-- 'laws.FnForked', WHERE WHAT IT READS IS OF BULK AT MOST 1048576: true; the input reads as it did. -/
def fnForkedUptoRow : OpenClaim := { program := "ytdmaklgpgdcnpaa", sum := "8d9eb0bc636d254ff6ac36bbfd1da17898adbcbd7039a8b399aa3e1cb66b3174", func := "loop.example/g00979/laws.FnForked", spec := "fnForked", apart := false, narrowed := true }
def FnForkedUptoSaid : Prop := fnForkedUptoRow.holds Try.pinned (OpenSpec.upto fnForkedSpec)

end Rows
end Go.Proofs.Ytdmaklgpgdcnpaa
