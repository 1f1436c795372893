/-
  No cell of these rows narrows 'for every input' (looked for: loops, veiled, ifaces, maps, wideKeys, modest, calm, conditions, laid).
  DERIVED. THE GIVEN ROWS OF THIS SEAT. 12 by the template 'for every input the law returns true; each argument reads behind the call as it read before'; 0 by the template 'total and deterministic' (their statements: YtfbmefmifbgebaaTotals.lean).
  GIVEN WITH THE SEED: the statements are not yours to turn. If you find one false, say at which input.
  Laid BY PROGRAM, IN A SANDBOX (cutbox-rows.mjs): the forced cells as the released guide's own fill.sh prints them over the translation 1d0a8983bdac18e0… (all of the seat's roots in one cut). By AI agents, Wed Nov 11 2026. No macro, syntax, notation, axiom, sorry.
-/
import Derived.Test.YtfbmefmifbgebaaChecked
import GoSem.Claim
import GoSem.ClaimJoined
import GoSem.ClaimMapViews
import Derived.JoinedTies
import Derived.KernelRfl
namespace Go.Proofs.Ytfbmefmifbgebaa
/- THE CELL 'sum', in the pinned program and in every row, IS THE sha256 OF THE DUMP (.gsa) THAT YtfbmefmifbgebaaProg.lean LOADS. Nothing in Lean hashes anything: it is a label: what it is worth is what the hold of that sum in a sandbox is worth. -/
noncomputable def Try.pinned : Pinned := { name := "ytfbmefmifbgebaa", sum := "1d0a8983bdac18e08eaa22b8f575299104537045dab9bbf8ae8bfcc0234ca679", checked := Try.checked }
namespace Rows
def none {H : Type} : Left H := { results := [], args := [] }

/-- 'laws.FnExactConstants': WHATEVER THE INPUT: true; the input reads as it did. -/
def fnExactConstantsSpec : ChangeSpec := { name := "fnExactConstants", fn := fun _ => fun
  | [] => { results := [.lit (.bool true)], args := [] }
  | _ => none }
def fnExactConstantsRow : OpenClaim := { program := "ytfbmefmifbgebaa", sum := "1d0a8983bdac18e08eaa22b8f575299104537045dab9bbf8ae8bfcc0234ca679", func := "loop.example/g00979/laws.FnExactConstants", spec := "fnExactConstants", apart := false }
def FnExactConstantsSaid : Prop := fnExactConstantsRow.holds Try.pinned (OpenSpec.ofChange fnExactConstantsSpec)

/-- ITS FALSE NEIGHBOUR: 'it returns false'. Refute it at one input. -/
def fnExactConstantsWrong : ChangeSpec := { name := "fnExactConstants", fn := fun _ => fun
  | [] => { results := [.lit (.bool false)], args := [] }
  | _ => none }
def FnExactConstantsWrongFalsely : Prop := fnExactConstantsRow.holds Try.pinned (OpenSpec.ofChange fnExactConstantsWrong)

/-- 'laws.FnExactIsWord': WHATEVER THE INPUT: true; the input reads as it did. -/
def fnExactIsWordSpec : ChangeSpec := { name := "fnExactIsWord", fn := fun _ => fun
  | [d] => { results := [.lit (.bool true)], args := [d] }
  | _ => none }
def fnExactIsWordRow : OpenClaim := { program := "ytfbmefmifbgebaa", sum := "1d0a8983bdac18e08eaa22b8f575299104537045dab9bbf8ae8bfcc0234ca679", func := "loop.example/g00979/laws.FnExactIsWord", spec := "fnExactIsWord", apart := false }
def FnExactIsWordSaid : Prop := fnExactIsWordRow.holds Try.pinned (OpenSpec.ofChange fnExactIsWordSpec)

/-- ITS FALSE NEIGHBOUR: 'it returns false'. Refute it at one input. -/
def fnExactIsWordWrong : ChangeSpec := { name := "fnExactIsWord", fn := fun _ => fun
  | [d] => { results := [.lit (.bool false)], args := [d] }
  | _ => none }
def FnExactIsWordWrongFalsely : Prop := fnExactIsWordRow.holds Try.pinned (OpenSpec.ofChange fnExactIsWordWrong)

/-- 'laws.FnExactLowBit': WHATEVER THE INPUT: true; the input reads as it did. -/
def fnExactLowBitSpec : ChangeSpec := { name := "fnExactLowBit", fn := fun _ => fun
  | [d] => { results := [.lit (.bool true)], args := [d] }
  | _ => none }
def fnExactLowBitRow : OpenClaim := { program := "ytfbmefmifbgebaa", sum := "1d0a8983bdac18e08eaa22b8f575299104537045dab9bbf8ae8bfcc0234ca679", func := "loop.example/g00979/laws.FnExactLowBit", spec := "fnExactLowBit", apart := false }
def FnExactLowBitSaid : Prop := fnExactLowBitRow.holds Try.pinned (OpenSpec.ofChange fnExactLowBitSpec)

/-- ITS FALSE NEIGHBOUR: 'it returns false'. Refute it at one input. -/
def fnExactLowBitWrong : ChangeSpec := { name := "fnExactLowBit", fn := fun _ => fun
  | [d] => { results := [.lit (.bool false)], args := [d] }
  | _ => none }
def FnExactLowBitWrongFalsely : Prop := fnExactLowBitRow.holds Try.pinned (OpenSpec.ofChange fnExactLowBitWrong)

/-- 'laws.FnExactXorWords': WHATEVER THE INPUT: true; the input reads as it did. -/
def fnExactXorWordsSpec : ChangeSpec := { name := "fnExactXorWords", fn := fun _ => fun
  | [d1, d2] => { results := [.lit (.bool true)], args := [d1, d2] }
  | _ => none }
def fnExactXorWordsRow : OpenClaim := { program := "ytfbmefmifbgebaa", sum := "1d0a8983bdac18e08eaa22b8f575299104537045dab9bbf8ae8bfcc0234ca679", func := "loop.example/g00979/laws.FnExactXorWords", spec := "fnExactXorWords", apart := false }
def FnExactXorWordsSaid : Prop := fnExactXorWordsRow.holds Try.pinned (OpenSpec.ofChange fnExactXorWordsSpec)

/-- ITS FALSE NEIGHBOUR: 'it returns false'. Refute it at one input. -/
def fnExactXorWordsWrong : ChangeSpec := { name := "fnExactXorWords", fn := fun _ => fun
  | [d1, d2] => { results := [.lit (.bool false)], args := [d1, d2] }
  | _ => none }
def FnExactXorWordsWrongFalsely : Prop := fnExactXorWordsRow.holds Try.pinned (OpenSpec.ofChange fnExactXorWordsWrong)

/-- 'laws.FnExactClamp': WHATEVER THE INPUT: true; the input reads as it did. -/
def fnExactClampSpec : ChangeSpec := { name := "fnExactClamp", fn := fun _ => fun
  | [d1, d2, d3] => { results := [.lit (.bool true)], args := [d1, d2, d3] }
  | _ => none }
def fnExactClampRow : OpenClaim := { program := "ytfbmefmifbgebaa", sum := "1d0a8983bdac18e08eaa22b8f575299104537045dab9bbf8ae8bfcc0234ca679", func := "loop.example/g00979/laws.FnExactClamp", spec := "fnExactClamp", apart := false }
def FnExactClampSaid : Prop := fnExactClampRow.holds Try.pinned (OpenSpec.ofChange fnExactClampSpec)

/-- ITS FALSE NEIGHBOUR: 'it returns false'. Refute it at one input. -/
def fnExactClampWrong : ChangeSpec := { name := "fnExactClamp", fn := fun _ => fun
  | [d1, d2, d3] => { results := [.lit (.bool false)], args := [d1, d2, d3] }
  | _ => none }
def FnExactClampWrongFalsely : Prop := fnExactClampRow.holds Try.pinned (OpenSpec.ofChange fnExactClampWrong)

/-- 'laws.FnExactFieldOk': WHATEVER THE INPUT: true; the input reads as it did. -/
def fnExactFieldOkSpec : ChangeSpec := { name := "fnExactFieldOk", fn := fun _ => fun
  | [d] => { results := [.lit (.bool true)], args := [d] }
  | _ => none }
def fnExactFieldOkRow : OpenClaim := { program := "ytfbmefmifbgebaa", sum := "1d0a8983bdac18e08eaa22b8f575299104537045dab9bbf8ae8bfcc0234ca679", func := "loop.example/g00979/laws.FnExactFieldOk", spec := "fnExactFieldOk", apart := false }
def FnExactFieldOkSaid : Prop := fnExactFieldOkRow.holds Try.pinned (OpenSpec.ofChange fnExactFieldOkSpec)

/-- ITS FALSE NEIGHBOUR: 'it returns false'. Refute it at one input. -/
def fnExactFieldOkWrong : ChangeSpec := { name := "fnExactFieldOk", fn := fun _ => fun
  | [d] => { results := [.lit (.bool false)], args := [d] }
  | _ => none }
def FnExactFieldOkWrongFalsely : Prop := fnExactFieldOkRow.holds Try.pinned (OpenSpec.ofChange fnExactFieldOkWrong)

/-- 'laws.FnExactMix': WHATEVER THE INPUT: true; the input reads as it did. -/
def fnExactMixSpec : ChangeSpec := { name := "fnExactMix", fn := fun _ => fun
  | [d] => { results := [.lit (.bool true)], args := [d] }
  | _ => none }
def fnExactMixRow : OpenClaim := { program := "ytfbmefmifbgebaa", sum := "1d0a8983bdac18e08eaa22b8f575299104537045dab9bbf8ae8bfcc0234ca679", func := "loop.example/g00979/laws.FnExactMix", spec := "fnExactMix", apart := false }
def FnExactMixSaid : Prop := fnExactMixRow.holds Try.pinned (OpenSpec.ofChange fnExactMixSpec)

/-- ITS FALSE NEIGHBOUR: 'it returns false'. Refute it at one input. -/
def fnExactMixWrong : ChangeSpec := { name := "fnExactMix", fn := fun _ => fun
  | [d] => { results := [.lit (.bool false)], args := [d] }
  | _ => none }
def FnExactMixWrongFalsely : Prop := fnExactMixRow.holds Try.pinned (OpenSpec.ofChange fnExactMixWrong)

/-- 'laws.FnExactIsElement': WHATEVER THE INPUT: true; the input reads as it did. -/
def fnExactIsElementSpec : ChangeSpec := { name := "fnExactIsElement", fn := fun _ => fun
  | [d1, d2] => { results := [.lit (.bool true)], args := [d1, d2] }
  | _ => none }
def fnExactIsElementRow : OpenClaim := { program := "ytfbmefmifbgebaa", sum := "1d0a8983bdac18e08eaa22b8f575299104537045dab9bbf8ae8bfcc0234ca679", func := "loop.example/g00979/laws.FnExactIsElement", spec := "fnExactIsElement", apart := false }
def FnExactIsElementSaid : Prop := fnExactIsElementRow.holds Try.pinned (OpenSpec.ofChange fnExactIsElementSpec)

/-- ITS FALSE NEIGHBOUR: 'it returns false'. Refute it at one input. -/
def fnExactIsElementWrong : ChangeSpec := { name := "fnExactIsElement", fn := fun _ => fun
  | [d1, d2] => { results := [.lit (.bool false)], args := [d1, d2] }
  | _ => none }
def FnExactIsElementWrongFalsely : Prop := fnExactIsElementRow.holds Try.pinned (OpenSpec.ofChange fnExactIsElementWrong)

/-- 'laws.FnExactKeyed': WHATEVER THE INPUT: true; the input reads as it did. -/
def fnExactKeyedSpec : ChangeSpec := { name := "fnExactKeyed", fn := fun _ => fun
  | [d1, d2, d3] => { results := [.lit (.bool true)], args := [d1, d2, d3] }
  | _ => none }
def fnExactKeyedRow : OpenClaim := { program := "ytfbmefmifbgebaa", sum := "1d0a8983bdac18e08eaa22b8f575299104537045dab9bbf8ae8bfcc0234ca679", func := "loop.example/g00979/laws.FnExactKeyed", spec := "fnExactKeyed", apart := false }
def FnExactKeyedSaid : Prop := fnExactKeyedRow.holds Try.pinned (OpenSpec.ofChange fnExactKeyedSpec)

/-- ITS FALSE NEIGHBOUR: 'it returns false'. Refute it at one input. -/
def fnExactKeyedWrong : ChangeSpec := { name := "fnExactKeyed", fn := fun _ => fun
  | [d1, d2, d3] => { results := [.lit (.bool false)], args := [d1, d2, d3] }
  | _ => none }
def FnExactKeyedWrongFalsely : Prop := fnExactKeyedRow.holds Try.pinned (OpenSpec.ofChange fnExactKeyedWrong)

/-- 'laws.FnExactFInv': WHATEVER THE INPUT: true; the input reads as it did. -/
def fnExactFInvSpec : ChangeSpec := { name := "fnExactFInv", fn := fun _ => fun
  | [d1, d2] => { results := [.lit (.bool true)], args := [d1, d2] }
  | _ => none }
def fnExactFInvRow : OpenClaim := { program := "ytfbmefmifbgebaa", sum := "1d0a8983bdac18e08eaa22b8f575299104537045dab9bbf8ae8bfcc0234ca679", func := "loop.example/g00979/laws.FnExactFInv", spec := "fnExactFInv", apart := false }
def FnExactFInvSaid : Prop := fnExactFInvRow.holds Try.pinned (OpenSpec.ofChange fnExactFInvSpec)

/-- ITS FALSE NEIGHBOUR: 'it returns false'. Refute it at one input. -/
def fnExactFInvWrong : ChangeSpec := { name := "fnExactFInv", fn := fun _ => fun
  | [d1, d2] => { results := [.lit (.bool false)], args := [d1, d2] }
  | _ => none }
def FnExactFInvWrongFalsely : Prop := fnExactFInvRow.holds Try.pinned (OpenSpec.ofChange fnExactFInvWrong)

/-- 'laws.FnExactFAdd': WHATEVER THE INPUT: true; the input reads as it did. -/
def fnExactFAddSpec : ChangeSpec := { name := "fnExactFAdd", fn := fun _ => fun
  | [d1, d2, d3] => { results := [.lit (.bool true)], args := [d1, d2, d3] }
  | _ => none }
def fnExactFAddRow : OpenClaim := { program := "ytfbmefmifbgebaa", sum := "1d0a8983bdac18e08eaa22b8f575299104537045dab9bbf8ae8bfcc0234ca679", func := "loop.example/g00979/laws.FnExactFAdd", spec := "fnExactFAdd", apart := false }
def FnExactFAddSaid : Prop := fnExactFAddRow.holds Try.pinned (OpenSpec.ofChange fnExactFAddSpec)

/-- ITS FALSE NEIGHBOUR: 'it returns false'. Refute it at one input. -/
def fnExactFAddWrong : ChangeSpec := { name := "fnExactFAdd", fn := fun _ => fun
  | [d1, d2, d3] => { results := [.lit (.bool false)], args := [d1, d2, d3] }
  | _ => none }
def FnExactFAddWrongFalsely : Prop := fnExactFAddRow.holds Try.pinned (OpenSpec.ofChange fnExactFAddWrong)

/-- 'laws.FnExactFMul': WHATEVER THE INPUT: true; the input reads as it did. -/
def fnExactFMulSpec : ChangeSpec := { name := "fnExactFMul", fn := fun _ => fun
  | [d1, d2, d3] => { results := [.lit (.bool true)], args := [d1, d2, d3] }
  | _ => none }
def fnExactFMulRow : OpenClaim := { program := "ytfbmefmifbgebaa", sum := "1d0a8983bdac18e08eaa22b8f575299104537045dab9bbf8ae8bfcc0234ca679", func := "loop.example/g00979/laws.FnExactFMul", spec := "fnExactFMul", apart := false }
def FnExactFMulSaid : Prop := fnExactFMulRow.holds Try.pinned (OpenSpec.ofChange fnExactFMulSpec)

/-- ITS FALSE NEIGHBOUR: 'it returns false'. Refute it at one input. -/
def fnExactFMulWrong : ChangeSpec := { name := "fnExactFMul", fn := fun _ => fun
  | [d1, d2, d3] => { results := [.lit (.bool false)], args := [d1, d2, d3] }
  | _ => none }
def FnExactFMulWrongFalsely : Prop := fnExactFMulRow.holds Try.pinned (OpenSpec.ofChange fnExactFMulWrong)

/- THE SECOND FORM. 'bulk': how many values and letters a reading holds, each counted each time it is reached (what is shared counts as often as it is met; a slice's spare places count too). A statement '..UptoSaid' is the law's where the arguments, and the package variables that the reading takes, are together of bulk at most 1048576: NARROWER than '..Said'. Prove '..Said' where nothing that the law and all that it calls make is longer than what came in: it says more and counts as full. Else prove '..UptoSaid'. A law counts once. -/
mutual
def uptoBulk {H : Type} : DataW H → Nat
  | .lit (.string bytes) => bytes.length + 1
  | .lit _ => 1
  | .nil => 1
  | .ptr d => uptoBulk d + 1
  | .slice elems spare => uptoBulkAll elems + uptoBulkAll spare + 1
  | .agg parts => uptoBulkAll parts + 1
  | .iface _ d => uptoBulk d + 1
  | .map entries => uptoBulkEntries entries + 1
  | .held _ => 1
def uptoBulkAll {H : Type} : List (DataW H) → Nat
  | [] => 0
  | d :: r => uptoBulk d + uptoBulkAll r
def uptoBulkEntries {H : Type} : List (Lit × DataW H) → Nat
  | [] => 0
  | x :: r => uptoBulkEntry x + uptoBulkEntries r
def uptoBulkEntry {H : Type} : Lit × DataW H → Nat
  | (.string bytes, d) => bytes.length + uptoBulk d + 1
  | (_, d) => uptoBulk d + 1
 end
def uptoSmall : (H : Type) → List (DataW H) → Bool := fun _ ds => decide (uptoBulkAll ds ≤ 1048576)
def OpenSpec.upto (s : _root_.Go.ChangeSpec) : _root_.Go.OpenSpec := { _root_.Go.OpenSpec.ofChange s with cond := some uptoSmall }

/-- 'laws.FnExactConstants', WHERE WHAT IT READS IS OF BULK AT MOST 1048576: true; the input reads as it did. -/
def fnExactConstantsUptoRow : OpenClaim := { program := "ytfbmefmifbgebaa", sum := "1d0a8983bdac18e08eaa22b8f575299104537045dab9bbf8ae8bfcc0234ca679", func := "loop.example/g00979/laws.FnExactConstants", spec := "fnExactConstants", apart := false, narrowed := true }
def FnExactConstantsUptoSaid : Prop := fnExactConstantsUptoRow.holds Try.pinned (OpenSpec.upto fnExactConstantsSpec)

/-- 'laws.FnExactIsWord', WHERE WHAT IT READS IS OF BULK AT MOST 1048576: true; the input reads as it did. -/
def fnExactIsWordUptoRow : OpenClaim := { program := "ytfbmefmifbgebaa", sum := "1d0a8983bdac18e08eaa22b8f575299104537045dab9bbf8ae8bfcc0234ca679", func := "loop.example/g00979/laws.FnExactIsWord", spec := "fnExactIsWord", apart := false, narrowed := true }
def FnExactIsWordUptoSaid : Prop := fnExactIsWordUptoRow.holds Try.pinned (OpenSpec.upto fnExactIsWordSpec)

/-- 'laws.FnExactLowBit', WHERE WHAT IT READS IS OF BULK AT MOST 1048576: true; the input reads as it did. -/
def fnExactLowBitUptoRow : OpenClaim := { program := "ytfbmefmifbgebaa", sum := "1d0a8983bdac18e08eaa22b8f575299104537045dab9bbf8ae8bfcc0234ca679", func := "loop.example/g00979/laws.FnExactLowBit", spec := "fnExactLowBit", apart := false, narrowed := true }
def FnExactLowBitUptoSaid : Prop := fnExactLowBitUptoRow.holds Try.pinned (OpenSpec.upto fnExactLowBitSpec)

/-- 'laws.FnExactXorWords', WHERE WHAT IT READS IS OF BULK AT MOST 1048576: true; the input reads as it did. -/
def fnExactXorWordsUptoRow : OpenClaim := { program := "ytfbmefmifbgebaa", sum := "1d0a8983bdac18e08eaa22b8f575299104537045dab9bbf8ae8bfcc0234ca679", func := "loop.example/g00979/laws.FnExactXorWords", spec := "fnExactXorWords", apart := false, narrowed := true }
def FnExactXorWordsUptoSaid : Prop := fnExactXorWordsUptoRow.holds Try.pinned (OpenSpec.upto fnExactXorWordsSpec)

/-- 'laws.FnExactClamp', WHERE WHAT IT READS IS OF BULK AT MOST 1048576: true; the input reads as it did. -/
def fnExactClampUptoRow : OpenClaim := { program := "ytfbmefmifbgebaa", sum := "1d0a8983bdac18e08eaa22b8f575299104537045dab9bbf8ae8bfcc0234ca679", func := "loop.example/g00979/laws.FnExactClamp", spec := "fnExactClamp", apart := false, narrowed := true }
def FnExactClampUptoSaid : Prop := fnExactClampUptoRow.holds Try.pinned (OpenSpec.upto fnExactClampSpec)

/-- 'laws.FnExactFieldOk', WHERE WHAT IT READS IS OF BULK AT MOST 1048576: true; the input reads as it did. -/
def fnExactFieldOkUptoRow : OpenClaim := { program := "ytfbmefmifbgebaa", sum := "1d0a8983bdac18e08eaa22b8f575299104537045dab9bbf8ae8bfcc0234ca679", func := "loop.example/g00979/laws.FnExactFieldOk", spec := "fnExactFieldOk", apart := false, narrowed := true }
def FnExactFieldOkUptoSaid : Prop := fnExactFieldOkUptoRow.holds Try.pinned (OpenSpec.upto fnExactFieldOkSpec)

/-- 'laws.FnExactMix', WHERE WHAT IT READS IS OF BULK AT MOST 1048576: true; the input reads as it did. -/
def fnExactMixUptoRow : OpenClaim := { program := "ytfbmefmifbgebaa", sum := "1d0a8983bdac18e08eaa22b8f575299104537045dab9bbf8ae8bfcc0234ca679", func := "loop.example/g00979/laws.FnExactMix", spec := "fnExactMix", apart := false, narrowed := true }
def FnExactMixUptoSaid : Prop := fnExactMixUptoRow.holds Try.pinned (OpenSpec.upto fnExactMixSpec)

/-- 'laws.FnExactIsElement', WHERE WHAT IT READS IS OF BULK AT MOST 1048576: true; the input reads as it did. -/
def fnExactIsElementUptoRow : OpenClaim := { program := "ytfbmefmifbgebaa", sum := "1d0a8983bdac18e08eaa22b8f575299104537045dab9bbf8ae8bfcc0234ca679", func := "loop.example/g00979/laws.FnExactIsElement", spec := "fnExactIsElement", apart := false, narrowed := true }
def FnExactIsElementUptoSaid : Prop := fnExactIsElementUptoRow.holds Try.pinned (OpenSpec.upto fnExactIsElementSpec)

/-- 'laws.FnExactKeyed', WHERE WHAT IT READS IS OF BULK AT MOST 1048576: true; the input reads as it did. -/
def fnExactKeyedUptoRow : OpenClaim := { program := "ytfbmefmifbgebaa", sum := "1d0a8983bdac18e08eaa22b8f575299104537045dab9bbf8ae8bfcc0234ca679", func := "loop.example/g00979/laws.FnExactKeyed", spec := "fnExactKeyed", apart := false, narrowed := true }
def FnExactKeyedUptoSaid : Prop := fnExactKeyedUptoRow.holds Try.pinned (OpenSpec.upto fnExactKeyedSpec)

/-- 'laws.FnExactFInv', WHERE WHAT IT READS IS OF BULK AT MOST 1048576: true; the input reads as it did. -/
def fnExactFInvUptoRow : OpenClaim := { program := "ytfbmefmifbgebaa", sum := "1d0a8983bdac18e08eaa22b8f575299104537045dab9bbf8ae8bfcc0234ca679", func := "loop.example/g00979/laws.FnExactFInv", spec := "fnExactFInv", apart := false, narrowed := true }
def FnExactFInvUptoSaid : Prop := fnExactFInvUptoRow.holds Try.pinned (OpenSpec.upto fnExactFInvSpec)

/-- 'laws.FnExactFAdd', WHERE WHAT IT READS IS OF BULK AT MOST 1048576: true; the input reads as it did. -/
def fnExactFAddUptoRow : OpenClaim := { program := "ytfbmefmifbgebaa", sum := "1d0a8983bdac18e08eaa22b8f575299104537045dab9bbf8ae8bfcc0234ca679", func := "loop.example/g00979/laws.FnExactFAdd", spec := "fnExactFAdd", apart := false, narrowed := true }
def FnExactFAddUptoSaid : Prop := fnExactFAddUptoRow.holds Try.pinned (OpenSpec.upto fnExactFAddSpec)

/-- 'laws.FnExactFMul', WHERE WHAT IT READS IS OF BULK AT MOST 1048576: true; the input reads as it did. -/
def fnExactFMulUptoRow : OpenClaim := { program := "ytfbmefmifbgebaa", sum := "1d0a8983bdac18e08eaa22b8f575299104537045dab9bbf8ae8bfcc0234ca679", func := "loop.example/g00979/laws.FnExactFMul", spec := "fnExactFMul", apart := false, narrowed := true }
def FnExactFMulUptoSaid : Prop := fnExactFMulUptoRow.holds Try.pinned (OpenSpec.upto fnExactFMulSpec)

end Rows
end Go.Proofs.Ytfbmefmifbgebaa
