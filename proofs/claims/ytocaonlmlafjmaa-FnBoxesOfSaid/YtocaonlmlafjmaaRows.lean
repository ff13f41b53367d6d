/-
  No cell of these rows narrows 'for every input' (looked for: loops, veiled, ifaces, maps, wideKeys, modest, calm, conditions, laid).
  DERIVED. THE GIVEN ROWS OF THIS SEAT. 19 by the template 'for every input the law returns true; each argument reads behind the call as it read before'; 0 by the template 'total and deterministic' (their statements: YtocaonlmlafjmaaTotals.lean).
  GIVEN WITH THE SEED: the statements are not yours to turn. If you find one false, say at which input.
  Laid BY PROGRAM, IN A SANDBOX (cutbox-rows.mjs): the forced cells as the released guide's own fill.sh prints them over the translation 49f9f1a4db69aad7… (all of the seat's roots in one cut). By AI agents, Wed Nov 11 2026. No macro, syntax, notation, axiom, sorry.
-/
import Derived.Test.YtocaonlmlafjmaaChecked
import GoSem.Claim
import GoSem.ClaimJoined
import GoSem.ClaimMapViews
import Derived.JoinedTies
import Derived.KernelRfl
namespace Go.Proofs.Ytocaonlmlafjmaa
/- THE CELL 'sum', in the pinned program and in every row, IS THE sha256 OF THE DUMP (.gsa) THAT YtocaonlmlafjmaaProg.lean LOADS. Nothing in Lean hashes anything: it is a label: what it is worth is what the hold of that sum in a sandbox is worth. -/
noncomputable def Try.pinned : Pinned := { name := "ytocaonlmlafjmaa", sum := "49f9f1a4db69aad72787fa7629060348f15e005f19a9fa1f31ab55beb2f2700a", checked := Try.checked }
namespace Rows
def none {H : Type} : Left H := { results := [], args := [] }

/-- 'laws.FnExactItemValid': WHATEVER THE INPUT: true; the input reads as it did. -/
def fnExactItemValidSpec : ChangeSpec := { name := "fnExactItemValid", fn := fun _ => fun
  | [d] => { results := [.lit (.bool true)], args := [d] }
  | _ => none }
def fnExactItemValidRow : OpenClaim := { program := "ytocaonlmlafjmaa", sum := "49f9f1a4db69aad72787fa7629060348f15e005f19a9fa1f31ab55beb2f2700a", func := "loop.example/pagebuilder/laws.FnExactItemValid", spec := "fnExactItemValid", apart := false }
def FnExactItemValidSaid : Prop := fnExactItemValidRow.holds Try.pinned (OpenSpec.ofChange fnExactItemValidSpec)

/-- ITS FALSE NEIGHBOUR: 'it returns false'. Refute it at one input. -/
def fnExactItemValidWrong : ChangeSpec := { name := "fnExactItemValid", fn := fun _ => fun
  | [d] => { results := [.lit (.bool false)], args := [d] }
  | _ => none }
def FnExactItemValidWrongFalsely : Prop := fnExactItemValidRow.holds Try.pinned (OpenSpec.ofChange fnExactItemValidWrong)

/-- 'laws.FnItemValid': WHATEVER THE INPUT: true; the input reads as it did. -/
def fnItemValidSpec : ChangeSpec := { name := "fnItemValid", fn := fun _ => fun
  | [d] => { results := [.lit (.bool true)], args := [d] }
  | _ => none }
def fnItemValidRow : OpenClaim := { program := "ytocaonlmlafjmaa", sum := "49f9f1a4db69aad72787fa7629060348f15e005f19a9fa1f31ab55beb2f2700a", func := "loop.example/pagebuilder/laws.FnItemValid", spec := "fnItemValid", apart := false }
def FnItemValidSaid : Prop := fnItemValidRow.holds Try.pinned (OpenSpec.ofChange fnItemValidSpec)

/-- ITS FALSE NEIGHBOUR: 'it returns false'. Refute it at one input. -/
def fnItemValidWrong : ChangeSpec := { name := "fnItemValid", fn := fun _ => fun
  | [d] => { results := [.lit (.bool false)], args := [d] }
  | _ => none }
def FnItemValidWrongFalsely : Prop := fnItemValidRow.holds Try.pinned (OpenSpec.ofChange fnItemValidWrong)

/-- 'laws.FnExactItemsValid': WHATEVER THE INPUT: true; the input reads as it did. -/
def fnExactItemsValidSpec : ChangeSpec := { name := "fnExactItemsValid", fn := fun _ => fun
  | [d] => { results := [.lit (.bool true)], args := [d] }
  | _ => none }
def fnExactItemsValidRow : OpenClaim := { program := "ytocaonlmlafjmaa", sum := "49f9f1a4db69aad72787fa7629060348f15e005f19a9fa1f31ab55beb2f2700a", func := "loop.example/pagebuilder/laws.FnExactItemsValid", spec := "fnExactItemsValid", apart := false }
def FnExactItemsValidSaid : Prop := fnExactItemsValidRow.holds Try.pinned (OpenSpec.ofChange fnExactItemsValidSpec)

/-- ITS FALSE NEIGHBOUR: 'it returns false'. Refute it at one input. -/
def fnExactItemsValidWrong : ChangeSpec := { name := "fnExactItemsValid", fn := fun _ => fun
  | [d] => { results := [.lit (.bool false)], args := [d] }
  | _ => none }
def FnExactItemsValidWrongFalsely : Prop := fnExactItemsValidRow.holds Try.pinned (OpenSpec.ofChange fnExactItemsValidWrong)

/-- 'laws.FnItemsValid': WHATEVER THE INPUT: true; the input reads as it did. -/
def fnItemsValidSpec : ChangeSpec := { name := "fnItemsValid", fn := fun _ => fun
  | [d] => { results := [.lit (.bool true)], args := [d] }
  | _ => none }
def fnItemsValidRow : OpenClaim := { program := "ytocaonlmlafjmaa", sum := "49f9f1a4db69aad72787fa7629060348f15e005f19a9fa1f31ab55beb2f2700a", func := "loop.example/pagebuilder/laws.FnItemsValid", spec := "fnItemsValid", apart := false }
def FnItemsValidSaid : Prop := fnItemsValidRow.holds Try.pinned (OpenSpec.ofChange fnItemsValidSpec)

/-- ITS FALSE NEIGHBOUR: 'it returns false'. Refute it at one input. -/
def fnItemsValidWrong : ChangeSpec := { name := "fnItemsValid", fn := fun _ => fun
  | [d] => { results := [.lit (.bool false)], args := [d] }
  | _ => none }
def FnItemsValidWrongFalsely : Prop := fnItemsValidRow.holds Try.pinned (OpenSpec.ofChange fnItemsValidWrong)

/-- 'laws.FnExactMayBreak': WHATEVER THE INPUT: true; the input reads as it did. -/
def fnExactMayBreakSpec : ChangeSpec := { name := "fnExactMayBreak", fn := fun _ => fun
  | [d1, d2] => { results := [.lit (.bool true)], args := [d1, d2] }
  | _ => none }
def fnExactMayBreakRow : OpenClaim := { program := "ytocaonlmlafjmaa", sum := "49f9f1a4db69aad72787fa7629060348f15e005f19a9fa1f31ab55beb2f2700a", func := "loop.example/pagebuilder/laws.FnExactMayBreak", spec := "fnExactMayBreak", apart := false }
def FnExactMayBreakSaid : Prop := fnExactMayBreakRow.holds Try.pinned (OpenSpec.ofChange fnExactMayBreakSpec)

/-- ITS FALSE NEIGHBOUR: 'it returns false'. Refute it at one input. -/
def fnExactMayBreakWrong : ChangeSpec := { name := "fnExactMayBreak", fn := fun _ => fun
  | [d1, d2] => { results := [.lit (.bool false)], args := [d1, d2] }
  | _ => none }
def FnExactMayBreakWrongFalsely : Prop := fnExactMayBreakRow.holds Try.pinned (OpenSpec.ofChange fnExactMayBreakWrong)

/-- 'laws.FnMayBreak': WHATEVER THE INPUT: true; the input reads as it did. -/
def fnMayBreakSpec : ChangeSpec := { name := "fnMayBreak", fn := fun _ => fun
  | [d] => { results := [.lit (.bool true)], args := [d] }
  | _ => none }
def fnMayBreakRow : OpenClaim := { program := "ytocaonlmlafjmaa", sum := "49f9f1a4db69aad72787fa7629060348f15e005f19a9fa1f31ab55beb2f2700a", func := "loop.example/pagebuilder/laws.FnMayBreak", spec := "fnMayBreak", apart := false }
def FnMayBreakSaid : Prop := fnMayBreakRow.holds Try.pinned (OpenSpec.ofChange fnMayBreakSpec)

/-- ITS FALSE NEIGHBOUR: 'it returns false'. Refute it at one input. -/
def fnMayBreakWrong : ChangeSpec := { name := "fnMayBreak", fn := fun _ => fun
  | [d] => { results := [.lit (.bool false)], args := [d] }
  | _ => none }
def FnMayBreakWrongFalsely : Prop := fnMayBreakRow.holds Try.pinned (OpenSpec.ofChange fnMayBreakWrong)

/-- 'laws.FnExactLineStart': WHATEVER THE INPUT: true; the input reads as it did. -/
def fnExactLineStartSpec : ChangeSpec := { name := "fnExactLineStart", fn := fun _ => fun
  | [d1, d2] => { results := [.lit (.bool true)], args := [d1, d2] }
  | _ => none }
def fnExactLineStartRow : OpenClaim := { program := "ytocaonlmlafjmaa", sum := "49f9f1a4db69aad72787fa7629060348f15e005f19a9fa1f31ab55beb2f2700a", func := "loop.example/pagebuilder/laws.FnExactLineStart", spec := "fnExactLineStart", apart := false }
def FnExactLineStartSaid : Prop := fnExactLineStartRow.holds Try.pinned (OpenSpec.ofChange fnExactLineStartSpec)

/-- ITS FALSE NEIGHBOUR: 'it returns false'. Refute it at one input. -/
def fnExactLineStartWrong : ChangeSpec := { name := "fnExactLineStart", fn := fun _ => fun
  | [d1, d2] => { results := [.lit (.bool false)], args := [d1, d2] }
  | _ => none }
def FnExactLineStartWrongFalsely : Prop := fnExactLineStartRow.holds Try.pinned (OpenSpec.ofChange fnExactLineStartWrong)

/-- 'laws.FnLineStart': WHATEVER THE INPUT: true; the input reads as it did. -/
def fnLineStartSpec : ChangeSpec := { name := "fnLineStart", fn := fun _ => fun
  | [d] => { results := [.lit (.bool true)], args := [d] }
  | _ => none }
def fnLineStartRow : OpenClaim := { program := "ytocaonlmlafjmaa", sum := "49f9f1a4db69aad72787fa7629060348f15e005f19a9fa1f31ab55beb2f2700a", func := "loop.example/pagebuilder/laws.FnLineStart", spec := "fnLineStart", apart := false }
def FnLineStartSaid : Prop := fnLineStartRow.holds Try.pinned (OpenSpec.ofChange fnLineStartSpec)

/-- ITS FALSE NEIGHBOUR: 'it returns false'. Refute it at one input. -/
def fnLineStartWrong : ChangeSpec := { name := "fnLineStart", fn := fun _ => fun
  | [d] => { results := [.lit (.bool false)], args := [d] }
  | _ => none }
def FnLineStartWrongFalsely : Prop := fnLineStartRow.holds Try.pinned (OpenSpec.ofChange fnLineStartWrong)

/-- 'laws.FnExactWordsValid': WHATEVER THE INPUT: true; the input reads as it did. -/
def fnExactWordsValidSpec : ChangeSpec := { name := "fnExactWordsValid", fn := fun _ => fun
  | [d] => { results := [.lit (.bool true)], args := [d] }
  | _ => none }
def fnExactWordsValidRow : OpenClaim := { program := "ytocaonlmlafjmaa", sum := "49f9f1a4db69aad72787fa7629060348f15e005f19a9fa1f31ab55beb2f2700a", func := "loop.example/pagebuilder/laws.FnExactWordsValid", spec := "fnExactWordsValid", apart := false }
def FnExactWordsValidSaid : Prop := fnExactWordsValidRow.holds Try.pinned (OpenSpec.ofChange fnExactWordsValidSpec)

/-- ITS FALSE NEIGHBOUR: 'it returns false'. Refute it at one input. -/
def fnExactWordsValidWrong : ChangeSpec := { name := "fnExactWordsValid", fn := fun _ => fun
  | [d] => { results := [.lit (.bool false)], args := [d] }
  | _ => none }
def FnExactWordsValidWrongFalsely : Prop := fnExactWordsValidRow.holds Try.pinned (OpenSpec.ofChange fnExactWordsValidWrong)

/-- 'laws.FnWordsValid': WHATEVER THE INPUT: true; the input reads as it did. -/
def fnWordsValidSpec : ChangeSpec := { name := "fnWordsValid", fn := fun _ => fun
  | [d] => { results := [.lit (.bool true)], args := [d] }
  | _ => none }
def fnWordsValidRow : OpenClaim := { program := "ytocaonlmlafjmaa", sum := "49f9f1a4db69aad72787fa7629060348f15e005f19a9fa1f31ab55beb2f2700a", func := "loop.example/pagebuilder/laws.FnWordsValid", spec := "fnWordsValid", apart := false }
def FnWordsValidSaid : Prop := fnWordsValidRow.holds Try.pinned (OpenSpec.ofChange fnWordsValidSpec)

/-- ITS FALSE NEIGHBOUR: 'it returns false'. Refute it at one input. -/
def fnWordsValidWrong : ChangeSpec := { name := "fnWordsValid", fn := fun _ => fun
  | [d] => { results := [.lit (.bool false)], args := [d] }
  | _ => none }
def FnWordsValidWrongFalsely : Prop := fnWordsValidRow.holds Try.pinned (OpenSpec.ofChange fnWordsValidWrong)

/-- 'laws.FnExactParagraphItems': WHATEVER THE INPUT: true; the input reads as it did. -/
def fnExactParagraphItemsSpec : ChangeSpec := { name := "fnExactParagraphItems", fn := fun _ => fun
  | [d1, d2] => { results := [.lit (.bool true)], args := [d1, d2] }
  | _ => none }
def fnExactParagraphItemsRow : OpenClaim := { program := "ytocaonlmlafjmaa", sum := "49f9f1a4db69aad72787fa7629060348f15e005f19a9fa1f31ab55beb2f2700a", func := "loop.example/pagebuilder/laws.FnExactParagraphItems", spec := "fnExactParagraphItems", inPlace := ["internal/bytealg.IndexByteString"], apart := false }
def FnExactParagraphItemsSaid : Prop := fnExactParagraphItemsRow.holds Try.pinned (OpenSpec.ofChange fnExactParagraphItemsSpec)

/-- ITS FALSE NEIGHBOUR: 'it returns false'. Refute it at one input. -/
def fnExactParagraphItemsWrong : ChangeSpec := { name := "fnExactParagraphItems", fn := fun _ => fun
  | [d1, d2] => { results := [.lit (.bool false)], args := [d1, d2] }
  | _ => none }
def FnExactParagraphItemsWrongFalsely : Prop := fnExactParagraphItemsRow.holds Try.pinned (OpenSpec.ofChange fnExactParagraphItemsWrong)

/-- 'laws.FnParagraphItems': WHATEVER THE INPUT: true; the input reads as it did. -/
def fnParagraphItemsSpec : ChangeSpec := { name := "fnParagraphItems", fn := fun _ => fun
  | [d] => { results := [.lit (.bool true)], args := [d] }
  | _ => none }
def fnParagraphItemsRow : OpenClaim := { program := "ytocaonlmlafjmaa", sum := "49f9f1a4db69aad72787fa7629060348f15e005f19a9fa1f31ab55beb2f2700a", func := "loop.example/pagebuilder/laws.FnParagraphItems", spec := "fnParagraphItems", inPlace := ["internal/bytealg.IndexByteString"], apart := false }
def FnParagraphItemsSaid : Prop := fnParagraphItemsRow.holds Try.pinned (OpenSpec.ofChange fnParagraphItemsSpec)

/-- ITS FALSE NEIGHBOUR: 'it returns false'. Refute it at one input. -/
def fnParagraphItemsWrong : ChangeSpec := { name := "fnParagraphItems", fn := fun _ => fun
  | [d] => { results := [.lit (.bool false)], args := [d] }
  | _ => none }
def FnParagraphItemsWrongFalsely : Prop := fnParagraphItemsRow.holds Try.pinned (OpenSpec.ofChange fnParagraphItemsWrong)

/-- 'laws.FnExactBoxesOf': WHATEVER THE INPUT: true; the input reads as it did. -/
def fnExactBoxesOfSpec : ChangeSpec := { name := "fnExactBoxesOf", fn := fun _ => fun
  | [d] => { results := [.lit (.bool true)], args := [d] }
  | _ => none }
def fnExactBoxesOfRow : OpenClaim := { program := "ytocaonlmlafjmaa", sum := "49f9f1a4db69aad72787fa7629060348f15e005f19a9fa1f31ab55beb2f2700a", func := "loop.example/pagebuilder/laws.FnExactBoxesOf", spec := "fnExactBoxesOf", apart := false }
def FnExactBoxesOfSaid : Prop := fnExactBoxesOfRow.holds Try.pinned (OpenSpec.ofChange fnExactBoxesOfSpec)

/-- ITS FALSE NEIGHBOUR: 'it returns false'. Refute it at one input. -/
def fnExactBoxesOfWrong : ChangeSpec := { name := "fnExactBoxesOf", fn := fun _ => fun
  | [d] => { results := [.lit (.bool false)], args := [d] }
  | _ => none }
def FnExactBoxesOfWrongFalsely : Prop := fnExactBoxesOfRow.holds Try.pinned (OpenSpec.ofChange fnExactBoxesOfWrong)

/-- 'laws.FnBoxesOf': WHATEVER THE INPUT: true; the input reads as it did. -/
def fnBoxesOfSpec : ChangeSpec := { name := "fnBoxesOf", fn := fun _ => fun
  | [d] => { results := [.lit (.bool true)], args := [d] }
  | _ => none }
def fnBoxesOfRow : OpenClaim := { program := "ytocaonlmlafjmaa", sum := "49f9f1a4db69aad72787fa7629060348f15e005f19a9fa1f31ab55beb2f2700a", func := "loop.example/pagebuilder/laws.FnBoxesOf", spec := "fnBoxesOf", apart := false }
def FnBoxesOfSaid : Prop := fnBoxesOfRow.holds Try.pinned (OpenSpec.ofChange fnBoxesOfSpec)

/-- ITS FALSE NEIGHBOUR: 'it returns false'. Refute it at one input. -/
def fnBoxesOfWrong : ChangeSpec := { name := "fnBoxesOf", fn := fun _ => fun
  | [d] => { results := [.lit (.bool false)], args := [d] }
  | _ => none }
def FnBoxesOfWrongFalsely : Prop := fnBoxesOfRow.holds Try.pinned (OpenSpec.ofChange fnBoxesOfWrong)

/-- 'laws.FnExactLineGlue': WHATEVER THE INPUT: true; the input reads as it did. -/
def fnExactLineGlueSpec : ChangeSpec := { name := "fnExactLineGlue", fn := fun _ => fun
  | [d1, d2, d3] => { results := [.lit (.bool true)], args := [d1, d2, d3] }
  | _ => none }
def fnExactLineGlueRow : OpenClaim := { program := "ytocaonlmlafjmaa", sum := "49f9f1a4db69aad72787fa7629060348f15e005f19a9fa1f31ab55beb2f2700a", func := "loop.example/pagebuilder/laws.FnExactLineGlue", spec := "fnExactLineGlue", apart := false }
def FnExactLineGlueSaid : Prop := fnExactLineGlueRow.holds Try.pinned (OpenSpec.ofChange fnExactLineGlueSpec)

/-- ITS FALSE NEIGHBOUR: 'it returns false'. Refute it at one input. -/
def fnExactLineGlueWrong : ChangeSpec := { name := "fnExactLineGlue", fn := fun _ => fun
  | [d1, d2, d3] => { results := [.lit (.bool false)], args := [d1, d2, d3] }
  | _ => none }
def FnExactLineGlueWrongFalsely : Prop := fnExactLineGlueRow.holds Try.pinned (OpenSpec.ofChange fnExactLineGlueWrong)

/-- 'laws.FnLineGlue': WHATEVER THE INPUT: true; the input reads as it did. -/
def fnLineGlueSpec : ChangeSpec := { name := "fnLineGlue", fn := fun _ => fun
  | [d] => { results := [.lit (.bool true)], args := [d] }
  | _ => none }
def fnLineGlueRow : OpenClaim := { program := "ytocaonlmlafjmaa", sum := "49f9f1a4db69aad72787fa7629060348f15e005f19a9fa1f31ab55beb2f2700a", func := "loop.example/pagebuilder/laws.FnLineGlue", spec := "fnLineGlue", apart := false }
def FnLineGlueSaid : Prop := fnLineGlueRow.holds Try.pinned (OpenSpec.ofChange fnLineGlueSpec)

/-- ITS FALSE NEIGHBOUR: 'it returns false'. Refute it at one input. -/
def fnLineGlueWrong : ChangeSpec := { name := "fnLineGlue", fn := fun _ => fun
  | [d] => { results := [.lit (.bool false)], args := [d] }
  | _ => none }
def FnLineGlueWrongFalsely : Prop := fnLineGlueRow.holds Try.pinned (OpenSpec.ofChange fnLineGlueWrong)

/-- 'laws.FnExactLineBadness': WHATEVER THE INPUT: true; the input reads as it did. -/
def fnExactLineBadnessSpec : ChangeSpec := { name := "fnExactLineBadness", fn := fun _ => fun
  | [d1, d2, d3, d4] => { results := [.lit (.bool true)], args := [d1, d2, d3, d4] }
  | _ => none }
def fnExactLineBadnessRow : OpenClaim := { program := "ytocaonlmlafjmaa", sum := "49f9f1a4db69aad72787fa7629060348f15e005f19a9fa1f31ab55beb2f2700a", func := "loop.example/pagebuilder/laws.FnExactLineBadness", spec := "fnExactLineBadness", apart := false }
def FnExactLineBadnessSaid : Prop := fnExactLineBadnessRow.holds Try.pinned (OpenSpec.ofChange fnExactLineBadnessSpec)

/-- ITS FALSE NEIGHBOUR: 'it returns false'. Refute it at one input. -/
def fnExactLineBadnessWrong : ChangeSpec := { name := "fnExactLineBadness", fn := fun _ => fun
  | [d1, d2, d3, d4] => { results := [.lit (.bool false)], args := [d1, d2, d3, d4] }
  | _ => none }
def FnExactLineBadnessWrongFalsely : Prop := fnExactLineBadnessRow.holds Try.pinned (OpenSpec.ofChange fnExactLineBadnessWrong)

/-- 'laws.FnExactLineItems': WHATEVER THE INPUT: true; the input reads as it did. -/
def fnExactLineItemsSpec : ChangeSpec := { name := "fnExactLineItems", fn := fun _ => fun
  | [d1, d2, d3] => { results := [.lit (.bool true)], args := [d1, d2, d3] }
  | _ => none }
def fnExactLineItemsRow : OpenClaim := { program := "ytocaonlmlafjmaa", sum := "49f9f1a4db69aad72787fa7629060348f15e005f19a9fa1f31ab55beb2f2700a", func := "loop.example/pagebuilder/laws.FnExactLineItems", spec := "fnExactLineItems", apart := false }
def FnExactLineItemsSaid : Prop := fnExactLineItemsRow.holds Try.pinned (OpenSpec.ofChange fnExactLineItemsSpec)

/-- ITS FALSE NEIGHBOUR: 'it returns false'. Refute it at one input. -/
def fnExactLineItemsWrong : ChangeSpec := { name := "fnExactLineItems", fn := fun _ => fun
  | [d1, d2, d3] => { results := [.lit (.bool false)], args := [d1, d2, d3] }
  | _ => none }
def FnExactLineItemsWrongFalsely : Prop := fnExactLineItemsRow.holds Try.pinned (OpenSpec.ofChange fnExactLineItemsWrong)

/-- 'laws.FnLineItems': WHATEVER THE INPUT: true; the input reads as it did. -/
def fnLineItemsSpec : ChangeSpec := { name := "fnLineItems", fn := fun _ => fun
  | [d] => { results := [.lit (.bool true)], args := [d] }
  | _ => none }
def fnLineItemsRow : OpenClaim := { program := "ytocaonlmlafjmaa", sum := "49f9f1a4db69aad72787fa7629060348f15e005f19a9fa1f31ab55beb2f2700a", func := "loop.example/pagebuilder/laws.FnLineItems", spec := "fnLineItems", apart := false }
def FnLineItemsSaid : Prop := fnLineItemsRow.holds Try.pinned (OpenSpec.ofChange fnLineItemsSpec)

/-- ITS FALSE NEIGHBOUR: 'it returns false'. Refute it at one input. -/
def fnLineItemsWrong : ChangeSpec := { name := "fnLineItems", fn := fun _ => fun
  | [d] => { results := [.lit (.bool false)], args := [d] }
  | _ => none }
def FnLineItemsWrongFalsely : Prop := fnLineItemsRow.holds Try.pinned (OpenSpec.ofChange fnLineItemsWrong)

/- THE SECOND FORM. 'bulk': how many values and letters a reading holds, each counted each time it is reached (what is shared counts as often as it is met; a slice's spare places count too). A statement '..UptoSaid' is the law's where the arguments, and the package variables that the reading takes, are together of bulk at most 1048576: NARROWER than '..Said'. Prove '..Said' where nothing that the law and all that it calls make is longer than what came in: it says more and counts as full. Else prove '..UptoSaid'. A law counts once. -/
mutual
def uptoBulk {H : Type} : DataW H → Nat
  | .lit (.string bytes) => bytes.length + 1
  | .lit _ => 1
  | .nil => 1
  | .ptr d => uptoBulk d + 1
  | .slice elems spare => uptoBulkAll elems + uptoBulkAll spare + 1
  | .agg parts => uptoBulkAll parts + 1
  | .iface _ d => uptoBulk d + 1
  | .map entries => uptoBulkEntries entries + 1
  | .held _ => 1
def uptoBulkAll {H : Type} : List (DataW H) → Nat
  | [] => 0
  | d :: r => uptoBulk d + uptoBulkAll r
def uptoBulkEntries {H : Type} : List (Lit × DataW H) → Nat
  | [] => 0
  | x :: r => uptoBulkEntry x + uptoBulkEntries r
def uptoBulkEntry {H : Type} : Lit × DataW H → Nat
  | (.string bytes, d) => bytes.length + uptoBulk d + 1
  | (_, d) => uptoBulk d + 1
 end
def uptoSmall : (H : Type) → List (DataW H) → Bool := fun _ ds => decide (uptoBulkAll ds ≤ 1048576)
def OpenSpec.upto (s : _root_.Go.ChangeSpec) : _root_.Go.OpenSpec := { _root_.Go.OpenSpec.ofChange s with cond := some uptoSmall }

/-- 'laws.FnExactItemValid', WHERE WHAT IT READS IS OF BULK AT MOST 1048576: true; the input reads as it did. -/
def fnExactItemValidUptoRow : OpenClaim := { program := "ytocaonlmlafjmaa", sum := "49f9f1a4db69aad72787fa7629060348f15e005f19a9fa1f31ab55beb2f2700a", func := "loop.example/pagebuilder/laws.FnExactItemValid", spec := "fnExactItemValid", apart := false, narrowed := true }
def FnExactItemValidUptoSaid : Prop := fnExactItemValidUptoRow.holds Try.pinned (OpenSpec.upto fnExactItemValidSpec)

/-- 'laws.FnItemValid', WHERE WHAT IT READS IS OF BULK AT MOST 1048576: true; the input reads as it did. -/
def fnItemValidUptoRow : OpenClaim := { program := "ytocaonlmlafjmaa", sum := "49f9f1a4db69aad72787fa7629060348f15e005f19a9fa1f31ab55beb2f2700a", func := "loop.example/pagebuilder/laws.FnItemValid", spec := "fnItemValid", apart := false, narrowed := true }
def FnItemValidUptoSaid : Prop := fnItemValidUptoRow.holds Try.pinned (OpenSpec.upto fnItemValidSpec)

/-- 'laws.FnExactItemsValid', WHERE WHAT IT READS IS OF BULK AT MOST 1048576: true; the input reads as it did. -/
def fnExactItemsValidUptoRow : OpenClaim := { program := "ytocaonlmlafjmaa", sum := "49f9f1a4db69aad72787fa7629060348f15e005f19a9fa1f31ab55beb2f2700a", func := "loop.example/pagebuilder/laws.FnExactItemsValid", spec := "fnExactItemsValid", apart := false, narrowed := true }
def FnExactItemsValidUptoSaid : Prop := fnExactItemsValidUptoRow.holds Try.pinned (OpenSpec.upto fnExactItemsValidSpec)

/-- 'laws.FnItemsValid', WHERE WHAT IT READS IS OF BULK AT MOST 1048576: true; the input reads as it did. -/
def fnItemsValidUptoRow : OpenClaim := { program := "ytocaonlmlafjmaa", sum := "49f9f1a4db69aad72787fa7629060348f15e005f19a9fa1f31ab55beb2f2700a", func := "loop.example/pagebuilder/laws.FnItemsValid", spec := "fnItemsValid", apart := false, narrowed := true }
def FnItemsValidUptoSaid : Prop := fnItemsValidUptoRow.holds Try.pinned (OpenSpec.upto fnItemsValidSpec)

/-- 'laws.FnExactMayBreak', WHERE WHAT IT READS IS OF BULK AT MOST 1048576: true; the input reads as it did. -/
def fnExactMayBreakUptoRow : OpenClaim := { program := "ytocaonlmlafjmaa", sum := "49f9f1a4db69aad72787fa7629060348f15e005f19a9fa1f31ab55beb2f2700a", func := "loop.example/pagebuilder/laws.FnExactMayBreak", spec := "fnExactMayBreak", apart := false, narrowed := true }
def FnExactMayBreakUptoSaid : Prop := fnExactMayBreakUptoRow.holds Try.pinned (OpenSpec.upto fnExactMayBreakSpec)

/-- 'laws.FnMayBreak', WHERE WHAT IT READS IS OF BULK AT MOST 1048576: true; the input reads as it did. -/
def fnMayBreakUptoRow : OpenClaim := { program := "ytocaonlmlafjmaa", sum := "49f9f1a4db69aad72787fa7629060348f15e005f19a9fa1f31ab55beb2f2700a", func := "loop.example/pagebuilder/laws.FnMayBreak", spec := "fnMayBreak", apart := false, narrowed := true }
def FnMayBreakUptoSaid : Prop := fnMayBreakUptoRow.holds Try.pinned (OpenSpec.upto fnMayBreakSpec)

/-- 'laws.FnExactLineStart', WHERE WHAT IT READS IS OF BULK AT MOST 1048576: true; the input reads as it did. -/
def fnExactLineStartUptoRow : OpenClaim := { program := "ytocaonlmlafjmaa", sum := "49f9f1a4db69aad72787fa7629060348f15e005f19a9fa1f31ab55beb2f2700a", func := "loop.example/pagebuilder/laws.FnExactLineStart", spec := "fnExactLineStart", apart := false, narrowed := true }
def FnExactLineStartUptoSaid : Prop := fnExactLineStartUptoRow.holds Try.pinned (OpenSpec.upto fnExactLineStartSpec)

/-- 'laws.FnLineStart', WHERE WHAT IT READS IS OF BULK AT MOST 1048576: true; the input reads as it did. -/
def fnLineStartUptoRow : OpenClaim := { program := "ytocaonlmlafjmaa", sum := "49f9f1a4db69aad72787fa7629060348f15e005f19a9fa1f31ab55beb2f2700a", func := "loop.example/pagebuilder/laws.FnLineStart", spec := "fnLineStart", apart := false, narrowed := true }
def FnLineStartUptoSaid : Prop := fnLineStartUptoRow.holds Try.pinned (OpenSpec.upto fnLineStartSpec)

/-- 'laws.FnExactWordsValid', WHERE WHAT IT READS IS OF BULK AT MOST 1048576: true; the input reads as it did. -/
def fnExactWordsValidUptoRow : OpenClaim := { program := "ytocaonlmlafjmaa", sum := "49f9f1a4db69aad72787fa7629060348f15e005f19a9fa1f31ab55beb2f2700a", func := "loop.example/pagebuilder/laws.FnExactWordsValid", spec := "fnExactWordsValid", apart := false, narrowed := true }
def FnExactWordsValidUptoSaid : Prop := fnExactWordsValidUptoRow.holds Try.pinned (OpenSpec.upto fnExactWordsValidSpec)

/-- 'laws.FnWordsValid', WHERE WHAT IT READS IS OF BULK AT MOST 1048576: true; the input reads as it did. -/
def fnWordsValidUptoRow : OpenClaim := { program := "ytocaonlmlafjmaa", sum := "49f9f1a4db69aad72787fa7629060348f15e005f19a9fa1f31ab55beb2f2700a", func := "loop.example/pagebuilder/laws.FnWordsValid", spec := "fnWordsValid", apart := false, narrowed := true }
def FnWordsValidUptoSaid : Prop := fnWordsValidUptoRow.holds Try.pinned (OpenSpec.upto fnWordsValidSpec)

/-- 'laws.FnExactParagraphItems', WHERE WHAT IT READS IS OF BULK AT MOST 1048576: true; the input reads as it did. -/
def fnExactParagraphItemsUptoRow : OpenClaim := { program := "ytocaonlmlafjmaa", sum := "49f9f1a4db69aad72787fa7629060348f15e005f19a9fa1f31ab55beb2f2700a", func := "loop.example/pagebuilder/laws.FnExactParagraphItems", spec := "fnExactParagraphItems", inPlace := ["internal/bytealg.IndexByteString"], apart := false, narrowed := true }
def FnExactParagraphItemsUptoSaid : Prop := fnExactParagraphItemsUptoRow.holds Try.pinned (OpenSpec.upto fnExactParagraphItemsSpec)

/-- 'laws.FnParagraphItems', WHERE WHAT IT READS IS OF BULK AT MOST 1048576: true; the input reads as it did. -/
def fnParagraphItemsUptoRow : OpenClaim := { program := "ytocaonlmlafjmaa", sum := "49f9f1a4db69aad72787fa7629060348f15e005f19a9fa1f31ab55beb2f2700a", func := "loop.example/pagebuilder/laws.FnParagraphItems", spec := "fnParagraphItems", inPlace := ["internal/bytealg.IndexByteString"], apart := false, narrowed := true }
def FnParagraphItemsUptoSaid : Prop := fnParagraphItemsUptoRow.holds Try.pinned (OpenSpec.upto fnParagraphItemsSpec)

/-- 'laws.FnExactBoxesOf', WHERE WHAT IT READS IS OF BULK AT MOST 1048576: true; the input reads as it did. -/
def fnExactBoxesOfUptoRow : OpenClaim := { program := "ytocaonlmlafjmaa", sum := "49f9f1a4db69aad72787fa7629060348f15e005f19a9fa1f31ab55beb2f2700a", func := "loop.example/pagebuilder/laws.FnExactBoxesOf", spec := "fnExactBoxesOf", apart := false, narrowed := true }
def FnExactBoxesOfUptoSaid : Prop := fnExactBoxesOfUptoRow.holds Try.pinned (OpenSpec.upto fnExactBoxesOfSpec)

/-- 'laws.FnBoxesOf', WHERE WHAT IT READS IS OF BULK AT MOST 1048576: true; the input reads as it did. -/
def fnBoxesOfUptoRow : OpenClaim := { program := "ytocaonlmlafjmaa", sum := "49f9f1a4db69aad72787fa7629060348f15e005f19a9fa1f31ab55beb2f2700a", func := "loop.example/pagebuilder/laws.FnBoxesOf", spec := "fnBoxesOf", apart := false, narrowed := true }
def FnBoxesOfUptoSaid : Prop := fnBoxesOfUptoRow.holds Try.pinned (OpenSpec.upto fnBoxesOfSpec)

/-- 'laws.FnExactLineGlue', WHERE WHAT IT READS IS OF BULK AT MOST 1048576: true; the input reads as it did. -/
def fnExactLineGlueUptoRow : OpenClaim := { program := "ytocaonlmlafjmaa", sum := "49f9f1a4db69aad72787fa7629060348f15e005f19a9fa1f31ab55beb2f2700a", func := "loop.example/pagebuilder/laws.FnExactLineGlue", spec := "fnExactLineGlue", apart := false, narrowed := true }
def FnExactLineGlueUptoSaid : Prop := fnExactLineGlueUptoRow.holds Try.pinned (OpenSpec.upto fnExactLineGlueSpec)

/-- 'laws.FnLineGlue', WHERE WHAT IT READS IS OF BULK AT MOST 1048576: true; the input reads as it did. -/
def fnLineGlueUptoRow : OpenClaim := { program := "ytocaonlmlafjmaa", sum := "49f9f1a4db69aad72787fa7629060348f15e005f19a9fa1f31ab55beb2f2700a", func := "loop.example/pagebuilder/laws.FnLineGlue", spec := "fnLineGlue", apart := false, narrowed := true }
def FnLineGlueUptoSaid : Prop := fnLineGlueUptoRow.holds Try.pinned (OpenSpec.upto fnLineGlueSpec)

/-- 'laws.FnExactLineBadness', WHERE WHAT IT READS IS OF BULK AT MOST 1048576: true; the input reads as it did. -/
def fnExactLineBadnessUptoRow : OpenClaim := { program := "ytocaonlmlafjmaa", sum := "49f9f1a4db69aad72787fa7629060348f15e005f19a9fa1f31ab55beb2f2700a", func := "loop.example/pagebuilder/laws.FnExactLineBadness", spec := "fnExactLineBadness", apart := false, narrowed := true }
def FnExactLineBadnessUptoSaid : Prop := fnExactLineBadnessUptoRow.holds Try.pinned (OpenSpec.upto fnExactLineBadnessSpec)

/-- 'laws.FnExactLineItems', WHERE WHAT IT READS IS OF BULK AT MOST 1048576: true; the input reads as it did. -/
def fnExactLineItemsUptoRow : OpenClaim := { program := "ytocaonlmlafjmaa", sum := "49f9f1a4db69aad72787fa7629060348f15e005f19a9fa1f31ab55beb2f2700a", func := "loop.example/pagebuilder/laws.FnExactLineItems", spec := "fnExactLineItems", apart := false, narrowed := true }
def FnExactLineItemsUptoSaid : Prop := fnExactLineItemsUptoRow.holds Try.pinned (OpenSpec.upto fnExactLineItemsSpec)

/-- 'laws.FnLineItems', WHERE WHAT IT READS IS OF BULK AT MOST 1048576: true; the input reads as it did. -/
def fnLineItemsUptoRow : OpenClaim := { program := "ytocaonlmlafjmaa", sum := "49f9f1a4db69aad72787fa7629060348f15e005f19a9fa1f31ab55beb2f2700a", func := "loop.example/pagebuilder/laws.FnLineItems", spec := "fnLineItems", apart := false, narrowed := true }
def FnLineItemsUptoSaid : Prop := fnLineItemsUptoRow.holds Try.pinned (OpenSpec.upto fnLineItemsSpec)

end Rows
end Go.Proofs.Ytocaonlmlafjmaa
