/-
  No cell of these rows narrows 'for every input' (looked for: loops, veiled, ifaces, maps, wideKeys, modest, calm, conditions, laid).
  DERIVED. THE GIVEN ROWS OF THIS SEAT. 16 by the template 'for every input the law returns true; each argument reads behind the call as it read before'; 0 by the template 'total and deterministic' (their statements: YtoiacijjbehioaaTotals.lean).
  GIVEN WITH THE SEED: the statements are not yours to turn. If you find one false, say at which input.
  Laid BY PROGRAM, IN A SANDBOX (cutbox-rows.mjs): the forced cells as the released guide's own fill.sh prints them over the translation 014f7786acb54fb0… (all of the seat's roots in one cut). By AI agents, Wed Nov 11 2026. No macro, syntax, notation, axiom, sorry.
-/
import Derived.Test.YtoiacijjbehioaaChecked
import GoSem.Claim
import GoSem.ClaimJoined
import GoSem.ClaimMapViews
import Derived.JoinedTies
import Derived.KernelRfl
namespace Go.Proofs.Ytoiacijjbehioaa
/- THE CELL 'sum', in the pinned program and in every row, IS THE sha256 OF THE DUMP (.gsa) THAT YtoiacijjbehioaaProg.lean LOADS. Nothing in Lean hashes anything: it is a label: what it is worth is what the hold of that sum in a sandbox is worth. -/
noncomputable def Try.pinned : Pinned := { name := "ytoiacijjbehioaa", sum := "014f7786acb54fb00b0e23cf45064363cde7fbe5caec2b05cd3067845fa13af6", checked := Try.checked }
namespace Rows
def none {H : Type} : Left H := { results := [], args := [] }

/-- 'laws.FnExactConstants': WHATEVER THE INPUT: true; the input reads as it did. -/
def fnExactConstantsSpec : ChangeSpec := { name := "fnExactConstants", fn := fun _ => fun
  | [] => { results := [.lit (.bool true)], args := [] }
  | _ => none }
def fnExactConstantsRow : OpenClaim := { program := "ytoiacijjbehioaa", sum := "014f7786acb54fb00b0e23cf45064363cde7fbe5caec2b05cd3067845fa13af6", func := "loop.example/pagebuilder/laws.FnExactConstants", spec := "fnExactConstants", apart := false }
def FnExactConstantsSaid : Prop := fnExactConstantsRow.holds Try.pinned (OpenSpec.ofChange fnExactConstantsSpec)

/-- ITS FALSE NEIGHBOUR: 'it returns false'. Refute it at one input. -/
def fnExactConstantsWrong : ChangeSpec := { name := "fnExactConstants", fn := fun _ => fun
  | [] => { results := [.lit (.bool false)], args := [] }
  | _ => none }
def FnExactConstantsWrongFalsely : Prop := fnExactConstantsRow.holds Try.pinned (OpenSpec.ofChange fnExactConstantsWrong)

/-- 'laws.FnExactGlueValid': WHATEVER THE INPUT: true; the input reads as it did. -/
def fnExactGlueValidSpec : ChangeSpec := { name := "fnExactGlueValid", fn := fun _ => fun
  | [d] => { results := [.lit (.bool true)], args := [d] }
  | _ => none }
def fnExactGlueValidRow : OpenClaim := { program := "ytoiacijjbehioaa", sum := "014f7786acb54fb00b0e23cf45064363cde7fbe5caec2b05cd3067845fa13af6", func := "loop.example/pagebuilder/laws.FnExactGlueValid", spec := "fnExactGlueValid", apart := false }
def FnExactGlueValidSaid : Prop := fnExactGlueValidRow.holds Try.pinned (OpenSpec.ofChange fnExactGlueValidSpec)

/-- ITS FALSE NEIGHBOUR: 'it returns false'. Refute it at one input. -/
def fnExactGlueValidWrong : ChangeSpec := { name := "fnExactGlueValid", fn := fun _ => fun
  | [d] => { results := [.lit (.bool false)], args := [d] }
  | _ => none }
def FnExactGlueValidWrongFalsely : Prop := fnExactGlueValidRow.holds Try.pinned (OpenSpec.ofChange fnExactGlueValidWrong)

/-- 'laws.FnGlueValid': WHATEVER THE INPUT: true; the input reads as it did. -/
def fnGlueValidSpec : ChangeSpec := { name := "fnGlueValid", fn := fun _ => fun
  | [d] => { results := [.lit (.bool true)], args := [d] }
  | _ => none }
def fnGlueValidRow : OpenClaim := { program := "ytoiacijjbehioaa", sum := "014f7786acb54fb00b0e23cf45064363cde7fbe5caec2b05cd3067845fa13af6", func := "loop.example/pagebuilder/laws.FnGlueValid", spec := "fnGlueValid", apart := false }
def FnGlueValidSaid : Prop := fnGlueValidRow.holds Try.pinned (OpenSpec.ofChange fnGlueValidSpec)

/-- ITS FALSE NEIGHBOUR: 'it returns false'. Refute it at one input. -/
def fnGlueValidWrong : ChangeSpec := { name := "fnGlueValid", fn := fun _ => fun
  | [d] => { results := [.lit (.bool false)], args := [d] }
  | _ => none }
def FnGlueValidWrongFalsely : Prop := fnGlueValidRow.holds Try.pinned (OpenSpec.ofChange fnGlueValidWrong)

/-- 'laws.FnExactGlueTotal': WHATEVER THE INPUT: true; the input reads as it did. -/
def fnExactGlueTotalSpec : ChangeSpec := { name := "fnExactGlueTotal", fn := fun _ => fun
  | [d] => { results := [.lit (.bool true)], args := [d] }
  | _ => none }
def fnExactGlueTotalRow : OpenClaim := { program := "ytoiacijjbehioaa", sum := "014f7786acb54fb00b0e23cf45064363cde7fbe5caec2b05cd3067845fa13af6", func := "loop.example/pagebuilder/laws.FnExactGlueTotal", spec := "fnExactGlueTotal", apart := false }
def FnExactGlueTotalSaid : Prop := fnExactGlueTotalRow.holds Try.pinned (OpenSpec.ofChange fnExactGlueTotalSpec)

/-- ITS FALSE NEIGHBOUR: 'it returns false'. Refute it at one input. -/
def fnExactGlueTotalWrong : ChangeSpec := { name := "fnExactGlueTotal", fn := fun _ => fun
  | [d] => { results := [.lit (.bool false)], args := [d] }
  | _ => none }
def FnExactGlueTotalWrongFalsely : Prop := fnExactGlueTotalRow.holds Try.pinned (OpenSpec.ofChange fnExactGlueTotalWrong)

/-- 'laws.FnGlueTotal': WHATEVER THE INPUT: true; the input reads as it did. -/
def fnGlueTotalSpec : ChangeSpec := { name := "fnGlueTotal", fn := fun _ => fun
  | [d] => { results := [.lit (.bool true)], args := [d] }
  | _ => none }
def fnGlueTotalRow : OpenClaim := { program := "ytoiacijjbehioaa", sum := "014f7786acb54fb00b0e23cf45064363cde7fbe5caec2b05cd3067845fa13af6", func := "loop.example/pagebuilder/laws.FnGlueTotal", spec := "fnGlueTotal", apart := false }
def FnGlueTotalSaid : Prop := fnGlueTotalRow.holds Try.pinned (OpenSpec.ofChange fnGlueTotalSpec)

/-- ITS FALSE NEIGHBOUR: 'it returns false'. Refute it at one input. -/
def fnGlueTotalWrong : ChangeSpec := { name := "fnGlueTotal", fn := fun _ => fun
  | [d] => { results := [.lit (.bool false)], args := [d] }
  | _ => none }
def FnGlueTotalWrongFalsely : Prop := fnGlueTotalRow.holds Try.pinned (OpenSpec.ofChange fnGlueTotalWrong)

/-- 'laws.FnGlueParts': WHATEVER THE INPUT: true; the input reads as it did. -/
def fnGluePartsSpec : ChangeSpec := { name := "fnGlueParts", fn := fun _ => fun
  | [d] => { results := [.lit (.bool true)], args := [d] }
  | _ => none }
def fnGluePartsRow : OpenClaim := { program := "ytoiacijjbehioaa", sum := "014f7786acb54fb00b0e23cf45064363cde7fbe5caec2b05cd3067845fa13af6", func := "loop.example/pagebuilder/laws.FnGlueParts", spec := "fnGlueParts", apart := false }
def FnGluePartsSaid : Prop := fnGluePartsRow.holds Try.pinned (OpenSpec.ofChange fnGluePartsSpec)

/-- ITS FALSE NEIGHBOUR: 'it returns false'. Refute it at one input. -/
def fnGluePartsWrong : ChangeSpec := { name := "fnGlueParts", fn := fun _ => fun
  | [d] => { results := [.lit (.bool false)], args := [d] }
  | _ => none }
def FnGluePartsWrongFalsely : Prop := fnGluePartsRow.holds Try.pinned (OpenSpec.ofChange fnGluePartsWrong)

/-- 'laws.FnExactSetGlues': WHATEVER THE INPUT: true; the input reads as it did. -/
def fnExactSetGluesSpec : ChangeSpec := { name := "fnExactSetGlues", fn := fun _ => fun
  | [d1, d2] => { results := [.lit (.bool true)], args := [d1, d2] }
  | _ => none }
def fnExactSetGluesRow : OpenClaim := { program := "ytoiacijjbehioaa", sum := "014f7786acb54fb00b0e23cf45064363cde7fbe5caec2b05cd3067845fa13af6", func := "loop.example/pagebuilder/laws.FnExactSetGlues", spec := "fnExactSetGlues", unfollowed := true, recurses := true, apart := false }
def FnExactSetGluesSaid : Prop := fnExactSetGluesRow.holds Try.pinned (OpenSpec.ofChange fnExactSetGluesSpec)

/-- ITS FALSE NEIGHBOUR: 'it returns false'. Refute it at one input. -/
def fnExactSetGluesWrong : ChangeSpec := { name := "fnExactSetGlues", fn := fun _ => fun
  | [d1, d2] => { results := [.lit (.bool false)], args := [d1, d2] }
  | _ => none }
def FnExactSetGluesWrongFalsely : Prop := fnExactSetGluesRow.holds Try.pinned (OpenSpec.ofChange fnExactSetGluesWrong)

/-- 'laws.FnSetGlues': WHATEVER THE INPUT: true; the input reads as it did. -/
def fnSetGluesSpec : ChangeSpec := { name := "fnSetGlues", fn := fun _ => fun
  | [d] => { results := [.lit (.bool true)], args := [d] }
  | _ => none }
def fnSetGluesRow : OpenClaim := { program := "ytoiacijjbehioaa", sum := "014f7786acb54fb00b0e23cf45064363cde7fbe5caec2b05cd3067845fa13af6", func := "loop.example/pagebuilder/laws.FnSetGlues", spec := "fnSetGlues", unfollowed := true, recurses := true, apart := false }
def FnSetGluesSaid : Prop := fnSetGluesRow.holds Try.pinned (OpenSpec.ofChange fnSetGluesSpec)

/-- ITS FALSE NEIGHBOUR: 'it returns false'. Refute it at one input. -/
def fnSetGluesWrong : ChangeSpec := { name := "fnSetGlues", fn := fun _ => fun
  | [d] => { results := [.lit (.bool false)], args := [d] }
  | _ => none }
def FnSetGluesWrongFalsely : Prop := fnSetGluesRow.holds Try.pinned (OpenSpec.ofChange fnSetGluesWrong)

/-- 'laws.FnGlueNatural': WHATEVER THE INPUT: true; the input reads as it did. -/
def fnGlueNaturalSpec : ChangeSpec := { name := "fnGlueNatural", fn := fun _ => fun
  | [d] => { results := [.lit (.bool true)], args := [d] }
  | _ => none }
def fnGlueNaturalRow : OpenClaim := { program := "ytoiacijjbehioaa", sum := "014f7786acb54fb00b0e23cf45064363cde7fbe5caec2b05cd3067845fa13af6", func := "loop.example/pagebuilder/laws.FnGlueNatural", spec := "fnGlueNatural", unfollowed := true, recurses := true, apart := false }
def FnGlueNaturalSaid : Prop := fnGlueNaturalRow.holds Try.pinned (OpenSpec.ofChange fnGlueNaturalSpec)

/-- ITS FALSE NEIGHBOUR: 'it returns false'. Refute it at one input. -/
def fnGlueNaturalWrong : ChangeSpec := { name := "fnGlueNatural", fn := fun _ => fun
  | [d] => { results := [.lit (.bool false)], args := [d] }
  | _ => none }
def FnGlueNaturalWrongFalsely : Prop := fnGlueNaturalRow.holds Try.pinned (OpenSpec.ofChange fnGlueNaturalWrong)

/-- 'laws.FnExactBadnessOf': WHATEVER THE INPUT: true; the input reads as it did. -/
def fnExactBadnessOfSpec : ChangeSpec := { name := "fnExactBadnessOf", fn := fun _ => fun
  | [d1, d2] => { results := [.lit (.bool true)], args := [d1, d2] }
  | _ => none }
def fnExactBadnessOfRow : OpenClaim := { program := "ytoiacijjbehioaa", sum := "014f7786acb54fb00b0e23cf45064363cde7fbe5caec2b05cd3067845fa13af6", func := "loop.example/pagebuilder/laws.FnExactBadnessOf", spec := "fnExactBadnessOf", apart := false }
def FnExactBadnessOfSaid : Prop := fnExactBadnessOfRow.holds Try.pinned (OpenSpec.ofChange fnExactBadnessOfSpec)

/-- ITS FALSE NEIGHBOUR: 'it returns false'. Refute it at one input. -/
def fnExactBadnessOfWrong : ChangeSpec := { name := "fnExactBadnessOf", fn := fun _ => fun
  | [d1, d2] => { results := [.lit (.bool false)], args := [d1, d2] }
  | _ => none }
def FnExactBadnessOfWrongFalsely : Prop := fnExactBadnessOfRow.holds Try.pinned (OpenSpec.ofChange fnExactBadnessOfWrong)

/-- 'laws.FnExactLooksOf': WHATEVER THE INPUT: true; the input reads as it did. -/
def fnExactLooksOfSpec : ChangeSpec := { name := "fnExactLooksOf", fn := fun _ => fun
  | [d1, d2] => { results := [.lit (.bool true)], args := [d1, d2] }
  | _ => none }
def fnExactLooksOfRow : OpenClaim := { program := "ytoiacijjbehioaa", sum := "014f7786acb54fb00b0e23cf45064363cde7fbe5caec2b05cd3067845fa13af6", func := "loop.example/pagebuilder/laws.FnExactLooksOf", spec := "fnExactLooksOf", apart := false }
def FnExactLooksOfSaid : Prop := fnExactLooksOfRow.holds Try.pinned (OpenSpec.ofChange fnExactLooksOfSpec)

/-- ITS FALSE NEIGHBOUR: 'it returns false'. Refute it at one input. -/
def fnExactLooksOfWrong : ChangeSpec := { name := "fnExactLooksOf", fn := fun _ => fun
  | [d1, d2] => { results := [.lit (.bool false)], args := [d1, d2] }
  | _ => none }
def FnExactLooksOfWrongFalsely : Prop := fnExactLooksOfRow.holds Try.pinned (OpenSpec.ofChange fnExactLooksOfWrong)

/-- 'laws.FnExactCostOf': WHATEVER THE INPUT: true; the input reads as it did. -/
def fnExactCostOfSpec : ChangeSpec := { name := "fnExactCostOf", fn := fun _ => fun
  | [d1, d2] => { results := [.lit (.bool true)], args := [d1, d2] }
  | _ => none }
def fnExactCostOfRow : OpenClaim := { program := "ytoiacijjbehioaa", sum := "014f7786acb54fb00b0e23cf45064363cde7fbe5caec2b05cd3067845fa13af6", func := "loop.example/pagebuilder/laws.FnExactCostOf", spec := "fnExactCostOf", apart := false }
def FnExactCostOfSaid : Prop := fnExactCostOfRow.holds Try.pinned (OpenSpec.ofChange fnExactCostOfSpec)

/-- ITS FALSE NEIGHBOUR: 'it returns false'. Refute it at one input. -/
def fnExactCostOfWrong : ChangeSpec := { name := "fnExactCostOf", fn := fun _ => fun
  | [d1, d2] => { results := [.lit (.bool false)], args := [d1, d2] }
  | _ => none }
def FnExactCostOfWrongFalsely : Prop := fnExactCostOfRow.holds Try.pinned (OpenSpec.ofChange fnExactCostOfWrong)

/-- 'laws.FnBadnessOf': WHATEVER THE INPUT: true; the input reads as it did. -/
def fnBadnessOfSpec : ChangeSpec := { name := "fnBadnessOf", fn := fun _ => fun
  | [d] => { results := [.lit (.bool true)], args := [d] }
  | _ => none }
def fnBadnessOfRow : OpenClaim := { program := "ytoiacijjbehioaa", sum := "014f7786acb54fb00b0e23cf45064363cde7fbe5caec2b05cd3067845fa13af6", func := "loop.example/pagebuilder/laws.FnBadnessOf", spec := "fnBadnessOf", apart := false }
def FnBadnessOfSaid : Prop := fnBadnessOfRow.holds Try.pinned (OpenSpec.ofChange fnBadnessOfSpec)

/-- ITS FALSE NEIGHBOUR: 'it returns false'. Refute it at one input. -/
def fnBadnessOfWrong : ChangeSpec := { name := "fnBadnessOf", fn := fun _ => fun
  | [d] => { results := [.lit (.bool false)], args := [d] }
  | _ => none }
def FnBadnessOfWrongFalsely : Prop := fnBadnessOfRow.holds Try.pinned (OpenSpec.ofChange fnBadnessOfWrong)

/-- 'laws.FnLooksOf': WHATEVER THE INPUT: true; the input reads as it did. -/
def fnLooksOfSpec : ChangeSpec := { name := "fnLooksOf", fn := fun _ => fun
  | [d] => { results := [.lit (.bool true)], args := [d] }
  | _ => none }
def fnLooksOfRow : OpenClaim := { program := "ytoiacijjbehioaa", sum := "014f7786acb54fb00b0e23cf45064363cde7fbe5caec2b05cd3067845fa13af6", func := "loop.example/pagebuilder/laws.FnLooksOf", spec := "fnLooksOf", apart := false }
def FnLooksOfSaid : Prop := fnLooksOfRow.holds Try.pinned (OpenSpec.ofChange fnLooksOfSpec)

/-- ITS FALSE NEIGHBOUR: 'it returns false'. Refute it at one input. -/
def fnLooksOfWrong : ChangeSpec := { name := "fnLooksOf", fn := fun _ => fun
  | [d] => { results := [.lit (.bool false)], args := [d] }
  | _ => none }
def FnLooksOfWrongFalsely : Prop := fnLooksOfRow.holds Try.pinned (OpenSpec.ofChange fnLooksOfWrong)

/-- 'laws.FnCostOf': WHATEVER THE INPUT: true; the input reads as it did. -/
def fnCostOfSpec : ChangeSpec := { name := "fnCostOf", fn := fun _ => fun
  | [d] => { results := [.lit (.bool true)], args := [d] }
  | _ => none }
def fnCostOfRow : OpenClaim := { program := "ytoiacijjbehioaa", sum := "014f7786acb54fb00b0e23cf45064363cde7fbe5caec2b05cd3067845fa13af6", func := "loop.example/pagebuilder/laws.FnCostOf", spec := "fnCostOf", apart := false }
def FnCostOfSaid : Prop := fnCostOfRow.holds Try.pinned (OpenSpec.ofChange fnCostOfSpec)

/-- ITS FALSE NEIGHBOUR: 'it returns false'. Refute it at one input. -/
def fnCostOfWrong : ChangeSpec := { name := "fnCostOf", fn := fun _ => fun
  | [d] => { results := [.lit (.bool false)], args := [d] }
  | _ => none }
def FnCostOfWrongFalsely : Prop := fnCostOfRow.holds Try.pinned (OpenSpec.ofChange fnCostOfWrong)

/-- 'laws.FnBadnessScale': WHATEVER THE INPUT: true; the input reads as it did. -/
def fnBadnessScaleSpec : ChangeSpec := { name := "fnBadnessScale", fn := fun _ => fun
  | [d] => { results := [.lit (.bool true)], args := [d] }
  | _ => none }
def fnBadnessScaleRow : OpenClaim := { program := "ytoiacijjbehioaa", sum := "014f7786acb54fb00b0e23cf45064363cde7fbe5caec2b05cd3067845fa13af6", func := "loop.example/pagebuilder/laws.FnBadnessScale", spec := "fnBadnessScale", apart := false }
def FnBadnessScaleSaid : Prop := fnBadnessScaleRow.holds Try.pinned (OpenSpec.ofChange fnBadnessScaleSpec)

/-- ITS FALSE NEIGHBOUR: 'it returns false'. Refute it at one input. -/
def fnBadnessScaleWrong : ChangeSpec := { name := "fnBadnessScale", fn := fun _ => fun
  | [d] => { results := [.lit (.bool false)], args := [d] }
  | _ => none }
def FnBadnessScaleWrongFalsely : Prop := fnBadnessScaleRow.holds Try.pinned (OpenSpec.ofChange fnBadnessScaleWrong)

/- THE SECOND FORM. 'bulk': how many values and letters a reading holds, each counted each time it is reached (what is shared counts as often as it is met; a slice's spare places count too). A statement '..UptoSaid' is the law's where the arguments, and the package variables that the reading takes, are together of bulk at most 1048576: NARROWER than '..Said'. Prove '..Said' where nothing that the law and all that it calls make is longer than what came in: it says more and counts as full. Else prove '..UptoSaid'. A law counts once. -/
mutual
def uptoBulk {H : Type} : DataW H → Nat
  | .lit (.string bytes) => bytes.length + 1
  | .lit _ => 1
  | .nil => 1
  | .ptr d => uptoBulk d + 1
  | .slice elems spare => uptoBulkAll elems + uptoBulkAll spare + 1
  | .agg parts => uptoBulkAll parts + 1
  | .iface _ d => uptoBulk d + 1
  | .map entries => uptoBulkEntries entries + 1
  | .held _ => 1
def uptoBulkAll {H : Type} : List (DataW H) → Nat
  | [] => 0
  | d :: r => uptoBulk d + uptoBulkAll r
def uptoBulkEntries {H : Type} : List (Lit × DataW H) → Nat
  | [] => 0
  | x :: r => uptoBulkEntry x + uptoBulkEntries r
def uptoBulkEntry {H : Type} : Lit × DataW H → Nat
  | (.string bytes, d) => bytes.length + uptoBulk d + 1
  | (_, d) => uptoBulk d + 1
 end
def uptoSmall : (H : Type) → List (DataW H) → Bool := fun _ ds => decide (uptoBulkAll ds ≤ 1048576)
def OpenSpec.upto (s : _root_.Go.ChangeSpec) : _root_.Go.OpenSpec := { _root_.Go.OpenSpec.ofChange s with cond := some uptoSmall }

/-- 'laws.FnExactConstants', WHERE WHAT IT READS IS OF BULK AT MOST 1048576: true; the input reads as it did. -/
def fnExactConstantsUptoRow : OpenClaim := { program := "ytoiacijjbehioaa", sum := "014f7786acb54fb00b0e23cf45064363cde7fbe5caec2b05cd3067845fa13af6", func := "loop.example/pagebuilder/laws.FnExactConstants", spec := "fnExactConstants", apart := false, narrowed := true }
def FnExactConstantsUptoSaid : Prop := fnExactConstantsUptoRow.holds Try.pinned (OpenSpec.upto fnExactConstantsSpec)

/-- 'laws.FnExactGlueValid', WHERE WHAT IT READS IS OF BULK AT MOST 1048576: true; the input reads as it did. -/
def fnExactGlueValidUptoRow : OpenClaim := { program := "ytoiacijjbehioaa", sum := "014f7786acb54fb00b0e23cf45064363cde7fbe5caec2b05cd3067845fa13af6", func := "loop.example/pagebuilder/laws.FnExactGlueValid", spec := "fnExactGlueValid", apart := false, narrowed := true }
def FnExactGlueValidUptoSaid : Prop := fnExactGlueValidUptoRow.holds Try.pinned (OpenSpec.upto fnExactGlueValidSpec)

/-- 'laws.FnGlueValid', WHERE WHAT IT READS IS OF BULK AT MOST 1048576: true; the input reads as it did. -/
def fnGlueValidUptoRow : OpenClaim := { program := "ytoiacijjbehioaa", sum := "014f7786acb54fb00b0e23cf45064363cde7fbe5caec2b05cd3067845fa13af6", func := "loop.example/pagebuilder/laws.FnGlueValid", spec := "fnGlueValid", apart := false, narrowed := true }
def FnGlueValidUptoSaid : Prop := fnGlueValidUptoRow.holds Try.pinned (OpenSpec.upto fnGlueValidSpec)

/-- 'laws.FnExactGlueTotal', WHERE WHAT IT READS IS OF BULK AT MOST 1048576: true; the input reads as it did. -/
def fnExactGlueTotalUptoRow : OpenClaim := { program := "ytoiacijjbehioaa", sum := "014f7786acb54fb00b0e23cf45064363cde7fbe5caec2b05cd3067845fa13af6", func := "loop.example/pagebuilder/laws.FnExactGlueTotal", spec := "fnExactGlueTotal", apart := false, narrowed := true }
def FnExactGlueTotalUptoSaid : Prop := fnExactGlueTotalUptoRow.holds Try.pinned (OpenSpec.upto fnExactGlueTotalSpec)

/-- 'laws.FnGlueTotal', WHERE WHAT IT READS IS OF BULK AT MOST 1048576: true; the input reads as it did. -/
def fnGlueTotalUptoRow : OpenClaim := { program := "ytoiacijjbehioaa", sum := "014f7786acb54fb00b0e23cf45064363cde7fbe5caec2b05cd3067845fa13af6", func := "loop.example/pagebuilder/laws.FnGlueTotal", spec := "fnGlueTotal", apart := false, narrowed := true }
def FnGlueTotalUptoSaid : Prop := fnGlueTotalUptoRow.holds Try.pinned (OpenSpec.upto fnGlueTotalSpec)

/-- 'laws.FnGlueParts', WHERE WHAT IT READS IS OF BULK AT MOST 1048576: true; the input reads as it did. -/
def fnGluePartsUptoRow : OpenClaim := { program := "ytoiacijjbehioaa", sum := "014f7786acb54fb00b0e23cf45064363cde7fbe5caec2b05cd3067845fa13af6", func := "loop.example/pagebuilder/laws.FnGlueParts", spec := "fnGlueParts", apart := false, narrowed := true }
def FnGluePartsUptoSaid : Prop := fnGluePartsUptoRow.holds Try.pinned (OpenSpec.upto fnGluePartsSpec)

/-- 'laws.FnExactSetGlues', WHERE WHAT IT READS IS OF BULK AT MOST 1048576: true; the input reads as it did. -/
def fnExactSetGluesUptoRow : OpenClaim := { program := "ytoiacijjbehioaa", sum := "014f7786acb54fb00b0e23cf45064363cde7fbe5caec2b05cd3067845fa13af6", func := "loop.example/pagebuilder/laws.FnExactSetGlues", spec := "fnExactSetGlues", unfollowed := true, recurses := true, apart := false, narrowed := true }
def FnExactSetGluesUptoSaid : Prop := fnExactSetGluesUptoRow.holds Try.pinned (OpenSpec.upto fnExactSetGluesSpec)

/-- 'laws.FnSetGlues', WHERE WHAT IT READS IS OF BULK AT MOST 1048576: true; the input reads as it did. -/
def fnSetGluesUptoRow : OpenClaim := { program := "ytoiacijjbehioaa", sum := "014f7786acb54fb00b0e23cf45064363cde7fbe5caec2b05cd3067845fa13af6", func := "loop.example/pagebuilder/laws.FnSetGlues", spec := "fnSetGlues", unfollowed := true, recurses := true, apart := false, narrowed := true }
def FnSetGluesUptoSaid : Prop := fnSetGluesUptoRow.holds Try.pinned (OpenSpec.upto fnSetGluesSpec)

/-- 'laws.FnGlueNatural', WHERE WHAT IT READS IS OF BULK AT MOST 1048576: true; the input reads as it did. -/
def fnGlueNaturalUptoRow : OpenClaim := { program := "ytoiacijjbehioaa", sum := "014f7786acb54fb00b0e23cf45064363cde7fbe5caec2b05cd3067845fa13af6", func := "loop.example/pagebuilder/laws.FnGlueNatural", spec := "fnGlueNatural", unfollowed := true, recurses := true, apart := false, narrowed := true }
def FnGlueNaturalUptoSaid : Prop := fnGlueNaturalUptoRow.holds Try.pinned (OpenSpec.upto fnGlueNaturalSpec)

/-- 'laws.FnExactBadnessOf', WHERE WHAT IT READS IS OF BULK AT MOST 1048576: true; the input reads as it did. -/
def fnExactBadnessOfUptoRow : OpenClaim := { program := "ytoiacijjbehioaa", sum := "014f7786acb54fb00b0e23cf45064363cde7fbe5caec2b05cd3067845fa13af6", func := "loop.example/pagebuilder/laws.FnExactBadnessOf", spec := "fnExactBadnessOf", apart := false, narrowed := true }
def FnExactBadnessOfUptoSaid : Prop := fnExactBadnessOfUptoRow.holds Try.pinned (OpenSpec.upto fnExactBadnessOfSpec)

/-- 'laws.FnExactLooksOf', WHERE WHAT IT READS IS OF BULK AT MOST 1048576: true; the input reads as it did. -/
def fnExactLooksOfUptoRow : OpenClaim := { program := "ytoiacijjbehioaa", sum := "014f7786acb54fb00b0e23cf45064363cde7fbe5caec2b05cd3067845fa13af6", func := "loop.example/pagebuilder/laws.FnExactLooksOf", spec := "fnExactLooksOf", apart := false, narrowed := true }
def FnExactLooksOfUptoSaid : Prop := fnExactLooksOfUptoRow.holds Try.pinned (OpenSpec.upto fnExactLooksOfSpec)

/-- 'laws.FnExactCostOf', WHERE WHAT IT READS IS OF BULK AT MOST 1048576: true; the input reads as it did. -/
def fnExactCostOfUptoRow : OpenClaim := { program := "ytoiacijjbehioaa", sum := "014f7786acb54fb00b0e23cf45064363cde7fbe5caec2b05cd3067845fa13af6", func := "loop.example/pagebuilder/laws.FnExactCostOf", spec := "fnExactCostOf", apart := false, narrowed := true }
def FnExactCostOfUptoSaid : Prop := fnExactCostOfUptoRow.holds Try.pinned (OpenSpec.upto fnExactCostOfSpec)

/-- 'laws.FnBadnessOf', WHERE WHAT IT READS IS OF BULK AT MOST 1048576: true; the input reads as it did. -/
def fnBadnessOfUptoRow : OpenClaim := { program := "ytoiacijjbehioaa", sum := "014f7786acb54fb00b0e23cf45064363cde7fbe5caec2b05cd3067845fa13af6", func := "loop.example/pagebuilder/laws.FnBadnessOf", spec := "fnBadnessOf", apart := false, narrowed := true }
def FnBadnessOfUptoSaid : Prop := fnBadnessOfUptoRow.holds Try.pinned (OpenSpec.upto fnBadnessOfSpec)

/-- 'laws.FnLooksOf', WHERE WHAT IT READS IS OF BULK AT MOST 1048576: true; the input reads as it did. -/
def fnLooksOfUptoRow : OpenClaim := { program := "ytoiacijjbehioaa", sum := "014f7786acb54fb00b0e23cf45064363cde7fbe5caec2b05cd3067845fa13af6", func := "loop.example/pagebuilder/laws.FnLooksOf", spec := "fnLooksOf", apart := false, narrowed := true }
def FnLooksOfUptoSaid : Prop := fnLooksOfUptoRow.holds Try.pinned (OpenSpec.upto fnLooksOfSpec)

/-- 'laws.FnCostOf', WHERE WHAT IT READS IS OF BULK AT MOST 1048576: true; the input reads as it did. -/
def fnCostOfUptoRow : OpenClaim := { program := "ytoiacijjbehioaa", sum := "014f7786acb54fb00b0e23cf45064363cde7fbe5caec2b05cd3067845fa13af6", func := "loop.example/pagebuilder/laws.FnCostOf", spec := "fnCostOf", apart := false, narrowed := true }
def FnCostOfUptoSaid : Prop := fnCostOfUptoRow.holds Try.pinned (OpenSpec.upto fnCostOfSpec)

/-- 'laws.FnBadnessScale', WHERE WHAT IT READS IS OF BULK AT MOST 1048576: true; the input reads as it did. -/
def fnBadnessScaleUptoRow : OpenClaim := { program := "ytoiacijjbehioaa", sum := "014f7786acb54fb00b0e23cf45064363cde7fbe5caec2b05cd3067845fa13af6", func := "loop.example/pagebuilder/laws.FnBadnessScale", spec := "fnBadnessScale", apart := false, narrowed := true }
def FnBadnessScaleUptoSaid : Prop := fnBadnessScaleUptoRow.holds Try.pinned (OpenSpec.upto fnBadnessScaleSpec)

end Rows
end Go.Proofs.Ytoiacijjbehioaa
