/-
  No cell of these rows narrows 'for every input' (looked for: loops, veiled, ifaces, maps, wideKeys, modest, calm, conditions, laid).
  DERIVED. THE GIVEN ROWS OF THIS SEAT. 9 by the template 'for every input the law returns true; each argument reads behind the call as it read before'; 0 by the template 'total and deterministic' (their statements: YtfhhfibjjpiccaaTotals.lean).
  GIVEN WITH THE SEED: the statements are not yours to turn. If you find one false, say at which input.
  Laid BY PROGRAM, IN A SANDBOX (cutbox-rows.mjs): the forced cells as the released guide's own fill.sh prints them over the translation 24f2ac5862a34959… (all of the seat's roots in one cut). By AI agents, Wed Nov 11 2026. No macro, syntax, notation, axiom, sorry.
-/
import Derived.Test.YtfhhfibjjpiccaaChecked
import GoSem.Claim
import GoSem.ClaimJoined
import GoSem.ClaimMapViews
import Derived.JoinedTies
import Derived.KernelRfl
namespace Go.Proofs.Ytfhhfibjjpiccaa
/- THE CELL 'sum', in the pinned program and in every row, IS THE sha256 OF THE DUMP (.gsa) THAT YtfhhfibjjpiccaaProg.lean LOADS. Nothing in Lean hashes anything: it is a label: what it is worth is what the hold of that sum in a sandbox is worth. -/
noncomputable def Try.pinned : Pinned := { name := "ytfhhfibjjpiccaa", sum := "24f2ac5862a34959a15a240bd4a22063cde9d3dd47a34f5ce7e8eab1c7a15ecd", checked := Try.checked }
namespace Rows
def none {H : Type} : Left H := { results := [], args := [] }

/-- 'laws.FnJoinsWith': WHATEVER THE INPUT: true; the input reads as it did. -/
def fnJoinsWithSpec : ChangeSpec := { name := "fnJoinsWith", fn := fun _ => fun
  | [d] => { results := [.lit (.bool true)], args := [d] }
  | _ => none }
def fnJoinsWithRow : OpenClaim := { program := "ytfhhfibjjpiccaa", sum := "24f2ac5862a34959a15a240bd4a22063cde9d3dd47a34f5ce7e8eab1c7a15ecd", func := "loop.example/pagebuilder/laws.FnJoinsWith", spec := "fnJoinsWith", inPlace := ["internal/bytealg.IndexByteString"], apart := false }
def FnJoinsWithSaid : Prop := fnJoinsWithRow.holds Try.pinned (OpenSpec.ofChange fnJoinsWithSpec)

/-- ITS FALSE NEIGHBOUR: 'it returns false'. Refute it at one input. -/
def fnJoinsWithWrong : ChangeSpec := { name := "fnJoinsWith", fn := fun _ => fun
  | [d] => { results := [.lit (.bool false)], args := [d] }
  | _ => none }
def FnJoinsWithWrongFalsely : Prop := fnJoinsWithRow.holds Try.pinned (OpenSpec.ofChange fnJoinsWithWrong)

/-- 'laws.FnNearBy': WHATEVER THE INPUT: true; the input reads as it did. -/
def fnNearBySpec : ChangeSpec := { name := "fnNearBy", fn := fun _ => fun
  | [d] => { results := [.lit (.bool true)], args := [d] }
  | _ => none }
def fnNearByRow : OpenClaim := { program := "ytfhhfibjjpiccaa", sum := "24f2ac5862a34959a15a240bd4a22063cde9d3dd47a34f5ce7e8eab1c7a15ecd", func := "loop.example/pagebuilder/laws.FnNearBy", spec := "fnNearBy", inPlace := ["internal/bytealg.IndexByteString"], apart := false }
def FnNearBySaid : Prop := fnNearByRow.holds Try.pinned (OpenSpec.ofChange fnNearBySpec)

/-- ITS FALSE NEIGHBOUR: 'it returns false'. Refute it at one input. -/
def fnNearByWrong : ChangeSpec := { name := "fnNearBy", fn := fun _ => fun
  | [d] => { results := [.lit (.bool false)], args := [d] }
  | _ => none }
def FnNearByWrongFalsely : Prop := fnNearByRow.holds Try.pinned (OpenSpec.ofChange fnNearByWrong)

/-- 'laws.FnLetterWidth': WHATEVER THE INPUT: true; the input reads as it did. -/
def fnLetterWidthSpec : ChangeSpec := { name := "fnLetterWidth", fn := fun _ => fun
  | [d] => { results := [.lit (.bool true)], args := [d] }
  | _ => none }
def fnLetterWidthRow : OpenClaim := { program := "ytfhhfibjjpiccaa", sum := "24f2ac5862a34959a15a240bd4a22063cde9d3dd47a34f5ce7e8eab1c7a15ecd", func := "loop.example/pagebuilder/laws.FnLetterWidth", spec := "fnLetterWidth", inPlace := ["internal/bytealg.IndexByteString"], apart := false }
def FnLetterWidthSaid : Prop := fnLetterWidthRow.holds Try.pinned (OpenSpec.ofChange fnLetterWidthSpec)

/-- ITS FALSE NEIGHBOUR: 'it returns false'. Refute it at one input. -/
def fnLetterWidthWrong : ChangeSpec := { name := "fnLetterWidth", fn := fun _ => fun
  | [d] => { results := [.lit (.bool false)], args := [d] }
  | _ => none }
def FnLetterWidthWrongFalsely : Prop := fnLetterWidthRow.holds Try.pinned (OpenSpec.ofChange fnLetterWidthWrong)

/-- 'laws.FnWordValid': WHATEVER THE INPUT: true; the input reads as it did. -/
def fnWordValidSpec : ChangeSpec := { name := "fnWordValid", fn := fun _ => fun
  | [d] => { results := [.lit (.bool true)], args := [d] }
  | _ => none }
def fnWordValidRow : OpenClaim := { program := "ytfhhfibjjpiccaa", sum := "24f2ac5862a34959a15a240bd4a22063cde9d3dd47a34f5ce7e8eab1c7a15ecd", func := "loop.example/pagebuilder/laws.FnWordValid", spec := "fnWordValid", apart := false }
def FnWordValidSaid : Prop := fnWordValidRow.holds Try.pinned (OpenSpec.ofChange fnWordValidSpec)

/-- ITS FALSE NEIGHBOUR: 'it returns false'. Refute it at one input. -/
def fnWordValidWrong : ChangeSpec := { name := "fnWordValid", fn := fun _ => fun
  | [d] => { results := [.lit (.bool false)], args := [d] }
  | _ => none }
def FnWordValidWrongFalsely : Prop := fnWordValidRow.holds Try.pinned (OpenSpec.ofChange fnWordValidWrong)

/-- 'laws.FnSignsOf': WHATEVER THE INPUT: true; the input reads as it did. -/
def fnSignsOfSpec : ChangeSpec := { name := "fnSignsOf", fn := fun _ => fun
  | [d] => { results := [.lit (.bool true)], args := [d] }
  | _ => none }
def fnSignsOfRow : OpenClaim := { program := "ytfhhfibjjpiccaa", sum := "24f2ac5862a34959a15a240bd4a22063cde9d3dd47a34f5ce7e8eab1c7a15ecd", func := "loop.example/pagebuilder/laws.FnSignsOf", spec := "fnSignsOf", inPlace := ["internal/bytealg.IndexByteString"], apart := false }
def FnSignsOfSaid : Prop := fnSignsOfRow.holds Try.pinned (OpenSpec.ofChange fnSignsOfSpec)

/-- ITS FALSE NEIGHBOUR: 'it returns false'. Refute it at one input. -/
def fnSignsOfWrong : ChangeSpec := { name := "fnSignsOf", fn := fun _ => fun
  | [d] => { results := [.lit (.bool false)], args := [d] }
  | _ => none }
def FnSignsOfWrongFalsely : Prop := fnSignsOfRow.holds Try.pinned (OpenSpec.ofChange fnSignsOfWrong)

/-- 'laws.FnWordWidth': WHATEVER THE INPUT: true; the input reads as it did. -/
def fnWordWidthSpec : ChangeSpec := { name := "fnWordWidth", fn := fun _ => fun
  | [d] => { results := [.lit (.bool true)], args := [d] }
  | _ => none }
def fnWordWidthRow : OpenClaim := { program := "ytfhhfibjjpiccaa", sum := "24f2ac5862a34959a15a240bd4a22063cde9d3dd47a34f5ce7e8eab1c7a15ecd", func := "loop.example/pagebuilder/laws.FnWordWidth", spec := "fnWordWidth", inPlace := ["internal/bytealg.IndexByteString"], apart := false }
def FnWordWidthSaid : Prop := fnWordWidthRow.holds Try.pinned (OpenSpec.ofChange fnWordWidthSpec)

/-- ITS FALSE NEIGHBOUR: 'it returns false'. Refute it at one input. -/
def fnWordWidthWrong : ChangeSpec := { name := "fnWordWidth", fn := fun _ => fun
  | [d] => { results := [.lit (.bool false)], args := [d] }
  | _ => none }
def FnWordWidthWrongFalsely : Prop := fnWordWidthRow.holds Try.pinned (OpenSpec.ofChange fnWordWidthWrong)

/-- 'laws.FnWidthParts': WHATEVER THE INPUT: true; the input reads as it did. -/
def fnWidthPartsSpec : ChangeSpec := { name := "fnWidthParts", fn := fun _ => fun
  | [d] => { results := [.lit (.bool true)], args := [d] }
  | _ => none }
def fnWidthPartsRow : OpenClaim := { program := "ytfhhfibjjpiccaa", sum := "24f2ac5862a34959a15a240bd4a22063cde9d3dd47a34f5ce7e8eab1c7a15ecd", func := "loop.example/pagebuilder/laws.FnWidthParts", spec := "fnWidthParts", inPlace := ["internal/bytealg.IndexByteString"], apart := false }
def FnWidthPartsSaid : Prop := fnWidthPartsRow.holds Try.pinned (OpenSpec.ofChange fnWidthPartsSpec)

/-- ITS FALSE NEIGHBOUR: 'it returns false'. Refute it at one input. -/
def fnWidthPartsWrong : ChangeSpec := { name := "fnWidthParts", fn := fun _ => fun
  | [d] => { results := [.lit (.bool false)], args := [d] }
  | _ => none }
def FnWidthPartsWrongFalsely : Prop := fnWidthPartsRow.holds Try.pinned (OpenSpec.ofChange fnWidthPartsWrong)

/-- 'laws.FnExactBoxesOf': WHATEVER THE INPUT: true; the input reads as it did. -/
def fnExactBoxesOfSpec : ChangeSpec := { name := "fnExactBoxesOf", fn := fun _ => fun
  | [d] => { results := [.lit (.bool true)], args := [d] }
  | _ => none }
def fnExactBoxesOfRow : OpenClaim := { program := "ytfhhfibjjpiccaa", sum := "24f2ac5862a34959a15a240bd4a22063cde9d3dd47a34f5ce7e8eab1c7a15ecd", func := "loop.example/pagebuilder/laws.FnExactBoxesOf", spec := "fnExactBoxesOf", apart := false }
def FnExactBoxesOfSaid : Prop := fnExactBoxesOfRow.holds Try.pinned (OpenSpec.ofChange fnExactBoxesOfSpec)

/-- ITS FALSE NEIGHBOUR: 'it returns false'. Refute it at one input. -/
def fnExactBoxesOfWrong : ChangeSpec := { name := "fnExactBoxesOf", fn := fun _ => fun
  | [d] => { results := [.lit (.bool false)], args := [d] }
  | _ => none }
def FnExactBoxesOfWrongFalsely : Prop := fnExactBoxesOfRow.holds Try.pinned (OpenSpec.ofChange fnExactBoxesOfWrong)

/-- 'laws.FnExactParagraphItems': WHATEVER THE INPUT: true; the input reads as it did. -/
def fnExactParagraphItemsSpec : ChangeSpec := { name := "fnExactParagraphItems", fn := fun _ => fun
  | [d1, d2] => { results := [.lit (.bool true)], args := [d1, d2] }
  | _ => none }
def fnExactParagraphItemsRow : OpenClaim := { program := "ytfhhfibjjpiccaa", sum := "24f2ac5862a34959a15a240bd4a22063cde9d3dd47a34f5ce7e8eab1c7a15ecd", func := "loop.example/pagebuilder/laws.FnExactParagraphItems", spec := "fnExactParagraphItems", inPlace := ["internal/bytealg.IndexByteString"], apart := false }
def FnExactParagraphItemsSaid : Prop := fnExactParagraphItemsRow.holds Try.pinned (OpenSpec.ofChange fnExactParagraphItemsSpec)

/-- ITS FALSE NEIGHBOUR: 'it returns false'. Refute it at one input. -/
def fnExactParagraphItemsWrong : ChangeSpec := { name := "fnExactParagraphItems", fn := fun _ => fun
  | [d1, d2] => { results := [.lit (.bool false)], args := [d1, d2] }
  | _ => none }
def FnExactParagraphItemsWrongFalsely : Prop := fnExactParagraphItemsRow.holds Try.pinned (OpenSpec.ofChange fnExactParagraphItemsWrong)

/- THE SECOND FORM. 'bulk': how many values and letters a reading holds, each counted each time it is reached (what is shared counts as often as it is met; a slice's spare places count too). A statement '..UptoSaid' is the law's where the arguments, and the package variables that the reading takes, are together of bulk at most 1048576: NARROWER than '..Said'. Prove '..Said' where nothing that the law and all that it calls make is longer than what came in: it says more and counts as full. Else prove '..UptoSaid'. A law counts once. -/
mutual
def uptoBulk {H : Type} : DataW H → Nat
  | .lit (.string bytes) => bytes.length + 1
  | .lit _ => 1
  | .nil => 1
  | .ptr d => uptoBulk d + 1
  | .slice elems spare => uptoBulkAll elems + uptoBulkAll spare + 1
  | .agg parts => uptoBulkAll parts + 1
  | .iface _ d => uptoBulk d + 1
  | .map entries => uptoBulkEntries entries + 1
  | .held _ => 1
def uptoBulkAll {H : Type} : List (DataW H) → Nat
  | [] => 0
  | d :: r => uptoBulk d + uptoBulkAll r
def uptoBulkEntries {H : Type} : List (Lit × DataW H) → Nat
  | [] => 0
  | x :: r => uptoBulkEntry x + uptoBulkEntries r
def uptoBulkEntry {H : Type} : Lit × DataW H → Nat
  | (.string bytes, d) => bytes.length + uptoBulk d + 1
  | (_, d) => uptoBulk d + 1
 end
def uptoSmall : (H : Type) → List (DataW H) → Bool := fun _ ds => decide (uptoBulkAll ds ≤ 1048576)
def OpenSpec.upto (s : _root_.Go.ChangeSpec) : _root_.Go.OpenSpec := { _root_.Go.OpenSpec.ofChange s with cond := some uptoSmall }

/-- 'laws.FnJoinsWith', WHERE WHAT IT READS IS OF BULK AT MOST 1048576: true; the input reads as it did. -/
def fnJoinsWithUptoRow : OpenClaim := { program := "ytfhhfibjjpiccaa", sum := "24f2ac5862a34959a15a240bd4a22063cde9d3dd47a34f5ce7e8eab1c7a15ecd", func := "loop.example/pagebuilder/laws.FnJoinsWith", spec := "fnJoinsWith", inPlace := ["internal/bytealg.IndexByteString"], apart := false, narrowed := true }
def FnJoinsWithUptoSaid : Prop := fnJoinsWithUptoRow.holds Try.pinned (OpenSpec.upto fnJoinsWithSpec)

/-- 'laws.FnNearBy', WHERE WHAT IT READS IS OF BULK AT MOST 1048576: true; the input reads as it did. -/
def fnNearByUptoRow : OpenClaim := { program := "ytfhhfibjjpiccaa", sum := "24f2ac5862a34959a15a240bd4a22063cde9d3dd47a34f5ce7e8eab1c7a15ecd", func := "loop.example/pagebuilder/laws.FnNearBy", spec := "fnNearBy", inPlace := ["internal/bytealg.IndexByteString"], apart := false, narrowed := true }
def FnNearByUptoSaid : Prop := fnNearByUptoRow.holds Try.pinned (OpenSpec.upto fnNearBySpec)

/-- 'laws.FnLetterWidth', WHERE WHAT IT READS IS OF BULK AT MOST 1048576: true; the input reads as it did. -/
def fnLetterWidthUptoRow : OpenClaim := { program := "ytfhhfibjjpiccaa", sum := "24f2ac5862a34959a15a240bd4a22063cde9d3dd47a34f5ce7e8eab1c7a15ecd", func := "loop.example/pagebuilder/laws.FnLetterWidth", spec := "fnLetterWidth", inPlace := ["internal/bytealg.IndexByteString"], apart := false, narrowed := true }
def FnLetterWidthUptoSaid : Prop := fnLetterWidthUptoRow.holds Try.pinned (OpenSpec.upto fnLetterWidthSpec)

/-- 'laws.FnWordValid', WHERE WHAT IT READS IS OF BULK AT MOST 1048576: true; the input reads as it did. -/
def fnWordValidUptoRow : OpenClaim := { program := "ytfhhfibjjpiccaa", sum := "24f2ac5862a34959a15a240bd4a22063cde9d3dd47a34f5ce7e8eab1c7a15ecd", func := "loop.example/pagebuilder/laws.FnWordValid", spec := "fnWordValid", apart := false, narrowed := true }
def FnWordValidUptoSaid : Prop := fnWordValidUptoRow.holds Try.pinned (OpenSpec.upto fnWordValidSpec)

/-- 'laws.FnSignsOf', WHERE WHAT IT READS IS OF BULK AT MOST 1048576: true; the input reads as it did. -/
def fnSignsOfUptoRow : OpenClaim := { program := "ytfhhfibjjpiccaa", sum := "24f2ac5862a34959a15a240bd4a22063cde9d3dd47a34f5ce7e8eab1c7a15ecd", func := "loop.example/pagebuilder/laws.FnSignsOf", spec := "fnSignsOf", inPlace := ["internal/bytealg.IndexByteString"], apart := false, narrowed := true }
def FnSignsOfUptoSaid : Prop := fnSignsOfUptoRow.holds Try.pinned (OpenSpec.upto fnSignsOfSpec)

/-- 'laws.FnWordWidth', WHERE WHAT IT READS IS OF BULK AT MOST 1048576: true; the input reads as it did. -/
def fnWordWidthUptoRow : OpenClaim := { program := "ytfhhfibjjpiccaa", sum := "24f2ac5862a34959a15a240bd4a22063cde9d3dd47a34f5ce7e8eab1c7a15ecd", func := "loop.example/pagebuilder/laws.FnWordWidth", spec := "fnWordWidth", inPlace := ["internal/bytealg.IndexByteString"], apart := false, narrowed := true }
def FnWordWidthUptoSaid : Prop := fnWordWidthUptoRow.holds Try.pinned (OpenSpec.upto fnWordWidthSpec)

/-- 'laws.FnWidthParts', WHERE WHAT IT READS IS OF BULK AT MOST 1048576: true; the input reads as it did. -/
def fnWidthPartsUptoRow : OpenClaim := { program := "ytfhhfibjjpiccaa", sum := "24f2ac5862a34959a15a240bd4a22063cde9d3dd47a34f5ce7e8eab1c7a15ecd", func := "loop.example/pagebuilder/laws.FnWidthParts", spec := "fnWidthParts", inPlace := ["internal/bytealg.IndexByteString"], apart := false, narrowed := true }
def FnWidthPartsUptoSaid : Prop := fnWidthPartsUptoRow.holds Try.pinned (OpenSpec.upto fnWidthPartsSpec)

/-- 'laws.FnExactBoxesOf', WHERE WHAT IT READS IS OF BULK AT MOST 1048576: true; the input reads as it did. -/
def fnExactBoxesOfUptoRow : OpenClaim := { program := "ytfhhfibjjpiccaa", sum := "24f2ac5862a34959a15a240bd4a22063cde9d3dd47a34f5ce7e8eab1c7a15ecd", func := "loop.example/pagebuilder/laws.FnExactBoxesOf", spec := "fnExactBoxesOf", apart := false, narrowed := true }
def FnExactBoxesOfUptoSaid : Prop := fnExactBoxesOfUptoRow.holds Try.pinned (OpenSpec.upto fnExactBoxesOfSpec)

/-- 'laws.FnExactParagraphItems', WHERE WHAT IT READS IS OF BULK AT MOST 1048576: true; the input reads as it did. -/
def fnExactParagraphItemsUptoRow : OpenClaim := { program := "ytfhhfibjjpiccaa", sum := "24f2ac5862a34959a15a240bd4a22063cde9d3dd47a34f5ce7e8eab1c7a15ecd", func := "loop.example/pagebuilder/laws.FnExactParagraphItems", spec := "fnExactParagraphItems", inPlace := ["internal/bytealg.IndexByteString"], apart := false, narrowed := true }
def FnExactParagraphItemsUptoSaid : Prop := fnExactParagraphItemsUptoRow.holds Try.pinned (OpenSpec.upto fnExactParagraphItemsSpec)

end Rows
end Go.Proofs.Ytfhhfibjjpiccaa
