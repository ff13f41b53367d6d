/-
  No cell of these rows narrows 'for every input' (looked for: loops, veiled, ifaces, maps, wideKeys, modest, calm, conditions, laid).
  DERIVED. THE GIVEN ROWS OF THIS SEAT. 28 by the template 'for every input the law returns true; each argument reads behind the call as it read before'; 0 by the template 'total and deterministic' (their statements: YtgcbibabmfncmaaTotals.lean).
  GIVEN WITH THE SEED: the statements are not yours to turn. If you find one false, say at which input.
  Laid BY PROGRAM, IN A SANDBOX (cutbox-rows.mjs): the forced cells as the released guide's own fill.sh prints them over the translation cdae4ea5cf6a24c2… (all of the seat's roots in one cut). By AI agents, Wed Nov 11 2026. No macro, syntax, notation, axiom, sorry.
-/
import Derived.Test.YtgcbibabmfncmaaChecked
import GoSem.Claim
import GoSem.ClaimJoined
import GoSem.ClaimMapViews
import Derived.JoinedTies
import Derived.KernelRfl
namespace Go.Proofs.Ytgcbibabmfncmaa
/- THE CELL 'sum', in the pinned program and in every row, IS THE sha256 OF THE DUMP (.gsa) THAT YtgcbibabmfncmaaProg.lean LOADS. Nothing in Lean hashes anything: it is a label: what it is worth is what the hold of that sum in a sandbox is worth. -/
noncomputable def Try.pinned : Pinned := { name := "ytgcbibabmfncmaa", sum := "cdae4ea5cf6a24c2beab6930732a0c1018b32ec4d108c4c12ee60e20b6c66e2d", checked := Try.checked }
namespace Rows
def none {H : Type} : Left H := { results := [], args := [] }

/-- 'laws.FnExactJoinsWith': WHATEVER THE INPUT: true; the input reads as it did. -/
def fnExactJoinsWithSpec : ChangeSpec := { name := "fnExactJoinsWith", fn := fun _ => fun
  | [d1, d2] => { results := [.lit (.bool true)], args := [d1, d2] }
  | _ => none }
def fnExactJoinsWithRow : OpenClaim := { program := "ytgcbibabmfncmaa", sum := "cdae4ea5cf6a24c2beab6930732a0c1018b32ec4d108c4c12ee60e20b6c66e2d", func := "loop.example/pagebuilder/laws.FnExactJoinsWith", spec := "fnExactJoinsWith", inPlace := ["internal/bytealg.IndexByteString"], apart := false }
def FnExactJoinsWithSaid : Prop := fnExactJoinsWithRow.holds Try.pinned (OpenSpec.ofChange fnExactJoinsWithSpec)

/-- ITS FALSE NEIGHBOUR: 'it returns false'. Refute it at one input. -/
def fnExactJoinsWithWrong : ChangeSpec := { name := "fnExactJoinsWith", fn := fun _ => fun
  | [d1, d2] => { results := [.lit (.bool false)], args := [d1, d2] }
  | _ => none }
def FnExactJoinsWithWrongFalsely : Prop := fnExactJoinsWithRow.holds Try.pinned (OpenSpec.ofChange fnExactJoinsWithWrong)

/-- 'laws.FnExactNearBy': WHATEVER THE INPUT: true; the input reads as it did. -/
def fnExactNearBySpec : ChangeSpec := { name := "fnExactNearBy", fn := fun _ => fun
  | [d1, d2] => { results := [.lit (.bool true)], args := [d1, d2] }
  | _ => none }
def fnExactNearByRow : OpenClaim := { program := "ytgcbibabmfncmaa", sum := "cdae4ea5cf6a24c2beab6930732a0c1018b32ec4d108c4c12ee60e20b6c66e2d", func := "loop.example/pagebuilder/laws.FnExactNearBy", spec := "fnExactNearBy", inPlace := ["internal/bytealg.IndexByteString"], apart := false }
def FnExactNearBySaid : Prop := fnExactNearByRow.holds Try.pinned (OpenSpec.ofChange fnExactNearBySpec)

/-- ITS FALSE NEIGHBOUR: 'it returns false'. Refute it at one input. -/
def fnExactNearByWrong : ChangeSpec := { name := "fnExactNearBy", fn := fun _ => fun
  | [d1, d2] => { results := [.lit (.bool false)], args := [d1, d2] }
  | _ => none }
def FnExactNearByWrongFalsely : Prop := fnExactNearByRow.holds Try.pinned (OpenSpec.ofChange fnExactNearByWrong)

/-- 'laws.FnExactWordValid': WHATEVER THE INPUT: true; the input reads as it did. -/
def fnExactWordValidSpec : ChangeSpec := { name := "fnExactWordValid", fn := fun _ => fun
  | [d] => { results := [.lit (.bool true)], args := [d] }
  | _ => none }
def fnExactWordValidRow : OpenClaim := { program := "ytgcbibabmfncmaa", sum := "cdae4ea5cf6a24c2beab6930732a0c1018b32ec4d108c4c12ee60e20b6c66e2d", func := "loop.example/pagebuilder/laws.FnExactWordValid", spec := "fnExactWordValid", apart := false }
def FnExactWordValidSaid : Prop := fnExactWordValidRow.holds Try.pinned (OpenSpec.ofChange fnExactWordValidSpec)

/-- ITS FALSE NEIGHBOUR: 'it returns false'. Refute it at one input. -/
def fnExactWordValidWrong : ChangeSpec := { name := "fnExactWordValid", fn := fun _ => fun
  | [d] => { results := [.lit (.bool false)], args := [d] }
  | _ => none }
def FnExactWordValidWrongFalsely : Prop := fnExactWordValidRow.holds Try.pinned (OpenSpec.ofChange fnExactWordValidWrong)

/-- 'laws.FnExactLetterWidth': WHATEVER THE INPUT: true; the input reads as it did. -/
def fnExactLetterWidthSpec : ChangeSpec := { name := "fnExactLetterWidth", fn := fun _ => fun
  | [d] => { results := [.lit (.bool true)], args := [d] }
  | _ => none }
def fnExactLetterWidthRow : OpenClaim := { program := "ytgcbibabmfncmaa", sum := "cdae4ea5cf6a24c2beab6930732a0c1018b32ec4d108c4c12ee60e20b6c66e2d", func := "loop.example/pagebuilder/laws.FnExactLetterWidth", spec := "fnExactLetterWidth", inPlace := ["internal/bytealg.IndexByteString"], apart := false }
def FnExactLetterWidthSaid : Prop := fnExactLetterWidthRow.holds Try.pinned (OpenSpec.ofChange fnExactLetterWidthSpec)

/-- ITS FALSE NEIGHBOUR: 'it returns false'. Refute it at one input. -/
def fnExactLetterWidthWrong : ChangeSpec := { name := "fnExactLetterWidth", fn := fun _ => fun
  | [d] => { results := [.lit (.bool false)], args := [d] }
  | _ => none }
def FnExactLetterWidthWrongFalsely : Prop := fnExactLetterWidthRow.holds Try.pinned (OpenSpec.ofChange fnExactLetterWidthWrong)

/-- 'laws.FnExactSignsOf': WHATEVER THE INPUT: true; the input reads as it did. -/
def fnExactSignsOfSpec : ChangeSpec := { name := "fnExactSignsOf", fn := fun _ => fun
  | [d] => { results := [.lit (.bool true)], args := [d] }
  | _ => none }
def fnExactSignsOfRow : OpenClaim := { program := "ytgcbibabmfncmaa", sum := "cdae4ea5cf6a24c2beab6930732a0c1018b32ec4d108c4c12ee60e20b6c66e2d", func := "loop.example/pagebuilder/laws.FnExactSignsOf", spec := "fnExactSignsOf", inPlace := ["internal/bytealg.IndexByteString"], apart := false }
def FnExactSignsOfSaid : Prop := fnExactSignsOfRow.holds Try.pinned (OpenSpec.ofChange fnExactSignsOfSpec)

/-- ITS FALSE NEIGHBOUR: 'it returns false'. Refute it at one input. -/
def fnExactSignsOfWrong : ChangeSpec := { name := "fnExactSignsOf", fn := fun _ => fun
  | [d] => { results := [.lit (.bool false)], args := [d] }
  | _ => none }
def FnExactSignsOfWrongFalsely : Prop := fnExactSignsOfRow.holds Try.pinned (OpenSpec.ofChange fnExactSignsOfWrong)

/-- 'laws.FnExactWordWidth': WHATEVER THE INPUT: true; the input reads as it did. -/
def fnExactWordWidthSpec : ChangeSpec := { name := "fnExactWordWidth", fn := fun _ => fun
  | [d] => { results := [.lit (.bool true)], args := [d] }
  | _ => none }
def fnExactWordWidthRow : OpenClaim := { program := "ytgcbibabmfncmaa", sum := "cdae4ea5cf6a24c2beab6930732a0c1018b32ec4d108c4c12ee60e20b6c66e2d", func := "loop.example/pagebuilder/laws.FnExactWordWidth", spec := "fnExactWordWidth", inPlace := ["internal/bytealg.IndexByteString"], apart := false }
def FnExactWordWidthSaid : Prop := fnExactWordWidthRow.holds Try.pinned (OpenSpec.ofChange fnExactWordWidthSpec)

/-- ITS FALSE NEIGHBOUR: 'it returns false'. Refute it at one input. -/
def fnExactWordWidthWrong : ChangeSpec := { name := "fnExactWordWidth", fn := fun _ => fun
  | [d] => { results := [.lit (.bool false)], args := [d] }
  | _ => none }
def FnExactWordWidthWrongFalsely : Prop := fnExactWordWidthRow.holds Try.pinned (OpenSpec.ofChange fnExactWordWidthWrong)

/-- 'laws.FnJoinsWith': WHATEVER THE INPUT: true; the input reads as it did. -/
def fnJoinsWithSpec : ChangeSpec := { name := "fnJoinsWith", fn := fun _ => fun
  | [d] => { results := [.lit (.bool true)], args := [d] }
  | _ => none }
def fnJoinsWithRow : OpenClaim := { program := "ytgcbibabmfncmaa", sum := "cdae4ea5cf6a24c2beab6930732a0c1018b32ec4d108c4c12ee60e20b6c66e2d", func := "loop.example/pagebuilder/laws.FnJoinsWith", spec := "fnJoinsWith", inPlace := ["internal/bytealg.IndexByteString"], apart := false }
def FnJoinsWithSaid : Prop := fnJoinsWithRow.holds Try.pinned (OpenSpec.ofChange fnJoinsWithSpec)

/-- ITS FALSE NEIGHBOUR: 'it returns false'. Refute it at one input. -/
def fnJoinsWithWrong : ChangeSpec := { name := "fnJoinsWith", fn := fun _ => fun
  | [d] => { results := [.lit (.bool false)], args := [d] }
  | _ => none }
def FnJoinsWithWrongFalsely : Prop := fnJoinsWithRow.holds Try.pinned (OpenSpec.ofChange fnJoinsWithWrong)

/-- 'laws.FnNearBy': WHATEVER THE INPUT: true; the input reads as it did. -/
def fnNearBySpec : ChangeSpec := { name := "fnNearBy", fn := fun _ => fun
  | [d] => { results := [.lit (.bool true)], args := [d] }
  | _ => none }
def fnNearByRow : OpenClaim := { program := "ytgcbibabmfncmaa", sum := "cdae4ea5cf6a24c2beab6930732a0c1018b32ec4d108c4c12ee60e20b6c66e2d", func := "loop.example/pagebuilder/laws.FnNearBy", spec := "fnNearBy", inPlace := ["internal/bytealg.IndexByteString"], apart := false }
def FnNearBySaid : Prop := fnNearByRow.holds Try.pinned (OpenSpec.ofChange fnNearBySpec)

/-- ITS FALSE NEIGHBOUR: 'it returns false'. Refute it at one input. -/
def fnNearByWrong : ChangeSpec := { name := "fnNearBy", fn := fun _ => fun
  | [d] => { results := [.lit (.bool false)], args := [d] }
  | _ => none }
def FnNearByWrongFalsely : Prop := fnNearByRow.holds Try.pinned (OpenSpec.ofChange fnNearByWrong)

/-- 'laws.FnWordValid': WHATEVER THE INPUT: true; the input reads as it did. -/
def fnWordValidSpec : ChangeSpec := { name := "fnWordValid", fn := fun _ => fun
  | [d] => { results := [.lit (.bool true)], args := [d] }
  | _ => none }
def fnWordValidRow : OpenClaim := { program := "ytgcbibabmfncmaa", sum := "cdae4ea5cf6a24c2beab6930732a0c1018b32ec4d108c4c12ee60e20b6c66e2d", func := "loop.example/pagebuilder/laws.FnWordValid", spec := "fnWordValid", apart := false }
def FnWordValidSaid : Prop := fnWordValidRow.holds Try.pinned (OpenSpec.ofChange fnWordValidSpec)

/-- ITS FALSE NEIGHBOUR: 'it returns false'. Refute it at one input. -/
def fnWordValidWrong : ChangeSpec := { name := "fnWordValid", fn := fun _ => fun
  | [d] => { results := [.lit (.bool false)], args := [d] }
  | _ => none }
def FnWordValidWrongFalsely : Prop := fnWordValidRow.holds Try.pinned (OpenSpec.ofChange fnWordValidWrong)

/-- 'laws.FnLetterWidth': WHATEVER THE INPUT: true; the input reads as it did. -/
def fnLetterWidthSpec : ChangeSpec := { name := "fnLetterWidth", fn := fun _ => fun
  | [d] => { results := [.lit (.bool true)], args := [d] }
  | _ => none }
def fnLetterWidthRow : OpenClaim := { program := "ytgcbibabmfncmaa", sum := "cdae4ea5cf6a24c2beab6930732a0c1018b32ec4d108c4c12ee60e20b6c66e2d", func := "loop.example/pagebuilder/laws.FnLetterWidth", spec := "fnLetterWidth", inPlace := ["internal/bytealg.IndexByteString"], apart := false }
def FnLetterWidthSaid : Prop := fnLetterWidthRow.holds Try.pinned (OpenSpec.ofChange fnLetterWidthSpec)

/-- ITS FALSE NEIGHBOUR: 'it returns false'. Refute it at one input. -/
def fnLetterWidthWrong : ChangeSpec := { name := "fnLetterWidth", fn := fun _ => fun
  | [d] => { results := [.lit (.bool false)], args := [d] }
  | _ => none }
def FnLetterWidthWrongFalsely : Prop := fnLetterWidthRow.holds Try.pinned (OpenSpec.ofChange fnLetterWidthWrong)

/-- 'laws.FnSignsOf': WHATEVER THE INPUT: true; the input reads as it did. -/
def fnSignsOfSpec : ChangeSpec := { name := "fnSignsOf", fn := fun _ => fun
  | [d] => { results := [.lit (.bool true)], args := [d] }
  | _ => none }
def fnSignsOfRow : OpenClaim := { program := "ytgcbibabmfncmaa", sum := "cdae4ea5cf6a24c2beab6930732a0c1018b32ec4d108c4c12ee60e20b6c66e2d", func := "loop.example/pagebuilder/laws.FnSignsOf", spec := "fnSignsOf", inPlace := ["internal/bytealg.IndexByteString"], apart := false }
def FnSignsOfSaid : Prop := fnSignsOfRow.holds Try.pinned (OpenSpec.ofChange fnSignsOfSpec)

/-- ITS FALSE NEIGHBOUR: 'it returns false'. Refute it at one input. -/
def fnSignsOfWrong : ChangeSpec := { name := "fnSignsOf", fn := fun _ => fun
  | [d] => { results := [.lit (.bool false)], args := [d] }
  | _ => none }
def FnSignsOfWrongFalsely : Prop := fnSignsOfRow.holds Try.pinned (OpenSpec.ofChange fnSignsOfWrong)

/-- 'laws.FnWordWidth': WHATEVER THE INPUT: true; the input reads as it did. -/
def fnWordWidthSpec : ChangeSpec := { name := "fnWordWidth", fn := fun _ => fun
  | [d] => { results := [.lit (.bool true)], args := [d] }
  | _ => none }
def fnWordWidthRow : OpenClaim := { program := "ytgcbibabmfncmaa", sum := "cdae4ea5cf6a24c2beab6930732a0c1018b32ec4d108c4c12ee60e20b6c66e2d", func := "loop.example/pagebuilder/laws.FnWordWidth", spec := "fnWordWidth", inPlace := ["internal/bytealg.IndexByteString"], apart := false }
def FnWordWidthSaid : Prop := fnWordWidthRow.holds Try.pinned (OpenSpec.ofChange fnWordWidthSpec)

/-- ITS FALSE NEIGHBOUR: 'it returns false'. Refute it at one input. -/
def fnWordWidthWrong : ChangeSpec := { name := "fnWordWidth", fn := fun _ => fun
  | [d] => { results := [.lit (.bool false)], args := [d] }
  | _ => none }
def FnWordWidthWrongFalsely : Prop := fnWordWidthRow.holds Try.pinned (OpenSpec.ofChange fnWordWidthWrong)

/-- 'laws.FnWidthParts': WHATEVER THE INPUT: true; the input reads as it did. -/
def fnWidthPartsSpec : ChangeSpec := { name := "fnWidthParts", fn := fun _ => fun
  | [d] => { results := [.lit (.bool true)], args := [d] }
  | _ => none }
def fnWidthPartsRow : OpenClaim := { program := "ytgcbibabmfncmaa", sum := "cdae4ea5cf6a24c2beab6930732a0c1018b32ec4d108c4c12ee60e20b6c66e2d", func := "loop.example/pagebuilder/laws.FnWidthParts", spec := "fnWidthParts", inPlace := ["internal/bytealg.IndexByteString"], apart := false }
def FnWidthPartsSaid : Prop := fnWidthPartsRow.holds Try.pinned (OpenSpec.ofChange fnWidthPartsSpec)

/-- ITS FALSE NEIGHBOUR: 'it returns false'. Refute it at one input. -/
def fnWidthPartsWrong : ChangeSpec := { name := "fnWidthParts", fn := fun _ => fun
  | [d] => { results := [.lit (.bool false)], args := [d] }
  | _ => none }
def FnWidthPartsWrongFalsely : Prop := fnWidthPartsRow.holds Try.pinned (OpenSpec.ofChange fnWidthPartsWrong)

/-- 'laws.FnExactPatternValid': WHATEVER THE INPUT: true; the input reads as it did. -/
def fnExactPatternValidSpec : ChangeSpec := { name := "fnExactPatternValid", fn := fun _ => fun
  | [d] => { results := [.lit (.bool true)], args := [d] }
  | _ => none }
def fnExactPatternValidRow : OpenClaim := { program := "ytgcbibabmfncmaa", sum := "cdae4ea5cf6a24c2beab6930732a0c1018b32ec4d108c4c12ee60e20b6c66e2d", func := "loop.example/pagebuilder/laws.FnExactPatternValid", spec := "fnExactPatternValid", apart := false }
def FnExactPatternValidSaid : Prop := fnExactPatternValidRow.holds Try.pinned (OpenSpec.ofChange fnExactPatternValidSpec)

/-- ITS FALSE NEIGHBOUR: 'it returns false'. Refute it at one input. -/
def fnExactPatternValidWrong : ChangeSpec := { name := "fnExactPatternValid", fn := fun _ => fun
  | [d] => { results := [.lit (.bool false)], args := [d] }
  | _ => none }
def FnExactPatternValidWrongFalsely : Prop := fnExactPatternValidRow.holds Try.pinned (OpenSpec.ofChange fnExactPatternValidWrong)

/-- 'laws.FnExactPatternLetters': WHATEVER THE INPUT: true; the input reads as it did. -/
def fnExactPatternLettersSpec : ChangeSpec := { name := "fnExactPatternLetters", fn := fun _ => fun
  | [d] => { results := [.lit (.bool true)], args := [d] }
  | _ => none }
def fnExactPatternLettersRow : OpenClaim := { program := "ytgcbibabmfncmaa", sum := "cdae4ea5cf6a24c2beab6930732a0c1018b32ec4d108c4c12ee60e20b6c66e2d", func := "loop.example/pagebuilder/laws.FnExactPatternLetters", spec := "fnExactPatternLetters", apart := false }
def FnExactPatternLettersSaid : Prop := fnExactPatternLettersRow.holds Try.pinned (OpenSpec.ofChange fnExactPatternLettersSpec)

/-- ITS FALSE NEIGHBOUR: 'it returns false'. Refute it at one input. -/
def fnExactPatternLettersWrong : ChangeSpec := { name := "fnExactPatternLetters", fn := fun _ => fun
  | [d] => { results := [.lit (.bool false)], args := [d] }
  | _ => none }
def FnExactPatternLettersWrongFalsely : Prop := fnExactPatternLettersRow.holds Try.pinned (OpenSpec.ofChange fnExactPatternLettersWrong)

/-- 'laws.FnExactPatternLevels': WHATEVER THE INPUT: true; the input reads as it did. -/
def fnExactPatternLevelsSpec : ChangeSpec := { name := "fnExactPatternLevels", fn := fun _ => fun
  | [d] => { results := [.lit (.bool true)], args := [d] }
  | _ => none }
def fnExactPatternLevelsRow : OpenClaim := { program := "ytgcbibabmfncmaa", sum := "cdae4ea5cf6a24c2beab6930732a0c1018b32ec4d108c4c12ee60e20b6c66e2d", func := "loop.example/pagebuilder/laws.FnExactPatternLevels", spec := "fnExactPatternLevels", apart := false }
def FnExactPatternLevelsSaid : Prop := fnExactPatternLevelsRow.holds Try.pinned (OpenSpec.ofChange fnExactPatternLevelsSpec)

/-- ITS FALSE NEIGHBOUR: 'it returns false'. Refute it at one input. -/
def fnExactPatternLevelsWrong : ChangeSpec := { name := "fnExactPatternLevels", fn := fun _ => fun
  | [d] => { results := [.lit (.bool false)], args := [d] }
  | _ => none }
def FnExactPatternLevelsWrongFalsely : Prop := fnExactPatternLevelsRow.holds Try.pinned (OpenSpec.ofChange fnExactPatternLevelsWrong)

/-- 'laws.FnExactPatternsValid': WHATEVER THE INPUT: true; the input reads as it did. -/
def fnExactPatternsValidSpec : ChangeSpec := { name := "fnExactPatternsValid", fn := fun _ => fun
  | [d] => { results := [.lit (.bool true)], args := [d] }
  | _ => none }
def fnExactPatternsValidRow : OpenClaim := { program := "ytgcbibabmfncmaa", sum := "cdae4ea5cf6a24c2beab6930732a0c1018b32ec4d108c4c12ee60e20b6c66e2d", func := "loop.example/pagebuilder/laws.FnExactPatternsValid", spec := "fnExactPatternsValid", apart := false }
def FnExactPatternsValidSaid : Prop := fnExactPatternsValidRow.holds Try.pinned (OpenSpec.ofChange fnExactPatternsValidSpec)

/-- ITS FALSE NEIGHBOUR: 'it returns false'. Refute it at one input. -/
def fnExactPatternsValidWrong : ChangeSpec := { name := "fnExactPatternsValid", fn := fun _ => fun
  | [d] => { results := [.lit (.bool false)], args := [d] }
  | _ => none }
def FnExactPatternsValidWrongFalsely : Prop := fnExactPatternsValidRow.holds Try.pinned (OpenSpec.ofChange fnExactPatternsValidWrong)

/-- 'laws.FnExactWordLevels': WHATEVER THE INPUT: true; the input reads as it did. -/
def fnExactWordLevelsSpec : ChangeSpec := { name := "fnExactWordLevels", fn := fun _ => fun
  | [d1, d2] => { results := [.lit (.bool true)], args := [d1, d2] }
  | _ => none }
def fnExactWordLevelsRow : OpenClaim := { program := "ytgcbibabmfncmaa", sum := "cdae4ea5cf6a24c2beab6930732a0c1018b32ec4d108c4c12ee60e20b6c66e2d", func := "loop.example/pagebuilder/laws.FnExactWordLevels", spec := "fnExactWordLevels", apart := false }
def FnExactWordLevelsSaid : Prop := fnExactWordLevelsRow.holds Try.pinned (OpenSpec.ofChange fnExactWordLevelsSpec)

/-- ITS FALSE NEIGHBOUR: 'it returns false'. Refute it at one input. -/
def fnExactWordLevelsWrong : ChangeSpec := { name := "fnExactWordLevels", fn := fun _ => fun
  | [d1, d2] => { results := [.lit (.bool false)], args := [d1, d2] }
  | _ => none }
def FnExactWordLevelsWrongFalsely : Prop := fnExactWordLevelsRow.holds Try.pinned (OpenSpec.ofChange fnExactWordLevelsWrong)

/-- 'laws.FnExactHyphenPlaces': WHATEVER THE INPUT: true; the input reads as it did. -/
def fnExactHyphenPlacesSpec : ChangeSpec := { name := "fnExactHyphenPlaces", fn := fun _ => fun
  | [d1, d2] => { results := [.lit (.bool true)], args := [d1, d2] }
  | _ => none }
def fnExactHyphenPlacesRow : OpenClaim := { program := "ytgcbibabmfncmaa", sum := "cdae4ea5cf6a24c2beab6930732a0c1018b32ec4d108c4c12ee60e20b6c66e2d", func := "loop.example/pagebuilder/laws.FnExactHyphenPlaces", spec := "fnExactHyphenPlaces", apart := false }
def FnExactHyphenPlacesSaid : Prop := fnExactHyphenPlacesRow.holds Try.pinned (OpenSpec.ofChange fnExactHyphenPlacesSpec)

/-- ITS FALSE NEIGHBOUR: 'it returns false'. Refute it at one input. -/
def fnExactHyphenPlacesWrong : ChangeSpec := { name := "fnExactHyphenPlaces", fn := fun _ => fun
  | [d1, d2] => { results := [.lit (.bool false)], args := [d1, d2] }
  | _ => none }
def FnExactHyphenPlacesWrongFalsely : Prop := fnExactHyphenPlacesRow.holds Try.pinned (OpenSpec.ofChange fnExactHyphenPlacesWrong)

/-- 'laws.FnExactHyphenParts': WHATEVER THE INPUT: true; the input reads as it did. -/
def fnExactHyphenPartsSpec : ChangeSpec := { name := "fnExactHyphenParts", fn := fun _ => fun
  | [d1, d2] => { results := [.lit (.bool true)], args := [d1, d2] }
  | _ => none }
def fnExactHyphenPartsRow : OpenClaim := { program := "ytgcbibabmfncmaa", sum := "cdae4ea5cf6a24c2beab6930732a0c1018b32ec4d108c4c12ee60e20b6c66e2d", func := "loop.example/pagebuilder/laws.FnExactHyphenParts", spec := "fnExactHyphenParts", apart := false }
def FnExactHyphenPartsSaid : Prop := fnExactHyphenPartsRow.holds Try.pinned (OpenSpec.ofChange fnExactHyphenPartsSpec)

/-- ITS FALSE NEIGHBOUR: 'it returns false'. Refute it at one input. -/
def fnExactHyphenPartsWrong : ChangeSpec := { name := "fnExactHyphenParts", fn := fun _ => fun
  | [d1, d2] => { results := [.lit (.bool false)], args := [d1, d2] }
  | _ => none }
def FnExactHyphenPartsWrongFalsely : Prop := fnExactHyphenPartsRow.holds Try.pinned (OpenSpec.ofChange fnExactHyphenPartsWrong)

/-- 'laws.FnPatternValid': WHATEVER THE INPUT: true; the input reads as it did. -/
def fnPatternValidSpec : ChangeSpec := { name := "fnPatternValid", fn := fun _ => fun
  | [d] => { results := [.lit (.bool true)], args := [d] }
  | _ => none }
def fnPatternValidRow : OpenClaim := { program := "ytgcbibabmfncmaa", sum := "cdae4ea5cf6a24c2beab6930732a0c1018b32ec4d108c4c12ee60e20b6c66e2d", func := "loop.example/pagebuilder/laws.FnPatternValid", spec := "fnPatternValid", apart := false }
def FnPatternValidSaid : Prop := fnPatternValidRow.holds Try.pinned (OpenSpec.ofChange fnPatternValidSpec)

/-- ITS FALSE NEIGHBOUR: 'it returns false'. Refute it at one input. -/
def fnPatternValidWrong : ChangeSpec := { name := "fnPatternValid", fn := fun _ => fun
  | [d] => { results := [.lit (.bool false)], args := [d] }
  | _ => none }
def FnPatternValidWrongFalsely : Prop := fnPatternValidRow.holds Try.pinned (OpenSpec.ofChange fnPatternValidWrong)

/-- 'laws.FnPatternLetters': WHATEVER THE INPUT: true; the input reads as it did. -/
def fnPatternLettersSpec : ChangeSpec := { name := "fnPatternLetters", fn := fun _ => fun
  | [d] => { results := [.lit (.bool true)], args := [d] }
  | _ => none }
def fnPatternLettersRow : OpenClaim := { program := "ytgcbibabmfncmaa", sum := "cdae4ea5cf6a24c2beab6930732a0c1018b32ec4d108c4c12ee60e20b6c66e2d", func := "loop.example/pagebuilder/laws.FnPatternLetters", spec := "fnPatternLetters", apart := false }
def FnPatternLettersSaid : Prop := fnPatternLettersRow.holds Try.pinned (OpenSpec.ofChange fnPatternLettersSpec)

/-- ITS FALSE NEIGHBOUR: 'it returns false'. Refute it at one input. -/
def fnPatternLettersWrong : ChangeSpec := { name := "fnPatternLetters", fn := fun _ => fun
  | [d] => { results := [.lit (.bool false)], args := [d] }
  | _ => none }
def FnPatternLettersWrongFalsely : Prop := fnPatternLettersRow.holds Try.pinned (OpenSpec.ofChange fnPatternLettersWrong)

/-- 'laws.FnPatternLevels': WHATEVER THE INPUT: true; the input reads as it did. -/
def fnPatternLevelsSpec : ChangeSpec := { name := "fnPatternLevels", fn := fun _ => fun
  | [d] => { results := [.lit (.bool true)], args := [d] }
  | _ => none }
def fnPatternLevelsRow : OpenClaim := { program := "ytgcbibabmfncmaa", sum := "cdae4ea5cf6a24c2beab6930732a0c1018b32ec4d108c4c12ee60e20b6c66e2d", func := "loop.example/pagebuilder/laws.FnPatternLevels", spec := "fnPatternLevels", apart := false }
def FnPatternLevelsSaid : Prop := fnPatternLevelsRow.holds Try.pinned (OpenSpec.ofChange fnPatternLevelsSpec)

/-- ITS FALSE NEIGHBOUR: 'it returns false'. Refute it at one input. -/
def fnPatternLevelsWrong : ChangeSpec := { name := "fnPatternLevels", fn := fun _ => fun
  | [d] => { results := [.lit (.bool false)], args := [d] }
  | _ => none }
def FnPatternLevelsWrongFalsely : Prop := fnPatternLevelsRow.holds Try.pinned (OpenSpec.ofChange fnPatternLevelsWrong)

/-- 'laws.FnPatternsValid': WHATEVER THE INPUT: true; the input reads as it did. -/
def fnPatternsValidSpec : ChangeSpec := { name := "fnPatternsValid", fn := fun _ => fun
  | [d] => { results := [.lit (.bool true)], args := [d] }
  | _ => none }
def fnPatternsValidRow : OpenClaim := { program := "ytgcbibabmfncmaa", sum := "cdae4ea5cf6a24c2beab6930732a0c1018b32ec4d108c4c12ee60e20b6c66e2d", func := "loop.example/pagebuilder/laws.FnPatternsValid", spec := "fnPatternsValid", apart := false }
def FnPatternsValidSaid : Prop := fnPatternsValidRow.holds Try.pinned (OpenSpec.ofChange fnPatternsValidSpec)

/-- ITS FALSE NEIGHBOUR: 'it returns false'. Refute it at one input. -/
def fnPatternsValidWrong : ChangeSpec := { name := "fnPatternsValid", fn := fun _ => fun
  | [d] => { results := [.lit (.bool false)], args := [d] }
  | _ => none }
def FnPatternsValidWrongFalsely : Prop := fnPatternsValidRow.holds Try.pinned (OpenSpec.ofChange fnPatternsValidWrong)

/-- 'laws.FnPatternOrder': WHATEVER THE INPUT: true; the input reads as it did. -/
def fnPatternOrderSpec : ChangeSpec := { name := "fnPatternOrder", fn := fun _ => fun
  | [d] => { results := [.lit (.bool true)], args := [d] }
  | _ => none }
def fnPatternOrderRow : OpenClaim := { program := "ytgcbibabmfncmaa", sum := "cdae4ea5cf6a24c2beab6930732a0c1018b32ec4d108c4c12ee60e20b6c66e2d", func := "loop.example/pagebuilder/laws.FnPatternOrder", spec := "fnPatternOrder", apart := false }
def FnPatternOrderSaid : Prop := fnPatternOrderRow.holds Try.pinned (OpenSpec.ofChange fnPatternOrderSpec)

/-- ITS FALSE NEIGHBOUR: 'it returns false'. Refute it at one input. -/
def fnPatternOrderWrong : ChangeSpec := { name := "fnPatternOrder", fn := fun _ => fun
  | [d] => { results := [.lit (.bool false)], args := [d] }
  | _ => none }
def FnPatternOrderWrongFalsely : Prop := fnPatternOrderRow.holds Try.pinned (OpenSpec.ofChange fnPatternOrderWrong)

/-- 'laws.FnWordLevels': WHATEVER THE INPUT: true; the input reads as it did. -/
def fnWordLevelsSpec : ChangeSpec := { name := "fnWordLevels", fn := fun _ => fun
  | [d] => { results := [.lit (.bool true)], args := [d] }
  | _ => none }
def fnWordLevelsRow : OpenClaim := { program := "ytgcbibabmfncmaa", sum := "cdae4ea5cf6a24c2beab6930732a0c1018b32ec4d108c4c12ee60e20b6c66e2d", func := "loop.example/pagebuilder/laws.FnWordLevels", spec := "fnWordLevels", apart := false }
def FnWordLevelsSaid : Prop := fnWordLevelsRow.holds Try.pinned (OpenSpec.ofChange fnWordLevelsSpec)

/-- ITS FALSE NEIGHBOUR: 'it returns false'. Refute it at one input. -/
def fnWordLevelsWrong : ChangeSpec := { name := "fnWordLevels", fn := fun _ => fun
  | [d] => { results := [.lit (.bool false)], args := [d] }
  | _ => none }
def FnWordLevelsWrongFalsely : Prop := fnWordLevelsRow.holds Try.pinned (OpenSpec.ofChange fnWordLevelsWrong)

/-- 'laws.FnHyphenPlaces': WHATEVER THE INPUT: true; the input reads as it did. -/
def fnHyphenPlacesSpec : ChangeSpec := { name := "fnHyphenPlaces", fn := fun _ => fun
  | [d] => { results := [.lit (.bool true)], args := [d] }
  | _ => none }
def fnHyphenPlacesRow : OpenClaim := { program := "ytgcbibabmfncmaa", sum := "cdae4ea5cf6a24c2beab6930732a0c1018b32ec4d108c4c12ee60e20b6c66e2d", func := "loop.example/pagebuilder/laws.FnHyphenPlaces", spec := "fnHyphenPlaces", apart := false }
def FnHyphenPlacesSaid : Prop := fnHyphenPlacesRow.holds Try.pinned (OpenSpec.ofChange fnHyphenPlacesSpec)

/-- ITS FALSE NEIGHBOUR: 'it returns false'. Refute it at one input. -/
def fnHyphenPlacesWrong : ChangeSpec := { name := "fnHyphenPlaces", fn := fun _ => fun
  | [d] => { results := [.lit (.bool false)], args := [d] }
  | _ => none }
def FnHyphenPlacesWrongFalsely : Prop := fnHyphenPlacesRow.holds Try.pinned (OpenSpec.ofChange fnHyphenPlacesWrong)

/-- 'laws.FnHyphenParts': WHATEVER THE INPUT: true; the input reads as it did. -/
def fnHyphenPartsSpec : ChangeSpec := { name := "fnHyphenParts", fn := fun _ => fun
  | [d] => { results := [.lit (.bool true)], args := [d] }
  | _ => none }
def fnHyphenPartsRow : OpenClaim := { program := "ytgcbibabmfncmaa", sum := "cdae4ea5cf6a24c2beab6930732a0c1018b32ec4d108c4c12ee60e20b6c66e2d", func := "loop.example/pagebuilder/laws.FnHyphenParts", spec := "fnHyphenParts", apart := false }
def FnHyphenPartsSaid : Prop := fnHyphenPartsRow.holds Try.pinned (OpenSpec.ofChange fnHyphenPartsSpec)

/-- ITS FALSE NEIGHBOUR: 'it returns false'. Refute it at one input. -/
def fnHyphenPartsWrong : ChangeSpec := { name := "fnHyphenParts", fn := fun _ => fun
  | [d] => { results := [.lit (.bool false)], args := [d] }
  | _ => none }
def FnHyphenPartsWrongFalsely : Prop := fnHyphenPartsRow.holds Try.pinned (OpenSpec.ofChange fnHyphenPartsWrong)

/- THE SECOND FORM. 'bulk': how many values and letters a reading holds, each counted each time it is reached (what is shared counts as often as it is met; a slice's spare places count too). A statement '..UptoSaid' is the law's where the arguments, and the package variables that the reading takes, are together of bulk at most 1048576: NARROWER than '..Said'. Prove '..Said' where nothing that the law and all that it calls make is longer than what came in: it says more and counts as full. Else prove '..UptoSaid'. A law counts once. -/
mutual
def uptoBulk {H : Type} : DataW H → Nat
  | .lit (.string bytes) => bytes.length + 1
  | .lit _ => 1
  | .nil => 1
  | .ptr d => uptoBulk d + 1
  | .slice elems spare => uptoBulkAll elems + uptoBulkAll spare + 1
  | .agg parts => uptoBulkAll parts + 1
  | .iface _ d => uptoBulk d + 1
  | .map entries => uptoBulkEntries entries + 1
  | .held _ => 1
def uptoBulkAll {H : Type} : List (DataW H) → Nat
  | [] => 0
  | d :: r => uptoBulk d + uptoBulkAll r
def uptoBulkEntries {H : Type} : List (Lit × DataW H) → Nat
  | [] => 0
  | x :: r => uptoBulkEntry x + uptoBulkEntries r
def uptoBulkEntry {H : Type} : Lit × DataW H → Nat
  | (.string bytes, d) => bytes.length + uptoBulk d + 1
  | (_, d) => uptoBulk d + 1
 end
def uptoSmall : (H : Type) → List (DataW H) → Bool := fun _ ds => decide (uptoBulkAll ds ≤ 1048576)
def OpenSpec.upto (s : _root_.Go.ChangeSpec) : _root_.Go.OpenSpec := { _root_.Go.OpenSpec.ofChange s with cond := some uptoSmall }

/-- 'laws.FnExactJoinsWith', WHERE WHAT IT READS IS OF BULK AT MOST 1048576: true; the input reads as it did. -/
def fnExactJoinsWithUptoRow : OpenClaim := { program := "ytgcbibabmfncmaa", sum := "cdae4ea5cf6a24c2beab6930732a0c1018b32ec4d108c4c12ee60e20b6c66e2d", func := "loop.example/pagebuilder/laws.FnExactJoinsWith", spec := "fnExactJoinsWith", inPlace := ["internal/bytealg.IndexByteString"], apart := false, narrowed := true }
def FnExactJoinsWithUptoSaid : Prop := fnExactJoinsWithUptoRow.holds Try.pinned (OpenSpec.upto fnExactJoinsWithSpec)

/-- 'laws.FnExactNearBy', WHERE WHAT IT READS IS OF BULK AT MOST 1048576: true; the input reads as it did. -/
def fnExactNearByUptoRow : OpenClaim := { program := "ytgcbibabmfncmaa", sum := "cdae4ea5cf6a24c2beab6930732a0c1018b32ec4d108c4c12ee60e20b6c66e2d", func := "loop.example/pagebuilder/laws.FnExactNearBy", spec := "fnExactNearBy", inPlace := ["internal/bytealg.IndexByteString"], apart := false, narrowed := true }
def FnExactNearByUptoSaid : Prop := fnExactNearByUptoRow.holds Try.pinned (OpenSpec.upto fnExactNearBySpec)

/-- 'laws.FnExactWordValid', WHERE WHAT IT READS IS OF BULK AT MOST 1048576: true; the input reads as it did. -/
def fnExactWordValidUptoRow : OpenClaim := { program := "ytgcbibabmfncmaa", sum := "cdae4ea5cf6a24c2beab6930732a0c1018b32ec4d108c4c12ee60e20b6c66e2d", func := "loop.example/pagebuilder/laws.FnExactWordValid", spec := "fnExactWordValid", apart := false, narrowed := true }
def FnExactWordValidUptoSaid : Prop := fnExactWordValidUptoRow.holds Try.pinned (OpenSpec.upto fnExactWordValidSpec)

/-- 'laws.FnExactLetterWidth', WHERE WHAT IT READS IS OF BULK AT MOST 1048576: true; the input reads as it did. -/
def fnExactLetterWidthUptoRow : OpenClaim := { program := "ytgcbibabmfncmaa", sum := "cdae4ea5cf6a24c2beab6930732a0c1018b32ec4d108c4c12ee60e20b6c66e2d", func := "loop.example/pagebuilder/laws.FnExactLetterWidth", spec := "fnExactLetterWidth", inPlace := ["internal/bytealg.IndexByteString"], apart := false, narrowed := true }
def FnExactLetterWidthUptoSaid : Prop := fnExactLetterWidthUptoRow.holds Try.pinned (OpenSpec.upto fnExactLetterWidthSpec)

/-- 'laws.FnExactSignsOf', WHERE WHAT IT READS IS OF BULK AT MOST 1048576: true; the input reads as it did. -/
def fnExactSignsOfUptoRow : OpenClaim := { program := "ytgcbibabmfncmaa", sum := "cdae4ea5cf6a24c2beab6930732a0c1018b32ec4d108c4c12ee60e20b6c66e2d", func := "loop.example/pagebuilder/laws.FnExactSignsOf", spec := "fnExactSignsOf", inPlace := ["internal/bytealg.IndexByteString"], apart := false, narrowed := true }
def FnExactSignsOfUptoSaid : Prop := fnExactSignsOfUptoRow.holds Try.pinned (OpenSpec.upto fnExactSignsOfSpec)

/-- 'laws.FnExactWordWidth', WHERE WHAT IT READS IS OF BULK AT MOST 1048576: true; the input reads as it did. -/
def fnExactWordWidthUptoRow : OpenClaim := { program := "ytgcbibabmfncmaa", sum := "cdae4ea5cf6a24c2beab6930732a0c1018b32ec4d108c4c12ee60e20b6c66e2d", func := "loop.example/pagebuilder/laws.FnExactWordWidth", spec := "fnExactWordWidth", inPlace := ["internal/bytealg.IndexByteString"], apart := false, narrowed := true }
def FnExactWordWidthUptoSaid : Prop := fnExactWordWidthUptoRow.holds Try.pinned (OpenSpec.upto fnExactWordWidthSpec)

/-- 'laws.FnJoinsWith', WHERE WHAT IT READS IS OF BULK AT MOST 1048576: true; the input reads as it did. -/
def fnJoinsWithUptoRow : OpenClaim := { program := "ytgcbibabmfncmaa", sum := "cdae4ea5cf6a24c2beab6930732a0c1018b32ec4d108c4c12ee60e20b6c66e2d", func := "loop.example/pagebuilder/laws.FnJoinsWith", spec := "fnJoinsWith", inPlace := ["internal/bytealg.IndexByteString"], apart := false, narrowed := true }
def FnJoinsWithUptoSaid : Prop := fnJoinsWithUptoRow.holds Try.pinned (OpenSpec.upto fnJoinsWithSpec)

/-- 'laws.FnNearBy', WHERE WHAT IT READS IS OF BULK AT MOST 1048576: true; the input reads as it did. -/
def fnNearByUptoRow : OpenClaim := { program := "ytgcbibabmfncmaa", sum := "cdae4ea5cf6a24c2beab6930732a0c1018b32ec4d108c4c12ee60e20b6c66e2d", func := "loop.example/pagebuilder/laws.FnNearBy", spec := "fnNearBy", inPlace := ["internal/bytealg.IndexByteString"], apart := false, narrowed := true }
def FnNearByUptoSaid : Prop := fnNearByUptoRow.holds Try.pinned (OpenSpec.upto fnNearBySpec)

/-- 'laws.FnWordValid', WHERE WHAT IT READS IS OF BULK AT MOST 1048576: true; the input reads as it did. -/
def fnWordValidUptoRow : OpenClaim := { program := "ytgcbibabmfncmaa", sum := "cdae4ea5cf6a24c2beab6930732a0c1018b32ec4d108c4c12ee60e20b6c66e2d", func := "loop.example/pagebuilder/laws.FnWordValid", spec := "fnWordValid", apart := false, narrowed := true }
def FnWordValidUptoSaid : Prop := fnWordValidUptoRow.holds Try.pinned (OpenSpec.upto fnWordValidSpec)

/-- 'laws.FnLetterWidth', WHERE WHAT IT READS IS OF BULK AT MOST 1048576: true; the input reads as it did. -/
def fnLetterWidthUptoRow : OpenClaim := { program := "ytgcbibabmfncmaa", sum := "cdae4ea5cf6a24c2beab6930732a0c1018b32ec4d108c4c12ee60e20b6c66e2d", func := "loop.example/pagebuilder/laws.FnLetterWidth", spec := "fnLetterWidth", inPlace := ["internal/bytealg.IndexByteString"], apart := false, narrowed := true }
def FnLetterWidthUptoSaid : Prop := fnLetterWidthUptoRow.holds Try.pinned (OpenSpec.upto fnLetterWidthSpec)

/-- 'laws.FnSignsOf', WHERE WHAT IT READS IS OF BULK AT MOST 1048576: true; the input reads as it did. -/
def fnSignsOfUptoRow : OpenClaim := { program := "ytgcbibabmfncmaa", sum := "cdae4ea5cf6a24c2beab6930732a0c1018b32ec4d108c4c12ee60e20b6c66e2d", func := "loop.example/pagebuilder/laws.FnSignsOf", spec := "fnSignsOf", inPlace := ["internal/bytealg.IndexByteString"], apart := false, narrowed := true }
def FnSignsOfUptoSaid : Prop := fnSignsOfUptoRow.holds Try.pinned (OpenSpec.upto fnSignsOfSpec)

/-- 'laws.FnWordWidth', WHERE WHAT IT READS IS OF BULK AT MOST 1048576: true; the input reads as it did. -/
def fnWordWidthUptoRow : OpenClaim := { program := "ytgcbibabmfncmaa", sum := "cdae4ea5cf6a24c2beab6930732a0c1018b32ec4d108c4c12ee60e20b6c66e2d", func := "loop.example/pagebuilder/laws.FnWordWidth", spec := "fnWordWidth", inPlace := ["internal/bytealg.IndexByteString"], apart := false, narrowed := true }
def FnWordWidthUptoSaid : Prop := fnWordWidthUptoRow.holds Try.pinned (OpenSpec.upto fnWordWidthSpec)

/-- 'laws.FnWidthParts', WHERE WHAT IT READS IS OF BULK AT MOST 1048576: true; the input reads as it did. -/
def fnWidthPartsUptoRow : OpenClaim := { program := "ytgcbibabmfncmaa", sum := "cdae4ea5cf6a24c2beab6930732a0c1018b32ec4d108c4c12ee60e20b6c66e2d", func := "loop.example/pagebuilder/laws.FnWidthParts", spec := "fnWidthParts", inPlace := ["internal/bytealg.IndexByteString"], apart := false, narrowed := true }
def FnWidthPartsUptoSaid : Prop := fnWidthPartsUptoRow.holds Try.pinned (OpenSpec.upto fnWidthPartsSpec)

/-- 'laws.FnExactPatternValid', WHERE WHAT IT READS IS OF BULK AT MOST 1048576: true; the input reads as it did. -/
def fnExactPatternValidUptoRow : OpenClaim := { program := "ytgcbibabmfncmaa", sum := "cdae4ea5cf6a24c2beab6930732a0c1018b32ec4d108c4c12ee60e20b6c66e2d", func := "loop.example/pagebuilder/laws.FnExactPatternValid", spec := "fnExactPatternValid", apart := false, narrowed := true }
def FnExactPatternValidUptoSaid : Prop := fnExactPatternValidUptoRow.holds Try.pinned (OpenSpec.upto fnExactPatternValidSpec)

/-- 'laws.FnExactPatternLetters', WHERE WHAT IT READS IS OF BULK AT MOST 1048576: true; the input reads as it did. -/
def fnExactPatternLettersUptoRow : OpenClaim := { program := "ytgcbibabmfncmaa", sum := "cdae4ea5cf6a24c2beab6930732a0c1018b32ec4d108c4c12ee60e20b6c66e2d", func := "loop.example/pagebuilder/laws.FnExactPatternLetters", spec := "fnExactPatternLetters", apart := false, narrowed := true }
def FnExactPatternLettersUptoSaid : Prop := fnExactPatternLettersUptoRow.holds Try.pinned (OpenSpec.upto fnExactPatternLettersSpec)

/-- 'laws.FnExactPatternLevels', WHERE WHAT IT READS IS OF BULK AT MOST 1048576: true; the input reads as it did. -/
def fnExactPatternLevelsUptoRow : OpenClaim := { program := "ytgcbibabmfncmaa", sum := "cdae4ea5cf6a24c2beab6930732a0c1018b32ec4d108c4c12ee60e20b6c66e2d", func := "loop.example/pagebuilder/laws.FnExactPatternLevels", spec := "fnExactPatternLevels", apart := false, narrowed := true }
def FnExactPatternLevelsUptoSaid : Prop := fnExactPatternLevelsUptoRow.holds Try.pinned (OpenSpec.upto fnExactPatternLevelsSpec)

/-- 'laws.FnExactPatternsValid', WHERE WHAT IT READS IS OF BULK AT MOST 1048576: true; the input reads as it did. -/
def fnExactPatternsValidUptoRow : OpenClaim := { program := "ytgcbibabmfncmaa", sum := "cdae4ea5cf6a24c2beab6930732a0c1018b32ec4d108c4c12ee60e20b6c66e2d", func := "loop.example/pagebuilder/laws.FnExactPatternsValid", spec := "fnExactPatternsValid", apart := false, narrowed := true }
def FnExactPatternsValidUptoSaid : Prop := fnExactPatternsValidUptoRow.holds Try.pinned (OpenSpec.upto fnExactPatternsValidSpec)

/-- 'laws.FnExactWordLevels', WHERE WHAT IT READS IS OF BULK AT MOST 1048576: true; the input reads as it did. -/
def fnExactWordLevelsUptoRow : OpenClaim := { program := "ytgcbibabmfncmaa", sum := "cdae4ea5cf6a24c2beab6930732a0c1018b32ec4d108c4c12ee60e20b6c66e2d", func := "loop.example/pagebuilder/laws.FnExactWordLevels", spec := "fnExactWordLevels", apart := false, narrowed := true }
def FnExactWordLevelsUptoSaid : Prop := fnExactWordLevelsUptoRow.holds Try.pinned (OpenSpec.upto fnExactWordLevelsSpec)

/-- 'laws.FnExactHyphenPlaces', WHERE WHAT IT READS IS OF BULK AT MOST 1048576: true; the input reads as it did. -/
def fnExactHyphenPlacesUptoRow : OpenClaim := { program := "ytgcbibabmfncmaa", sum := "cdae4ea5cf6a24c2beab6930732a0c1018b32ec4d108c4c12ee60e20b6c66e2d", func := "loop.example/pagebuilder/laws.FnExactHyphenPlaces", spec := "fnExactHyphenPlaces", apart := false, narrowed := true }
def FnExactHyphenPlacesUptoSaid : Prop := fnExactHyphenPlacesUptoRow.holds Try.pinned (OpenSpec.upto fnExactHyphenPlacesSpec)

/-- 'laws.FnExactHyphenParts', WHERE WHAT IT READS IS OF BULK AT MOST 1048576: true; the input reads as it did. -/
def fnExactHyphenPartsUptoRow : OpenClaim := { program := "ytgcbibabmfncmaa", sum := "cdae4ea5cf6a24c2beab6930732a0c1018b32ec4d108c4c12ee60e20b6c66e2d", func := "loop.example/pagebuilder/laws.FnExactHyphenParts", spec := "fnExactHyphenParts", apart := false, narrowed := true }
def FnExactHyphenPartsUptoSaid : Prop := fnExactHyphenPartsUptoRow.holds Try.pinned (OpenSpec.upto fnExactHyphenPartsSpec)

/-- 'laws.FnPatternValid', WHERE WHAT IT READS IS OF BULK AT MOST 1048576: true; the input reads as it did. -/
def fnPatternValidUptoRow : OpenClaim := { program := "ytgcbibabmfncmaa", sum := "cdae4ea5cf6a24c2beab6930732a0c1018b32ec4d108c4c12ee60e20b6c66e2d", func := "loop.example/pagebuilder/laws.FnPatternValid", spec := "fnPatternValid", apart := false, narrowed := true }
def FnPatternValidUptoSaid : Prop := fnPatternValidUptoRow.holds Try.pinned (OpenSpec.upto fnPatternValidSpec)

/-- 'laws.FnPatternLetters', WHERE WHAT IT READS IS OF BULK AT MOST 1048576: true; the input reads as it did. -/
def fnPatternLettersUptoRow : OpenClaim := { program := "ytgcbibabmfncmaa", sum := "cdae4ea5cf6a24c2beab6930732a0c1018b32ec4d108c4c12ee60e20b6c66e2d", func := "loop.example/pagebuilder/laws.FnPatternLetters", spec := "fnPatternLetters", apart := false, narrowed := true }
def FnPatternLettersUptoSaid : Prop := fnPatternLettersUptoRow.holds Try.pinned (OpenSpec.upto fnPatternLettersSpec)

/-- 'laws.FnPatternLevels', WHERE WHAT IT READS IS OF BULK AT MOST 1048576: true; the input reads as it did. -/
def fnPatternLevelsUptoRow : OpenClaim := { program := "ytgcbibabmfncmaa", sum := "cdae4ea5cf6a24c2beab6930732a0c1018b32ec4d108c4c12ee60e20b6c66e2d", func := "loop.example/pagebuilder/laws.FnPatternLevels", spec := "fnPatternLevels", apart := false, narrowed := true }
def FnPatternLevelsUptoSaid : Prop := fnPatternLevelsUptoRow.holds Try.pinned (OpenSpec.upto fnPatternLevelsSpec)

/-- 'laws.FnPatternsValid', WHERE WHAT IT READS IS OF BULK AT MOST 1048576: true; the input reads as it did. -/
def fnPatternsValidUptoRow : OpenClaim := { program := "ytgcbibabmfncmaa", sum := "cdae4ea5cf6a24c2beab6930732a0c1018b32ec4d108c4c12ee60e20b6c66e2d", func := "loop.example/pagebuilder/laws.FnPatternsValid", spec := "fnPatternsValid", apart := false, narrowed := true }
def FnPatternsValidUptoSaid : Prop := fnPatternsValidUptoRow.holds Try.pinned (OpenSpec.upto fnPatternsValidSpec)

/-- 'laws.FnPatternOrder', WHERE WHAT IT READS IS OF BULK AT MOST 1048576: true; the input reads as it did. -/
def fnPatternOrderUptoRow : OpenClaim := { program := "ytgcbibabmfncmaa", sum := "cdae4ea5cf6a24c2beab6930732a0c1018b32ec4d108c4c12ee60e20b6c66e2d", func := "loop.example/pagebuilder/laws.FnPatternOrder", spec := "fnPatternOrder", apart := false, narrowed := true }
def FnPatternOrderUptoSaid : Prop := fnPatternOrderUptoRow.holds Try.pinned (OpenSpec.upto fnPatternOrderSpec)

/-- 'laws.FnWordLevels', WHERE WHAT IT READS IS OF BULK AT MOST 1048576: true; the input reads as it did. -/
def fnWordLevelsUptoRow : OpenClaim := { program := "ytgcbibabmfncmaa", sum := "cdae4ea5cf6a24c2beab6930732a0c1018b32ec4d108c4c12ee60e20b6c66e2d", func := "loop.example/pagebuilder/laws.FnWordLevels", spec := "fnWordLevels", apart := false, narrowed := true }
def FnWordLevelsUptoSaid : Prop := fnWordLevelsUptoRow.holds Try.pinned (OpenSpec.upto fnWordLevelsSpec)

/-- 'laws.FnHyphenPlaces', WHERE WHAT IT READS IS OF BULK AT MOST 1048576: true; the input reads as it did. -/
def fnHyphenPlacesUptoRow : OpenClaim := { program := "ytgcbibabmfncmaa", sum := "cdae4ea5cf6a24c2beab6930732a0c1018b32ec4d108c4c12ee60e20b6c66e2d", func := "loop.example/pagebuilder/laws.FnHyphenPlaces", spec := "fnHyphenPlaces", apart := false, narrowed := true }
def FnHyphenPlacesUptoSaid : Prop := fnHyphenPlacesUptoRow.holds Try.pinned (OpenSpec.upto fnHyphenPlacesSpec)

/-- 'laws.FnHyphenParts', WHERE WHAT IT READS IS OF BULK AT MOST 1048576: true; the input reads as it did. -/
def fnHyphenPartsUptoRow : OpenClaim := { program := "ytgcbibabmfncmaa", sum := "cdae4ea5cf6a24c2beab6930732a0c1018b32ec4d108c4c12ee60e20b6c66e2d", func := "loop.example/pagebuilder/laws.FnHyphenParts", spec := "fnHyphenParts", apart := false, narrowed := true }
def FnHyphenPartsUptoSaid : Prop := fnHyphenPartsUptoRow.holds Try.pinned (OpenSpec.upto fnHyphenPartsSpec)

end Rows
end Go.Proofs.Ytgcbibabmfncmaa
