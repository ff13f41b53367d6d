/- Facts on the head of the program that every row asks: which make it is, that it may be entered. The head's line is read as a list of signs once (the numbers are its signs), so that nothing great is reckoned. No condition. -/
import Derived.Test.YtfhhfibjjpiccaaBase
import Derived.JoinedOf
namespace Go.Proofs.Ytfhhfibjjpiccaa
open Go.ChangeShapes Go.WideShapes Go.ChangeAt Go.RowKit
set_option linter.unusedVariables false
set_option linter.unusedSimpArgs false

def signs0 : List Char := [Char.ofNat 104, Char.ofNat 97, Char.ofNat 114, Char.ofNat 110, Char.ofNat 101, Char.ofNat 115, Char.ofNat 115]
def signs1 : List Char := [Char.ofNat 101, Char.ofNat 52, Char.ofNat 57, Char.ofNat 98, Char.ofNat 102, Char.ofNat 56, Char.ofNat 100, Char.ofNat 48, Char.ofNat 51, Char.ofNat 55, Char.ofNat 102, Char.ofNat 98, Char.ofNat 50, Char.ofNat 54, Char.ofNat 56, Char.ofNat 97, Char.ofNat 50, Char.ofNat 56, Char.ofNat 53, Char.ofNat 102,
  Char.ofNat 56, Char.ofNat 53, Char.ofNat 57, Char.ofNat 99, Char.ofNat 100, Char.ofNat 51, Char.ofNat 54, Char.ofNat 50, Char.ofNat 54, Char.ofNat 55, Char.ofNat 54, Char.ofNat 48, Char.ofNat 51, Char.ofNat 97, Char.ofNat 97, Char.ofNat 53, Char.ofNat 50, Char.ofNat 51, Char.ofNat 57, Char.ofNat 52,
  Char.ofNat 49, Char.ofNat 54, Char.ofNat 102, Char.ofNat 56, Char.ofNat 101, Char.ofNat 53, Char.ofNat 101, Char.ofNat 49, Char.ofNat 54, Char.ofNat 101, Char.ofNat 97, Char.ofNat 53, Char.ofNat 56, Char.ofNat 55, Char.ofNat 50, Char.ofNat 102, Char.ofNat 99, Char.ofNat 49, Char.ofNat 100, Char.ofNat 50,
  Char.ofNat 98, Char.ofNat 54, Char.ofNat 50, Char.ofNat 55]
def signs2 : List Char := [Char.ofNat 99, Char.ofNat 117, Char.ofNat 116]
def signs3 : List Char := [Char.ofNat 97, Char.ofNat 116, Char.ofNat 32, Char.ofNat 108, Char.ofNat 111, Char.ofNat 111, Char.ofNat 112, Char.ofNat 46, Char.ofNat 101, Char.ofNat 120, Char.ofNat 97, Char.ofNat 109, Char.ofNat 112, Char.ofNat 108, Char.ofNat 101, Char.ofNat 47, Char.ofNat 112, Char.ofNat 97, Char.ofNat 103, Char.ofNat 101,
  Char.ofNat 98, Char.ofNat 117, Char.ofNat 105, Char.ofNat 108, Char.ofNat 100, Char.ofNat 101, Char.ofNat 114, Char.ofNat 47, Char.ofNat 108, Char.ofNat 97, Char.ofNat 119, Char.ofNat 115, Char.ofNat 46, Char.ofNat 70, Char.ofNat 110, Char.ofNat 74, Char.ofNat 111, Char.ofNat 105, Char.ofNat 110, Char.ofNat 115,
  Char.ofNat 87, Char.ofNat 105, Char.ofNat 116, Char.ofNat 104, Char.ofNat 32, Char.ofNat 108, Char.ofNat 111, Char.ofNat 111, Char.ofNat 112, Char.ofNat 46, Char.ofNat 101, Char.ofNat 120, Char.ofNat 97, Char.ofNat 109, Char.ofNat 112, Char.ofNat 108, Char.ofNat 101, Char.ofNat 47, Char.ofNat 112, Char.ofNat 97,
  Char.ofNat 103, Char.ofNat 101, Char.ofNat 98, Char.ofNat 117, Char.ofNat 105, Char.ofNat 108, Char.ofNat 100, Char.ofNat 101, Char.ofNat 114, Char.ofNat 47, Char.ofNat 108, Char.ofNat 97, Char.ofNat 119, Char.ofNat 115, Char.ofNat 46, Char.ofNat 70, Char.ofNat 110, Char.ofNat 78, Char.ofNat 101, Char.ofNat 97,
  Char.ofNat 114, Char.ofNat 66, Char.ofNat 121, Char.ofNat 32, Char.ofNat 108, Char.ofNat 111, Char.ofNat 111, Char.ofNat 112, Char.ofNat 46, Char.ofNat 101, Char.ofNat 120, Char.ofNat 97, Char.ofNat 109, Char.ofNat 112, Char.ofNat 108, Char.ofNat 101, Char.ofNat 47, Char.ofNat 112, Char.ofNat 97, Char.ofNat 103,
  Char.ofNat 101, Char.ofNat 98, Char.ofNat 117, Char.ofNat 105, Char.ofNat 108, Char.ofNat 100, Char.ofNat 101, Char.ofNat 114, Char.ofNat 47, Char.ofNat 108, Char.ofNat 97, Char.ofNat 119, Char.ofNat 115, Char.ofNat 46, Char.ofNat 70, Char.ofNat 110, Char.ofNat 76, Char.ofNat 101, Char.ofNat 116, Char.ofNat 116,
  Char.ofNat 101, Char.ofNat 114, Char.ofNat 87, Char.ofNat 105, Char.ofNat 100, Char.ofNat 116, Char.ofNat 104, Char.ofNat 32, Char.ofNat 108, Char.ofNat 111, Char.ofNat 111, Char.ofNat 112, Char.ofNat 46, Char.ofNat 101, Char.ofNat 120, Char.ofNat 97, Char.ofNat 109, Char.ofNat 112, Char.ofNat 108, Char.ofNat 101,
  Char.ofNat 47, Char.ofNat 112, Char.ofNat 97, Char.ofNat 103, Char.ofNat 101, Char.ofNat 98, Char.ofNat 117, Char.ofNat 105, Char.ofNat 108, Char.ofNat 100, Char.ofNat 101, Char.ofNat 114, Char.ofNat 47, Char.ofNat 108, Char.ofNat 97, Char.ofNat 119, Char.ofNat 115, Char.ofNat 46, Char.ofNat 70, Char.ofNat 110,
  Char.ofNat 87, Char.ofNat 111, Char.ofNat 114, Char.ofNat 100, Char.ofNat 86, Char.ofNat 97, Char.ofNat 108, Char.ofNat 105, Char.ofNat 100, Char.ofNat 32, Char.ofNat 108, Char.ofNat 111, Char.ofNat 111, Char.ofNat 112, Char.ofNat 46, Char.ofNat 101, Char.ofNat 120, Char.ofNat 97, Char.ofNat 109, Char.ofNat 112,
  Char.ofNat 108, Char.ofNat 101, Char.ofNat 47, Char.ofNat 112, Char.ofNat 97, Char.ofNat 103, Char.ofNat 101, Char.ofNat 98, Char.ofNat 117, Char.ofNat 105, Char.ofNat 108, Char.ofNat 100, Char.ofNat 101, Char.ofNat 114, Char.ofNat 47, Char.ofNat 108, Char.ofNat 97, Char.ofNat 119, Char.ofNat 115, Char.ofNat 46,
  Char.ofNat 70, Char.ofNat 110, Char.ofNat 83, Char.ofNat 105, Char.ofNat 103, Char.ofNat 110, Char.ofNat 115, Char.ofNat 79, Char.ofNat 102, Char.ofNat 32, Char.ofNat 108, Char.ofNat 111, Char.ofNat 111, Char.ofNat 112, Char.ofNat 46, Char.ofNat 101, Char.ofNat 120, Char.ofNat 97, Char.ofNat 109, Char.ofNat 112,
  Char.ofNat 108, Char.ofNat 101, Char.ofNat 47, Char.ofNat 112, Char.ofNat 97, Char.ofNat 103, Char.ofNat 101, Char.ofNat 98, Char.ofNat 117, Char.ofNat 105, Char.ofNat 108, Char.ofNat 100, Char.ofNat 101, Char.ofNat 114, Char.ofNat 47, Char.ofNat 108, Char.ofNat 97, Char.ofNat 119, Char.ofNat 115, Char.ofNat 46,
  Char.ofNat 70, Char.ofNat 110, Char.ofNat 87, Char.ofNat 111, Char.ofNat 114, Char.ofNat 100, Char.ofNat 87, Char.ofNat 105, Char.ofNat 100, Char.ofNat 116, Char.ofNat 104, Char.ofNat 32, Char.ofNat 108, Char.ofNat 111, Char.ofNat 111, Char.ofNat 112, Char.ofNat 46, Char.ofNat 101, Char.ofNat 120, Char.ofNat 97,
  Char.ofNat 109, Char.ofNat 112, Char.ofNat 108, Char.ofNat 101, Char.ofNat 47, Char.ofNat 112, Char.ofNat 97, Char.ofNat 103, Char.ofNat 101, Char.ofNat 98, Char.ofNat 117, Char.ofNat 105, Char.ofNat 108, Char.ofNat 100, Char.ofNat 101, Char.ofNat 114, Char.ofNat 47, Char.ofNat 108, Char.ofNat 97, Char.ofNat 119,
  Char.ofNat 115, Char.ofNat 46, Char.ofNat 70, Char.ofNat 110, Char.ofNat 87, Char.ofNat 105, Char.ofNat 100, Char.ofNat 116, Char.ofNat 104, Char.ofNat 80, Char.ofNat 97, Char.ofNat 114, Char.ofNat 116, Char.ofNat 115, Char.ofNat 32, Char.ofNat 108, Char.ofNat 111, Char.ofNat 111, Char.ofNat 112, Char.ofNat 46,
  Char.ofNat 101, Char.ofNat 120, Char.ofNat 97, Char.ofNat 109, Char.ofNat 112, Char.ofNat 108, Char.ofNat 101, Char.ofNat 47, Char.ofNat 112, Char.ofNat 97, Char.ofNat 103, Char.ofNat 101, Char.ofNat 98, Char.ofNat 117, Char.ofNat 105, Char.ofNat 108, Char.ofNat 100, Char.ofNat 101, Char.ofNat 114, Char.ofNat 47,
  Char.ofNat 108, Char.ofNat 97, Char.ofNat 119, Char.ofNat 115, Char.ofNat 46, Char.ofNat 70, Char.ofNat 110, Char.ofNat 69, Char.ofNat 120, Char.ofNat 97, Char.ofNat 99, Char.ofNat 116, Char.ofNat 66, Char.ofNat 111, Char.ofNat 120, Char.ofNat 101, Char.ofNat 115, Char.ofNat 79, Char.ofNat 102, Char.ofNat 32,
  Char.ofNat 108, Char.ofNat 111, Char.ofNat 111, Char.ofNat 112, Char.ofNat 46, Char.ofNat 101, Char.ofNat 120, Char.ofNat 97, Char.ofNat 109, Char.ofNat 112, Char.ofNat 108, Char.ofNat 101, Char.ofNat 47, Char.ofNat 112, Char.ofNat 97, Char.ofNat 103, Char.ofNat 101, Char.ofNat 98, Char.ofNat 117, Char.ofNat 105,
  Char.ofNat 108, Char.ofNat 100, Char.ofNat 101, Char.ofNat 114, Char.ofNat 47, Char.ofNat 108, Char.ofNat 97, Char.ofNat 119, Char.ofNat 115, Char.ofNat 46, Char.ofNat 70, Char.ofNat 110, Char.ofNat 69, Char.ofNat 120, Char.ofNat 97, Char.ofNat 99, Char.ofNat 116, Char.ofNat 80, Char.ofNat 97, Char.ofNat 114,
  Char.ofNat 97, Char.ofNat 103, Char.ofNat 114, Char.ofNat 97, Char.ofNat 112, Char.ofNat 104, Char.ofNat 73, Char.ofNat 116, Char.ofNat 101, Char.ofNat 109, Char.ofNat 115]
def blank : Char := Char.ofNat 32
set_option maxRecDepth 100000 in
theorem headText : Try.prog.initOrder = String.ofList (signs0 ++ blank :: (signs1 ++ blank :: (signs2 ++ blank :: signs3))) := by
  unfold Try.prog
  dsimp only [Try.progTables]
  rfl
theorem wordsSigns_at (l r : List Char) (h : l.all (fun c => c != blank) = true) : wordsSigns (l ++ blank :: r) = l :: wordsSigns r := by
  induction l with
  | nil => rfl
  | cons c l ih =>
    rw [List.all_cons, Bool.and_eq_true] at h
    have hc : c ≠ blank := by simpa using h.1
    rw [List.cons_append, wordsSigns, ih h.2]
    exact hc
theorem e3 : (signs2 == "cut".toList) = true := by kernel_rfl
theorem e1 : (signs2 == "gc".toList) = false := by kernel_rfl
theorem e2 : (signs2 == "spec".toList) = false := by kernel_rfl
theorem e5 : (signs2 == "carried".toList) = false := by kernel_rfl
theorem strip : ∀ rest : List (List Char), stripLifts liftWords (signs2 :: rest) = ([], signs2 :: rest) := fun rest => by kernel_rfl
theorem head_cut (rest : List (List Char)) : ((signs2 :: rest).head? == some "cut".toList) = true := by
  show (some signs2 == some "cut".toList) = true
  kernel_rfl
theorem behind_at (l r : List Char) (h1 : (signs0 == "harness".toList || signs0 == "ownmain".toList) = true) (h2 : isSumSigns signs1 = true) :
    behindMainWord (signs0 :: signs1 :: wordsSigns r) = wordsSigns r := by
  unfold behindMainWord
  dsimp only
  rw [h1, h2]
  rfl
theorem headWords : ∃ rest, behindMainWord (wordsSigns Try.prog.initOrder.toList) = signs2 :: rest := by
  rw [headText, String.toList_ofList, wordsSigns_at _ _ (by decide +kernel), wordsSigns_at _ _ (by decide +kernel), behind_at [] _ (by kernel_rfl) (by kernel_rfl), wordsSigns_at _ _ (by decide +kernel)]
  exact ⟨_, rfl⟩
theorem headLifts_at {P : Program} {rest : List (List Char)} (h : behindMainWord (wordsSigns P.initOrder.toList) = signs2 :: rest) : P.headLifts = [] := by
  unfold Program.headLifts
  rw [h, strip]
  dsimp only
  rw [head_cut]
  rfl
theorem make_at {P : Program} {rest : List (List Char)} (h : behindMainWord (wordsSigns P.initOrder.toList) = signs2 :: rest) : P.make = some .cut := by
  unfold Program.make
  rw [h]
  dsimp only
  rw [e1, e2, e3]
  rfl
theorem enter_at {P : Program} {rest : List (List Char)} (h : behindMainWord (wordsSigns P.initOrder.toList) = signs2 :: rest) (hd : P.doorFits [] = true) (hl : P.laysLater = false) (hb : P.bearsReflect = false) : P.mayEnter = true := by
  unfold Program.mayEnter
  rw [h]
  dsimp only
  rw [strip, e1, e2, hd, hl, hb]
  dsimp only
  rw [head_cut]
  simp
theorem lifts_at {P : Program} {rest : List (List Char)} (h : behindMainWord (wordsSigns P.initOrder.toList) = signs2 :: rest) : P.liftsFinal = false := by
  unfold Program.liftsFinal
  rw [headLifts_at h, h]
  have e : ((signs2 :: rest).head? == some "carried".toList) = false := by
    show (some signs2 == some "carried".toList) = false
    kernel_rfl
  dsimp only
  rw [e]
  rfl
theorem mayEnterOf : Try.prog.mayEnter = true := by
  obtain ⟨rest, h⟩ := headWords
  exact enter_at h (by kernel_rfl) (by kernel_rfl) (by kernel_rfl)
theorem liftsOf : Try.prog.liftsFinal = false := by
  obtain ⟨rest, h⟩ := headWords
  exact lifts_at h
theorem makeOf : Try.prog.make = some .cut := by
  obtain ⟨rest, h⟩ := headWords
  exact make_at h
end Go.Proofs.Ytfhhfibjjpiccaa
