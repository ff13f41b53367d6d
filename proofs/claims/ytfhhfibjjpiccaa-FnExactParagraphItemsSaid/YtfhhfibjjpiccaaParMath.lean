/- Plain words on the items of a paragraph, no program in sight. No condition. -/
import Derived.Test.YtfhhfibjjpiccaaItMath
import Derived.Test.YtfhhfibjjpiccaaHypMath
namespace Go.Proofs.Ytfhhfibjjpiccaa
set_option linter.unusedVariables false
set_option linter.unusedSimpArgs false

def hyI : I := ⟨3, ⟨3, 0, 0, 0⟩, 50, true⟩
def spI : I := ⟨2, ⟨4, 3, 1, 0⟩, 0, false⟩
def boxI (t : ByteArray) : I := ⟨1, ⟨widthW t, 0, 0, 0⟩, 0, false⟩
def endIs : List I := [⟨3, ⟨0, 0, 0, 0⟩, 10000, false⟩, ⟨2, ⟨0, 1, 0, 1⟩, 0, false⟩, ⟨3, ⟨0, 0, 0, 0⟩, -10000, false⟩]
/-- The items of the first k parts of a word. -/
def pIt (P : List ByteArray) : Nat → List I
  | 0 => []
  | k + 1 => (if k = 0 then pIt P k else pIt P k ++ [hyI]) ++ [boxI (P.getD k ByteArray.empty)]
/-- The items of the first k words. -/
def wIt (W l : List ByteArray) : Nat → List I
  | 0 => []
  | k + 1 => (if k = 0 then wIt W l k else wIt W l k ++ [spI]) ++ pIt (partsW (W.getD k ByteArray.empty) l) (partsW (W.getD k ByteArray.empty) l).length
def parI (W l : List ByteArray) : List I := wIt W l W.length ++ endIs
def parOk (W l : List ByteArray) : Bool := words12 W && pats20 l && decide (0 < W.length)
def parB (W l : List ByteArray) : Bool := parOk W l && decide ((parI W l).length ≤ 60)
def parR (W l : List ByteArray) : List I := if parB W l = true then parI W l else []
theorem pIt_zero (P : List ByteArray) : pIt P 0 = [] := rfl
theorem pIt_one {P : List ByteArray} {t : ByteArray} (h : P[0]? = some t) : pIt P 1 = [boxI t] := by
  simp [pIt, List.getD_eq_getElem?_getD, h]
theorem pIt_next {P : List ByteArray} {k : Nat} {t : ByteArray} (h : P[k]? = some t) (hk : 0 < k) : pIt P (k + 1) = pIt P k ++ [hyI] ++ [boxI t] := by
  rw [pIt, if_neg (by omega), List.getD_eq_getElem?_getD, h]; rfl
theorem pIt_len (P : List ByteArray) (k : Nat) : (pIt P k).length ≤ 2 * k := by
  induction k with
  | zero => simp [pIt]
  | succ k ih =>
    rw [pIt]
    split <;> simp <;> omega
theorem parts_bd (s : ByteArray) (l : List ByteArray) : (partsW s l).length ≤ 22 := by
  unfold partsW
  split
  · unfold partsOf
    rw [List.length_append, partTo_len]
    have := places_len s l
    simp; omega
  · simp
theorem wIt_zero (W l : List ByteArray) : wIt W l 0 = [] := rfl
theorem wIt_one {W l : List ByteArray} {s : ByteArray} (h : W[0]? = some s) : wIt W l 1 = pIt (partsW s l) (partsW s l).length := by
  simp [wIt, List.getD_eq_getElem?_getD, h]
theorem wIt_next {W l : List ByteArray} {k : Nat} {s : ByteArray} (h : W[k]? = some s) (hk : 0 < k) : wIt W l (k + 1) = wIt W l k ++ [spI] ++ pIt (partsW s l) (partsW s l).length := by
  rw [wIt, if_neg (by omega), List.getD_eq_getElem?_getD, h]; rfl
theorem wIt_len (W l : List ByteArray) (k : Nat) : (wIt W l k).length ≤ 45 * k := by
  induction k with
  | zero => simp [wIt]
  | succ k ih =>
    rw [wIt]
    have h1 := pIt_len (partsW (W.getD k ByteArray.empty) l) (partsW (W.getD k ByteArray.empty) l).length
    have h2 := parts_bd (W.getD k ByteArray.empty) l
    split <;> simp only [List.length_append, List.length_singleton] <;> omega
theorem parI_len (W l : List ByteArray) : (parI W l).length = (wIt W l W.length).length + 3 := by
  unfold parI endIs
  simp
theorem parB_no {W l : List ByteArray} (h : parOk W l = false) : parB W l = false := by unfold parB; rw [h]; rfl
theorem parR_no {W l : List ByteArray} (h : parB W l = false) : parR W l = [] := by unfold parR; rw [h]; rfl
theorem parR_yes {W l : List ByteArray} (h : parB W l = true) : parR W l = parI W l := by unfold parR; rw [if_pos h]
theorem parB_end {W l : List ByteArray} (h : parOk W l = true) : parB W l = decide ((parI W l).length ≤ 60) := by unfold parB; rw [h, Bool.true_and]
theorem parOk_true {W l : List ByteArray} (h : parOk W l = true) : words12 W = true ∧ pats20 l = true ∧ 0 < W.length := by
  simp only [parOk, Bool.and_eq_true, decide_eq_true_eq] at h
  exact ⟨h.1.1, h.1.2, h.2⟩
theorem words12_len {W : List ByteArray} (h : words12 W = true) : W.length ≤ 12 := by
  simp only [words12, Bool.and_eq_true, decide_eq_true_eq] at h
  exact h.2
end Go.Proofs.Ytfhhfibjjpiccaa
