/- Plain words on hyphens, no program in sight: the places of a word's hyphens, and the parts between them. No condition. -/
import Derived.Test.YtfhhfibjjpiccaaPatMath
namespace Go.Proofs.Ytfhhfibjjpiccaa
set_option linter.unusedVariables false
set_option linter.unusedSimpArgs false

def hyB (lev : List Int) (k : Nat) : Bool := decide (2 ≤ k) && decide (k + 3 < lev.length) && (lev.getD k 0 % 2 == 1)
def hpTo (lev : List Int) : Nat → List Nat
  | 0 => []
  | k + 1 => if hyB lev k = true then hpTo lev k ++ [k] else hpTo lev k
def placesN (s : ByteArray) (l : List ByteArray) : List Nat := hpTo (levelsW s l) (levelsW s l).length
def toI (l : List Nat) : List Int := l.map fun (k : Nat) => (k : Int)
theorem toI_len (l : List Nat) : (toI l).length = l.length := by simp [toI]
theorem toI_snoc (l : List Nat) (k : Nat) : toI (l ++ [k]) = toI l ++ [(k : Int)] := by simp [toI]
theorem toI_at {l : List Nat} {k x : Nat} (h : l[k]? = some x) : (toI l)[k]? = some (x : Int) := by simp [toI, h]
theorem hpTo_yes {lev : List Int} {k : Nat} (h : hyB lev k = true) : hpTo lev (k + 1) = hpTo lev k ++ [k] := by rw [hpTo, if_pos h]
theorem hpTo_no {lev : List Int} {k : Nat} (h : hyB lev k = false) : hpTo lev (k + 1) = hpTo lev k := by rw [hpTo, if_neg (by simp [h])]
theorem hpTo_two (lev : List Int) : hpTo lev 2 = [] := by simp [hpTo, hyB]
theorem hpTo_late (lev : List Int) (k : Nat) (h : lev.length ≤ k + 3) : ∀ m, hpTo lev (k + m) = hpTo lev k := by
  intro m
  induction m with
  | zero => rfl
  | succ m ih =>
    rw [← Nat.add_assoc, hpTo_no (by unfold hyB; rw [show decide (k + m + 3 < lev.length) = false by simp; omega, Bool.and_false, Bool.false_and]), ih]
theorem hpTo_end {lev : List Int} {k : Nat} (h : lev.length ≤ k + 3) (hk : k ≤ lev.length) : hpTo lev lev.length = hpTo lev k := by
  have := hpTo_late lev k h (lev.length - k)
  rwa [show k + (lev.length - k) = lev.length by omega] at this
theorem hpTo_small {lev : List Int} {k : Nat} (h : lev.length ≤ k) : hpTo lev k = hpTo lev lev.length := by
  have := hpTo_late lev lev.length (by omega) (k - lev.length)
  rwa [show lev.length + (k - lev.length) = k by omega] at this
theorem hpTo_len (lev : List Int) (k : Nat) : (hpTo lev k).length ≤ k := by
  induction k with
  | zero => simp [hpTo]
  | succ k ih =>
    rw [hpTo]
    split
    · rw [List.length_append, List.length_singleton]; omega
    · omega
theorem hpTo_mem {lev : List Int} {k : Nat} : ∀ x ∈ hpTo lev k, x < k ∧ hyB lev x = true := by
  induction k with
  | zero => intro x hx; cases hx
  | succ k ih =>
    intro x hx
    rw [hpTo] at hx
    split at hx
    · rename_i hb
      rcases List.mem_append.1 hx with hx | hx
      · have := ih x hx; exact ⟨by omega, this.2⟩
      · simp at hx; subst hx; exact ⟨by omega, hb⟩
    · have := ih x hx; exact ⟨by omega, this.2⟩
theorem hpTo_asc {lev : List Int} {k : Nat} : (hpTo lev k).Pairwise (· < ·) := by
  induction k with
  | zero => exact List.Pairwise.nil
  | succ k ih =>
    rw [hpTo]
    split
    · rw [List.pairwise_append]
      refine ⟨ih, by simp, ?_⟩
      intro a ha b hb
      simp at hb; subst hb
      exact (hpTo_mem a ha).1
    · exact ih
theorem hyB_true {lev : List Int} {k : Nat} (h : hyB lev k = true) : 2 ≤ k ∧ k + 3 < lev.length ∧ lev.getD k 0 % 2 = 1 := by
  simp only [hyB, Bool.and_eq_true, decide_eq_true_eq, beq_iff_eq] at h
  exact ⟨h.1.1, h.1.2, h.2⟩

/-! ### the levels' own length -/
theorem levelsW_len {s : ByteArray} {l : List ByteArray} (h1 : wordB s = true) (h2 : pats20 l = true) : (levelsW s l).length = s.size + 1 := by
  unfold levelsW
  rw [if_pos ⟨h1, h2⟩, layL_len]
  simp
theorem levelsW_no {s : ByteArray} {l : List ByteArray} (h : wordB s = false ∨ pats20 l = false) : levelsW s l = [] := by
  unfold levelsW
  rw [if_neg]
  rcases h with h | h <;> simp [h]
theorem levelsW_bd (s : ByteArray) (l : List ByteArray) : (levelsW s l).length ≤ 21 := by
  unfold levelsW
  split
  · rename_i h
    have := wordB_true h.1
    rw [layL_len]
    simp; omega
  · simp
theorem levelsW_9 (s : ByteArray) (l : List ByteArray) : In9 (levelsW s l) := by
  unfold levelsW
  split
  · refine layL_9 _ ?_
    intro x hx
    simp at hx
    omega
  · intro x hx; cases hx

/-! ### parts -/
def fromAt (P : List Nat) (k : Nat) : Nat := if k = 0 then 0 else P.getD (k - 1) 0
def partTo (s : ByteArray) (P : List Nat) : Nat → List ByteArray
  | 0 => []
  | k + 1 => partTo s P k ++ [s.extract (fromAt P k) (P.getD k 0)]
def partsOf (s : ByteArray) (P : List Nat) : List ByteArray := partTo s P P.length ++ [s.extract (fromAt P P.length) s.size]
def partsW (s : ByteArray) (l : List ByteArray) : List ByteArray := if wordB s = true ∧ pats20 l = true then partsOf s (placesN s l) else []
theorem partTo_len (s : ByteArray) (P : List Nat) (k : Nat) : (partTo s P k).length = k := by
  induction k with
  | zero => rfl
  | succ k ih => rw [partTo]; simp [ih]
theorem fromAt_succ (P : List Nat) (k : Nat) : fromAt P (k + 1) = P.getD k 0 := by simp [fromAt]
theorem fromAt_zero (P : List Nat) : fromAt P 0 = 0 := by simp [fromAt]
/-- The places lie one behind the other, within the word. -/
theorem places_at {s : ByteArray} {l : List ByteArray} (h1 : wordB s = true) (h2 : pats20 l = true) {k : Nat} (hk : k < (placesN s l).length) :
    fromAt (placesN s l) k + 2 ≤ (placesN s l).getD k 0 + 1 ∧ fromAt (placesN s l) k < (placesN s l).getD k 0 ∧ (placesN s l).getD k 0 + 3 ≤ s.size := by
  have hg : (placesN s l).getD k 0 = (placesN s l)[k] := by rw [List.getD_eq_getElem?_getD, List.getElem?_eq_getElem hk]; rfl
  have hm : (placesN s l)[k] ∈ placesN s l := List.getElem_mem _
  have hb := hyB_true (hpTo_mem _ hm).2
  have hl := levelsW_len h1 h2
  rw [hg]
  have hf : fromAt (placesN s l) k < (placesN s l)[k] := by
    unfold fromAt
    split
    · omega
    · have hk1 : k - 1 < (placesN s l).length := by omega
      have hg1 : (placesN s l).getD (k - 1) 0 = (placesN s l)[k - 1] := by rw [List.getD_eq_getElem?_getD, List.getElem?_eq_getElem hk1]; rfl
      rw [hg1]
      have := (List.pairwise_iff_getElem.1 (hpTo_asc (lev := levelsW s l) (k := (levelsW s l).length))) (k - 1) k hk1 hk (by omega)
      exact this
  omega
theorem places_from {s : ByteArray} {l : List ByteArray} (h1 : wordB s = true) (h2 : pats20 l = true) {k : Nat} (hk : k ≤ (placesN s l).length) : fromAt (placesN s l) k + 1 ≤ s.size := by
  have hw := wordB_true h1
  cases k with
  | zero => rw [fromAt_zero]; omega
  | succ k =>
    have := places_at h1 h2 (k := k) (by omega)
    rw [fromAt_succ]; omega
theorem places_len (s : ByteArray) (l : List ByteArray) : (placesN s l).length ≤ 21 := by
  have := hpTo_len (levelsW s l) (levelsW s l).length
  have := levelsW_bd s l
  unfold placesN
  omega
end Go.Proofs.Ytfhhfibjjpiccaa
