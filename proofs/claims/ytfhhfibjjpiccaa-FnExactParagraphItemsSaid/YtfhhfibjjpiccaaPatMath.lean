/- Plain words on patterns, no program in sight: which texts are patterns, their letters, their levels, the levels of a word. No condition. -/
import Derived.Test.YtfhhfibjjpiccaaStr
namespace Go.Proofs.Ytfhhfibjjpiccaa
set_option linter.unusedVariables false
set_option linter.unusedSimpArgs false

def dgPrev (l : List Int) (k : Nat) : Bool := decide (0 < k) && isDg (l.getD (k - 1) 0)
def ends (l : List Int) (k : Nat) : Bool := k == 0 || k + 1 == l.length
def pOk (l : List Int) (k : Nat) : Bool := isSm (l.getD k 0) || (isDg (l.getD k 0) && !dgPrev l k) || ((l.getD k 0) == 46 && ends l k)
def pAll (l : List Int) (k : Nat) : Bool := (List.range k).all (pOk l)
def smN (l : List Int) (k : Nat) : Int := ((l.take k).filter isSm).length
def patB (p : ByteArray) : Bool := pAll (bl p) p.size && decide (0 < smN (bl p) p.size) && decide (p.size ≤ 12)
theorem pAll_succ (l : List Int) (k : Nat) : pAll l (k + 1) = (pAll l k && pOk l k) := by
  simp [pAll, List.range_succ]
theorem pAll_mono {l : List Int} {k n : Nat} (h : pAll l n = true) (hk : k < n) : pOk l k = true := by
  simp only [pAll, List.all_eq_true, List.mem_range] at h
  exact h k hk
theorem patB_no {p : ByteArray} {k : Nat} (hk : k < p.size) (h : pOk (bl p) k = false) : patB p = false := by
  cases hb : patB p with
  | false => rfl
  | true =>
    simp only [patB, Bool.and_eq_true] at hb
    rw [pAll_mono hb.1.1 hk] at h
    cases h
theorem patB_true {p : ByteArray} (h : patB p = true) : pAll (bl p) p.size = true ∧ 0 < smN (bl p) p.size ∧ p.size ≤ 12 := by
  simp only [patB, Bool.and_eq_true, decide_eq_true_eq] at h
  exact ⟨h.1.1, h.1.2, h.2⟩
theorem patB_end {p : ByteArray} {k : Nat} (hall : pAll (bl p) k = true) (hk : k = p.size) : patB p = (decide (0 < smN (bl p) k) && decide ((p.size : Int) ≤ 12)) := by
  subst hk
  unfold patB
  rw [hall, Bool.true_and]
  congr 1
  exact decide_eq_decide.2 (by omega)
theorem smN_zero (l : List Int) : smN l 0 = 0 := by simp [smN]
theorem smN_bd (l : List Int) (k : Nat) : 0 ≤ smN l k ∧ smN l k ≤ k := by
  unfold smN
  have := List.length_filter_le isSm (l.take k)
  have := List.length_take_le k l
  omega
theorem smN_yes {l : List Int} {k : Nat} {c : Int} (hc : l[k]? = some c) (h : isSm c = true) : smN l (k + 1) = smN l k + 1 := by
  unfold smN
  rw [take_snoc' _ _ _ hc, List.filter_append]
  simp [h]
theorem smN_no {l : List Int} {k : Nat} {c : Int} (hc : l[k]? = some c) (h : isSm c = false) : smN l (k + 1) = smN l k := by
  unfold smN
  rw [take_snoc' _ _ _ hc, List.filter_append]
  simp [h]
theorem dg_not_sm {c : Int} (h : isDg c = true) : isSm c = false := by
  simp [isDg] at h
  simp [isSm]; omega
theorem sm_not_dg {c : Int} (h : isSm c = true) : isDg c = false := by
  cases hd : isDg c with
  | false => rfl
  | true => rw [dg_not_sm hd] at h; cases h

/-! ### letters and levels -/
def patTo (p : ByteArray) : Nat → ByteArray
  | 0 => ByteArray.empty
  | k + 1 => if isDg ((bl p).getD k 0) = true then patTo p k else patTo p k ++ p.extract k (k + 1)
def patS (p : ByteArray) : ByteArray := if patB p = true then patTo p p.size else ByteArray.empty
def lvO (l : List Int) : Nat → List Int × Int
  | 0 => ([], 0)
  | k + 1 => if isDg (l.getD k 0) = true then ((lvO l k).1, l.getD k 0 - 48) else ((lvO l k).1 ++ [(lvO l k).2], 0)
def lvAll (l : List Int) (k : Nat) : List Int := (lvO l k).1 ++ [(lvO l k).2]
def patLv (p : ByteArray) : List Int := if patB p = true then lvAll (bl p) p.size else []
theorem bl_patTo (p : ByteArray) (k : Nat) (hk : k ≤ p.size) : bl (patTo p k) = ((bl p).take k).filter fun c => !isDg c := by
  induction k with
  | zero => rfl
  | succ k ih =>
    have hc := bl_at p k (by omega)
    have hg := bl_getD p k (by omega)
    rw [patTo, take_snoc' _ _ _ hc, List.filter_append, ← ih (by omega), hg]
    split
    · rename_i h; simp [h]
    · rename_i h
      simp at h
      rw [bl_append, bl_extract]
      congr 1
      have e : ((bl p).drop k).take (k + 1 - k) = [((p[k].toNat : Nat) : Int)] := by
        rw [show k + 1 - k = 1 by omega, List.take_one, List.head?_drop, hc]; rfl
      rw [e]
      simp [h]
theorem size_bl (s : ByteArray) : s.size = (bl s).length := (bl_len s).symm
theorem patTo_size (p : ByteArray) (k : Nat) (hk : k ≤ p.size) : (patTo p k).size ≤ k := by
  rw [size_bl, bl_patTo p k hk]
  have := List.length_filter_le (fun c => !isDg c) ((bl p).take k)
  have := List.length_take_le k (bl p)
  omega
theorem lvO_len (l : List Int) (k : Nat) (hk : k ≤ l.length) : (lvO l k).1.length = ((l.take k).filter fun c => !isDg c).length := by
  induction k with
  | zero => rfl
  | succ k ih =>
    have hc : l[k]? = some (l.getD k 0) := by
      rw [List.getD_eq_getElem?_getD, List.getElem?_eq_getElem (by omega)]; rfl
    rw [lvO, take_snoc' _ _ _ hc, List.filter_append, List.length_append, ← ih (by omega)]
    generalize l.getD k 0 = c
    cases h : isDg c <;> simp [h]
theorem lvAll_len (l : List Int) (k : Nat) (hk : k ≤ l.length) : (lvAll l k).length = ((l.take k).filter fun c => !isDg c).length + 1 := by
  simp [lvAll, lvO_len l k hk]
theorem lvO_bd (l : List Int) (k : Nat) : (∀ x ∈ (lvO l k).1, 0 ≤ x ∧ x ≤ 9) ∧ 0 ≤ (lvO l k).2 ∧ (lvO l k).2 ≤ 9 := by
  induction k with
  | zero => simp [lvO]
  | succ k ih =>
    rw [lvO]
    split
    · rename_i h
      simp [isDg] at h
      simp only [List.getD_eq_getElem?_getD]
      exact ⟨ih.1, by omega, by omega⟩
    · refine ⟨?_, by simp, by simp⟩
      intro x hx
      rcases List.mem_append.1 hx with hx | hx
      · exact ih.1 x hx
      · simp at hx; subst hx; exact ih.2
theorem lvAll_bd (l : List Int) (k : Nat) : ∀ x ∈ lvAll l k, 0 ≤ x ∧ x ≤ 9 := by
  intro x hx
  rcases List.mem_append.1 hx with hx | hx
  · exact (lvO_bd l k).1 x hx
  · simp at hx; subst hx; exact (lvO_bd l k).2
theorem lvAll_zero (l : List Int) : lvAll l 0 = [0] := rfl
theorem lvAll_dg {l : List Int} {k : Nat} (h : isDg (l.getD k 0) = true) : lvAll l (k + 1) = (lvO l k).1 ++ [l.getD k 0 - 48] := by
  unfold lvAll; rw [lvO, if_pos h]
theorem lvAll_no {l : List Int} {k : Nat} (h : isDg (l.getD k 0) = false) : lvAll l (k + 1) = lvAll l k ++ [0] := by
  unfold lvAll; rw [lvO, if_neg (by rw [h]; exact Bool.false_ne_true)]

/-! ### lists of texts -/
def pats20 (l : List ByteArray) : Bool := l.all patB && decide (l.length ≤ 20)
def words12 (l : List ByteArray) : Bool := l.all wordB && decide (l.length ≤ 12)

/-! ### the levels of a word -/
def bump (out : List Int) (place lev : Int) : List Int := if 0 ≤ place ∧ place < out.length then out.set place.toNat (max (out.getD place.toNat 0) lev) else out
theorem bump_len (out : List Int) (p x : Int) : (bump out p x).length = out.length := by
  unfold bump; split <;> simp
/-- The levels laid at one place, the first k of them. -/
def layK (lv : List Int) (at_ : Nat) (out : List Int) : Nat → List Int
  | 0 => out
  | k + 1 => bump (layK lv at_ out k) ((at_ : Int) + k - 1) (lv.getD k 0)
theorem layK_len (lv : List Int) (a : Nat) (out : List Int) (k : Nat) : (layK lv a out k).length = out.length := by
  induction k with
  | zero => rfl
  | succ k ih => rw [layK, bump_len, ih]
def fits (d t : ByteArray) (a : Nat) : Bool := bl (d.extract a (a + t.size)) == bl t
def layAt (d t : ByteArray) (lv : List Int) (out : List Int) : Nat → List Int
  | 0 => out
  | a + 1 => if fits d t a = true then layK lv a (layAt d t lv out a) lv.length else layAt d t lv out a
theorem layAt_len (d t : ByteArray) (lv : List Int) (out : List Int) (a : Nat) : (layAt d t lv out a).length = out.length := by
  induction a with
  | zero => rfl
  | succ a ih => rw [layAt]; split <;> simp [layK_len, ih]
def layP (d p : ByteArray) (out : List Int) : List Int := layAt d (patS p) (patLv p) out (d.size + 1 - (patS p).size)
theorem layP_len (d p : ByteArray) (out : List Int) : (layP d p out).length = out.length := layAt_len ..
def layL (d : ByteArray) (out : List Int) (l : List ByteArray) : List Int := l.foldl (fun o p => layP d p o) out
theorem layL_len (d : ByteArray) (l : List ByteArray) : ∀ out : List Int, (layL d out l).length = out.length := by
  induction l with
  | nil => intro out; rfl
  | cons p l ih => intro out; rw [layL, List.foldl_cons]; exact (ih _).trans (layP_len d p out)
theorem layL_snoc (d : ByteArray) (out : List Int) (l : List ByteArray) (k : Nat) (p : ByteArray) (h : l[k]? = some p) : layL d out (l.take (k + 1)) = layP d p (layL d out (l.take k)) := by
  rw [take_snoc' _ _ _ h, layL, List.foldl_append]; rfl
def dotted (s : ByteArray) : ByteArray := (⟨#[46]⟩ : ByteArray) ++ s ++ (⟨#[46]⟩ : ByteArray)
def levelsW (s : ByteArray) (l : List ByteArray) : List Int := if wordB s = true ∧ pats20 l = true then layL (dotted s) (List.replicate (s.size + 1) 0) l else []
def In9 (l : List Int) : Prop := ∀ x ∈ l, 0 ≤ x ∧ x ≤ 9
theorem bump_9 {out : List Int} {p x : Int} (h : In9 out) (hx : 0 ≤ x ∧ x ≤ 9) : In9 (bump out p x) := by
  unfold bump
  split
  · rename_i hp
    intro y hy
    rcases List.mem_or_eq_of_mem_set hy with hy | rfl
    · exact h y hy
    · have hm : out.getD p.toNat 0 ∈ out := by
        rw [List.getD_eq_getElem?_getD, List.getElem?_eq_getElem (by omega)]
        exact List.getElem_mem _
      have := h _ hm
      omega
  · exact h
theorem getD_9 {l : List Int} (h : In9 l) (k : Nat) : 0 ≤ l.getD k 0 ∧ l.getD k 0 ≤ 9 := by
  rw [List.getD_eq_getElem?_getD]
  cases hk : l[k]? with
  | none => simp
  | some x => exact h x (List.mem_of_getElem? hk)
theorem layK_9 {lv : List Int} (hv : In9 lv) {a : Nat} {out : List Int} (h : In9 out) (k : Nat) : In9 (layK lv a out k) := by
  induction k with
  | zero => exact h
  | succ k ih => rw [layK]; exact bump_9 ih (getD_9 hv k)
theorem layAt_9 {d t : ByteArray} {lv : List Int} (hv : In9 lv) {out : List Int} (h : In9 out) (a : Nat) : In9 (layAt d t lv out a) := by
  induction a with
  | zero => exact h
  | succ a ih =>
    rw [layAt]; split
    · exact layK_9 hv ih _
    · exact ih
theorem patLv_9 (p : ByteArray) : In9 (patLv p) := by
  unfold patLv; split
  · exact lvAll_bd _ _
  · intro x hx; cases hx
theorem layP_9 {d p : ByteArray} {out : List Int} (h : In9 out) : In9 (layP d p out) := layAt_9 (patLv_9 p) h _
theorem layL_9 {d : ByteArray} (l : List ByteArray) : ∀ {out : List Int}, In9 out → In9 (layL d out l) := by
  induction l with
  | nil => intro out h; exact h
  | cons p l ih => intro out h; exact ih (layP_9 h)
end Go.Proofs.Ytfhhfibjjpiccaa
