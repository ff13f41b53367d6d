/- Plain words on items, no program in sight: valid items, where a line may end and start, boxes, the items of a line. No condition. -/
import Derived.Test.YtfhhfibjjpiccaaShape
namespace Go.Proofs.Ytfhhfibjjpiccaa
set_option linter.unusedVariables false
set_option linter.unusedSimpArgs false

def rigidB (i : I) : Bool := (i.g.st == 0) && (i.g.sh == 0) && (i.g.o == 0)
def plainB (i : I) : Bool := (i.c == 0) && !i.m
def costB (c : Int) : Bool := inB c 0 10000 || (c == -10000)
def itemOk (i : I) : Bool := glueOk i.g && (if i.k = 1 then rigidB i && plainB i else if i.k = 2 then plainB i else if i.k = 3 then rigidB i && costB i.c else false)
def items60 (l : List I) : Bool := l.all itemOk && decide (l.length ≤ 60)
theorem items60_true {l : List I} (h : items60 l = true) : (∀ i ∈ l, itemOk i = true) ∧ l.length ≤ 60 := by
  simp only [items60, Bool.and_eq_true, decide_eq_true_eq] at h
  exact ⟨List.all_eq_true.1 h.1, h.2⟩
theorem items60_step {l : List I} {k : Nat} {i : I} (hall : (l.take k).all itemOk = true) (hi : l[k]? = some i) (h : itemOk i = true) : (l.take (k + 1)).all itemOk = true := by
  rw [all_snoc _ _ _ _ hi, hall, h]; rfl
theorem items60_no {l : List I} {k : Nat} {i : I} (hi : l[k]? = some i) (h : itemOk i = false) : items60 l = false := by
  unfold items60; rw [all_false_of hi h]; rfl
theorem items60_end {l : List I} {k n : Nat} (hall : (l.take k).all itemOk = true) (hl : l.length = n) (hk : ¬ k < n) : items60 l = decide ((n : Int) ≤ 60) := by
  rw [List.take_of_length_le (by omega)] at hall
  unfold items60
  rw [hall, hl, Bool.true_and]
  exact decide_eq_decide.2 (by omega)
theorem itemOk_bd {i : I} (h : itemOk i = true) : glueOk i.g = true ∧ (i.k = 1 ∨ i.k = 2 ∨ i.k = 3) ∧ -10000 ≤ i.c ∧ i.c ≤ 10000 ∧ (i.c < 0 → i.c = -10000) ∧ (i.k = 3 → i.g.st = 0 ∧ i.g.sh = 0 ∧ i.g.o = 0) := by
  simp only [itemOk, Bool.and_eq_true] at h
  refine ⟨h.1, ?_⟩
  have h2 := h.2
  split at h2
  · rename_i hk
    simp [rigidB, plainB] at h2
    omega
  · split at h2
    · rename_i hk
      simp [plainB] at h2
      omega
    · split at h2
      · rename_i hk
        simp only [Bool.and_eq_true, costB, Bool.or_eq_true, beq_iff_eq, rigidB] at h2
        rcases h2.2 with h3 | h3
        · have := inB_true h3; omega
        · omega
      · cases h2

def stopB (i : I) : Bool := (i.k == 1) || ((i.k == 3) && decide (i.c < 0))
def forcedB (i : I) : Bool := (i.k == 3) && (i.c == -10000)
theorem forced_iff {i : I} (h : itemOk i = true) : forcedB i = ((i.k == 3) && decide (i.c < 0)) := by
  have := itemOk_bd h
  unfold forcedB
  congr 1
  rw [Bool.eq_iff_iff]
  simp
  omega
def mayB (l : List I) (n : Nat) : Bool :=
  match l[n]? with
  | none => false
  | some i => if i.k = 2 then (decide (0 < n) && (match l[n - 1]? with | some j => j.k == 1 | none => false)) else ((i.k == 3) && decide (i.c < 10000))
def mayI (l : List I) (n : Int) : Bool := inB n 0 ((l.length : Int) - 1) && mayB l n.toNat
/-- The first place from n on at which a line may start, or the end. -/
def stA (l : List I) (n : Nat) : Nat := if h : n < l.length then (if stopB l[n] = true then n else stA l (n + 1)) else n
termination_by l.length - n
theorem stA_stop {l : List I} {n : Nat} {i : I} (h : l[n]? = some i) (hs : stopB i = true) : stA l n = n := by
  obtain ⟨hn, rfl⟩ := List.getElem?_eq_some_iff.1 h
  rw [stA, dif_pos hn, if_pos hs]
theorem stA_go {l : List I} {n : Nat} {i : I} (h : l[n]? = some i) (hs : stopB i = false) : stA l n = stA l (n + 1) := by
  obtain ⟨hn, rfl⟩ := List.getElem?_eq_some_iff.1 h
  rw [stA, dif_pos hn, if_neg (by rw [hs]; exact Bool.false_ne_true)]
theorem stA_end {l : List I} {n : Nat} (h : ¬ n < l.length) : stA l n = n := by
  rw [stA, dif_neg h]
theorem stA_bd (l : List I) (n : Nat) (h : n ≤ l.length) : n ≤ stA l n ∧ stA l n ≤ l.length := by
  by_cases hn : n < l.length
  · have hi : l[n]? = some (l[n]) := List.getElem?_eq_getElem hn
    cases hs : stopB l[n] with
    | true => rw [stA_stop hi hs]; omega
    | false =>
      rw [stA_go hi hs]
      have := stA_bd l (n + 1) (by omega)
      omega
  · rw [stA_end hn]; omega
termination_by l.length - n
theorem stA_at {l : List I} {n : Nat} {i : I} (h : l[stA l n]? = some i) : stopB i = true := by
  by_cases hn : n < l.length
  · have hi : l[n]? = some (l[n]) := List.getElem?_eq_getElem hn
    cases hs : stopB l[n] with
    | true =>
      rw [stA_stop hi hs, hi] at h
      injection h with h
      rw [← h]; exact hs
    | false =>
      rw [stA_go hi hs] at h
      exact stA_at h
  · rw [stA_end hn, List.getElem?_eq_none (by omega)] at h
    cases h
termination_by l.length - n
theorem stA_before {l : List I} {n k : Nat} {i : I} (hk : n ≤ k) (hlt : k < stA l n) (h : l[k]? = some i) : stopB i = false := by
  by_cases hn : n < l.length
  · have hi : l[n]? = some (l[n]) := List.getElem?_eq_getElem hn
    cases hs : stopB l[n] with
    | true => rw [stA_stop hi hs] at hlt; omega
    | false =>
      by_cases e : k = n
      · subst e
        rw [hi] at h
        injection h with h
        rw [← h]; exact hs
      · rw [stA_go hi hs] at hlt
        exact stA_before (by omega) hlt h
  · rw [stA_end hn] at hlt; omega
termination_by l.length - n
def lineS (l : List I) (after : Int) : Int := if (items60 l && inB after (-1) ((l.length : Int) - 1)) = true then (stA l (after + 1).toNat : Int) else -1

/-! ### boxes -/
def boxB (i : I) : Bool := i.k == 1
def boxTo (l : List I) (k : Nat) : List Int := ((l.take k).filter boxB).map fun i => i.g.w
def boxesW (l : List I) : List Int := if items60 l = true then boxTo l l.length else []
theorem boxTo_zero (l : List I) : boxTo l 0 = [] := by simp [boxTo]
theorem boxTo_yes {l : List I} {k : Nat} {i : I} (hi : l[k]? = some i) (h : boxB i = true) : boxTo l (k + 1) = boxTo l k ++ [i.g.w] := by
  unfold boxTo
  rw [take_snoc' _ _ _ hi, List.filter_append, List.map_append]
  simp [h]
theorem boxTo_no {l : List I} {k : Nat} {i : I} (hi : l[k]? = some i) (h : boxB i = false) : boxTo l (k + 1) = boxTo l k := by
  unfold boxTo
  rw [take_snoc' _ _ _ hi, List.filter_append, List.map_append]
  simp [h]
theorem boxTo_len (l : List I) (k : Nat) : (boxTo l k).length ≤ k := by
  unfold boxTo
  have := List.length_filter_le boxB (l.take k)
  have := List.length_take_le k l
  simp; omega
theorem boxTo_full (l : List I) (k n : Nat) (hl : l.length = n) (hk : ¬ k < n) : boxTo l k = boxTo l l.length := by
  unfold boxTo
  rw [List.take_of_length_le (by omega), List.take_length]

/-! ### the items of a line -/
def noForced (l : List I) (a b : Nat) : Bool := (List.range b).all fun k => decide (k < a) || (match l[k]? with | some i => !forcedB i | none => true)
def lineOk (l : List I) (after to : Int) : Bool :=
  items60 l && inB after (-1) (to - 1) && mayI l to && ((after == -1) || mayI l after) && decide ((stA l (after + 1).toNat : Int) ≤ to) && noForced l (after + 1).toNat to.toNat
def notBr (l : List I) (k : Nat) : Bool := match l[k]? with | some i => !(i.k == 3) | none => false
def liTo (l : List I) (a : Nat) : Nat → List Nat
  | 0 => []
  | k + 1 => if decide (a ≤ k) && notBr l k then liTo l a k ++ [k] else liTo l a k
def lineI (l : List I) (after to : Int) : List Nat := if lineOk l after to = true then liTo l (stA l (after + 1).toNat) to.toNat else []
theorem liTo_zero (l : List I) (a k : Nat) (h : k ≤ a) : liTo l a k = [] := by
  induction k with
  | zero => rfl
  | succ k ih =>
    rw [liTo, ih (by omega)]
    have : decide (a ≤ k) = false := by simp; omega
    rw [this]; rfl
theorem liTo_yes {l : List I} {a k : Nat} (h : a ≤ k) (hb : notBr l k = true) : liTo l a (k + 1) = liTo l a k ++ [k] := by
  rw [liTo, hb]; simp [h]
theorem liTo_no {l : List I} {a k : Nat} (hb : notBr l k = false) : liTo l a (k + 1) = liTo l a k := by
  rw [liTo, hb]; simp
theorem liTo_len (l : List I) (a k : Nat) : (liTo l a k).length ≤ k := by
  induction k with
  | zero => simp [liTo]
  | succ k ih =>
    rw [liTo]
    split
    · rw [List.length_append, List.length_singleton]; omega
    · omega
theorem liTo_mem {l : List I} {a k : Nat} : ∀ x ∈ liTo l a k, a ≤ x ∧ x < k ∧ notBr l x = true := by
  induction k with
  | zero => intro x hx; cases hx
  | succ k ih =>
    intro x hx
    rw [liTo] at hx
    split at hx
    · rename_i hb
      simp only [Bool.and_eq_true, decide_eq_true_eq] at hb
      rcases List.mem_append.1 hx with hx | hx
      · have := ih x hx; exact ⟨this.1, by omega, this.2.2⟩
      · simp at hx; subst hx; exact ⟨hb.1, by omega, hb.2⟩
    · have := ih x hx; exact ⟨this.1, by omega, this.2.2⟩
theorem liTo_asc {l : List I} {a k : Nat} : (liTo l a k).Pairwise (· < ·) := by
  induction k with
  | zero => exact List.Pairwise.nil
  | succ k ih =>
    rw [liTo]
    split
    · rw [List.pairwise_append]
      refine ⟨ih, by simp, ?_⟩
      intro x hx y hy
      simp at hy; subst hy
      exact (liTo_mem x hx).2.1
    · exact ih

/-! ### the glue of a line -/
def gAt (l : List I) (k : Nat) : G := (l.getD k default).g
def glTo (l : List I) (a k : Nat) : List G := (liTo l a k).map (gAt l)
def isBr (l : List I) (k : Nat) : Bool := match l[k]? with | some i => i.k == 3 | none => false
def lineGs (l : List I) (after to : Int) : List G := glTo l (stA l (after + 1).toNat) to.toNat ++ (if isBr l to.toNat = true then [gAt l to.toNat] else [])
def lineG (l : List I) (after to : Int) : G := if lineOk l after to = true then totG (lineGs l after to) else ⟨0, 0, 0, 0⟩
theorem glTo_len (l : List I) (a k : Nat) : (glTo l a k).length ≤ k := by
  unfold glTo; simp; exact liTo_len l a k
theorem glTo_ok {l : List I} (h : items60 l = true) (a k : Nat) (hk : k ≤ l.length) : okA (glTo l a k) := by
  intro g hg
  unfold glTo at hg
  obtain ⟨x, hx, rfl⟩ := List.mem_map.1 hg
  have h1 := liTo_mem x hx
  have hlt : x < l.length := by omega
  unfold gAt
  rw [List.getD_eq_getElem?_getD, List.getElem?_eq_getElem hlt]
  exact (itemOk_bd ((items60_true h).1 _ (List.getElem_mem hlt))).1
theorem lineGs_ok {l : List I} (h : items60 l = true) {after to : Int} (h0 : 0 ≤ to) (h1 : to < l.length) : okA (lineGs l after to) := by
  intro g hg
  unfold lineGs at hg
  rcases List.mem_append.1 hg with hg | hg
  · exact glTo_ok h _ _ (by omega) g hg
  · split at hg
    · simp at hg
      subst hg
      have hlt : to.toNat < l.length := by omega
      unfold gAt
      rw [List.getD_eq_getElem?_getD, List.getElem?_eq_getElem hlt]
      exact (itemOk_bd ((items60_true h).1 _ (List.getElem_mem hlt))).1
    · cases hg
theorem lineGs_len {l : List I} (h : items60 l = true) {after to : Int} (h0 : 0 ≤ to) (h1 : to < l.length) : (lineGs l after to).length ≤ 60 := by
  have h60 := (items60_true h).2
  have := glTo_len l (stA l (after + 1).toNat) to.toNat
  unfold lineGs
  rw [List.length_append]
  split <;> simp <;> omega
end Go.Proofs.Ytfhhfibjjpiccaa
