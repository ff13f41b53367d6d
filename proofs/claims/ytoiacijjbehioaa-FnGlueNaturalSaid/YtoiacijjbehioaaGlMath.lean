/- Plain arithmetic of the laws of glues: totals in reverse order, of parts, and what set glues come to. No program in sight. -/
import Derived.Test.YtoiacijjbehioaaSetBoth
namespace Go.Proofs.Ytoiacijjbehioaa
set_option linter.unusedVariables false
set_option linter.unusedSimpArgs false

theorem sumOf_rev {α : Type} (f : α → Int) (l : List α) : sumOf f l.reverse = sumOf f l := by
  induction l with
  | nil => rfl
  | cons a l ih =>
    rw [List.reverse_cons, sumOf_snoc, ih, sumOf_cons]
    omega
theorem ordOf_rev (l : List G) : ordOf l.reverse = ordOf l := by unfold ordOf; rw [List.any_reverse]
theorem totG_rev (l : List G) : totG l.reverse = totG l := by
  unfold totG
  rw [ordOf_rev, sumOf_rev, sumOf_rev, sumOf_rev]
theorem glues60_rev (l : List G) : glues60 l.reverse = glues60 l := by unfold glues60; rw [List.all_reverse, List.length_reverse]
theorem GT_rev (l : List G) : GT l.reverse = GT l := by unfold GT; rw [glues60_rev, totG_rev]
theorem GT_yes {l : List G} (h : glues60 l = true) : GT l = totG l := by unfold GT; rw [if_pos h]
theorem GT_no {l : List G} (h : glues60 l = false) : GT l = ⟨0, 0, 0, 0⟩ := by unfold GT; rw [h]; rfl
theorem glues60_take {l : List G} (h : glues60 l = true) (m : Nat) : glues60 (l.take m) = true := by
  simp only [glues60, Bool.and_eq_true, decide_eq_true_eq, List.all_eq_true] at h ⊢
  exact ⟨fun x hx => h.1 x (List.mem_of_mem_take hx), by rw [List.length_take]; omega⟩
theorem glues60_drop {l : List G} (h : glues60 l = true) (m : Nat) : glues60 (l.drop m) = true := by
  simp only [glues60, Bool.and_eq_true, decide_eq_true_eq, List.all_eq_true] at h ⊢
  exact ⟨fun x hx => h.1 x (List.mem_of_mem_drop hx), by rw [List.length_drop]; omega⟩
theorem ordOf_append (a b : List G) : ordOf (a ++ b) = max (ordOf a) (ordOf b) := by
  unfold ordOf
  rw [List.any_append]
  cases a.any ordB <;> cases b.any ordB <;> simp <;> decide
theorem GT_parts {l : List G} (h : glues60 l = true) (m : Nat) :
    (GT (l.take m)).w + (GT (l.drop m)).w = (GT l).w ∧ (GT (l.take m)).sh + (GT (l.drop m)).sh = (GT l).sh ∧ (GT l).o = max (GT (l.take m)).o (GT (l.drop m)).o := by
  rw [GT_yes h, GT_yes (glues60_take h m), GT_yes (glues60_drop h m)]
  refine ⟨?_, ?_, ?_⟩
  · show sumOf G.w _ + sumOf G.w _ = sumOf G.w l
    rw [← sumOf_append, List.take_append_drop]
  · show sumOf G.sh _ + sumOf G.sh _ = sumOf G.sh l
    rw [← sumOf_append, List.take_append_drop]
  · show ordOf l = max (ordOf _) (ordOf _)
    rw [← ordOf_append, List.take_append_drop]
theorem GT_w {l : List G} (h : glues60 l = true) : (GT l).w = sumOf G.w l := by rw [GT_yes h]; rfl

/-! ### the list turned round, built from its end -/
def turnTo (l : List G) (k : Nat) : List G := (l.drop k).reverse
theorem turn_step {l : List G} {k : Nat} {g : G} (h : l[k]? = some g) : turnTo l k = turnTo l (k + 1) ++ [g] := by
  unfold turnTo
  have hk := (List.getElem?_eq_some_iff.1 h)
  obtain ⟨hk, e⟩ := hk
  rw [List.drop_eq_getElem_cons hk, List.reverse_cons, e]
theorem turn_all (l : List G) : turnTo l 0 = l.reverse := by simp [turnTo]
theorem turn_none {l : List G} {n : Nat} (h : l.length = n) : turnTo l n = [] := by simp [turnTo, ← h]
def okFrom (l : List G) (k : Nat) : Bool := decide (l.length ≤ 60) && (l.drop k).all glueOk
theorem okFrom_step {l : List G} {k : Nat} {g : G} (h : l[k]? = some g) : okFrom l k = (okFrom l (k + 1) && glueOk g) := by
  unfold okFrom
  obtain ⟨hk, e⟩ := (List.getElem?_eq_some_iff.1 h)
  rw [List.drop_eq_getElem_cons hk, List.all_cons, e]
  cases decide (l.length ≤ 60) <;> cases glueOk g <;> simp
theorem okFrom_all (l : List G) : okFrom l 0 = glues60 l := by
  unfold okFrom glues60
  rw [List.drop_zero, Bool.and_comm]
theorem okFrom_none {l : List G} {n : Nat} (h : l.length = n) : okFrom l n = decide (n ≤ 60) := by simp [okFrom, ← h]

/-! ### set glues -/
def partAt (f : G → Int) (q all : Int) (l : List G) (k : Nat) : Int := q * sumOf f (l.take k) / all
theorem sum_set (f : G → Int) (q al sgn : Int) (l : List G) (k : Nat) (hk : k ≤ l.length) :
    ((List.range k).map fun j => setAt f q al sgn l j (l[j]?.getD default)).sum = sumOf G.w (l.take k) + sgn * (q * sumOf f (l.take k) / al) := by
  induction k with
  | zero => simp [sumOf]
  | succ k ih =>
    have hlt : k < l.length := by omega
    obtain ⟨g, hg⟩ : ∃ g, l[k]? = some g := ⟨l[k], List.getElem?_eq_getElem hlt⟩
    rw [List.range_succ, List.map_append, List.sum_append, ih (by omega), take_snoc' _ _ _ hg, sumOf_snoc, sumOf_snoc]
    simp only [List.map_cons, List.map_nil, List.sum_cons, List.sum_nil, hg, Option.getD_some]
    unfold setAt
    rw [Int.mul_sub]
    omega
theorem sum_setList (l : List G) (width : Int) : sumOf (fun x => x) (setList l width) = sumOf G.w l + sgnOf (share l width).neg * ((share l width).q * sumOf (fOf l (share l width).neg) l / (share l width).all) := by
  unfold sumOf setList
  rw [List.map_id']
  have := sum_set (fOf l (share l width).neg) (share l width).q (share l width).all (sgnOf (share l width).neg) l l.length (Nat.le_refl _)
  rw [List.take_length] at this
  rw [this]
  rfl
theorem st_pos_or {l : List G} (hok : okA l) : 0 ≤ (totG l).st := (totG_bd hok).2.1.1
theorem set_total {l : List G} {width : Int} (hok : okA l) :
    ((share l width).ok = true → sumOf (fun x => x) (setList l width) = width) ∧
    ((share l width).ok = false → sumOf (fun x => x) (setList l width) = (totG l).w ∨ sumOf (fun x => x) (setList l width) = (totG l).w - (totG l).sh) := by
  have hs := sum_setList l width
  have hw : sumOf G.w l = (totG l).w := rfl
  have hst : sumOf (fOf l false) l = (totG l).st := rfl
  have hsh : sumOf (fOf l true) l = (totG l).sh := rfl
  by_cases h : 0 ≤ width - (totG l).w
  · by_cases h2 : (totG l).st = 0
    · rw [share1 h h2] at hs ⊢
      dsimp only at hs ⊢
      rw [hs, hw]
      simp
      omega
    · rw [share2 h h2] at hs ⊢
      dsimp only at hs ⊢
      rw [hst, Int.mul_ediv_cancel _ h2] at hs
      have e1 : sgnOf false = 1 := rfl
      rw [e1] at hs
      refine ⟨fun _ => (by omega), fun h => (by cases h)⟩
  · by_cases h2 : (totG l).sh = 0
    · rw [share5 (by omega) h2] at hs ⊢
      dsimp only at hs ⊢
      rw [hs, hw]
      simp
    · have e1 : sgnOf true = -1 := rfl
      by_cases h3 : -(width - (totG l).w) ≤ (totG l).sh
      · rw [share3 (by omega) h3] at hs ⊢
        dsimp only at hs ⊢
        rw [hsh, Int.mul_ediv_cancel _ h2, e1] at hs
        refine ⟨fun _ => (by omega), fun h => (by cases h)⟩
      · rw [share4 (by omega) (by omega) h2] at hs ⊢
        dsimp only at hs ⊢
        rw [hsh, Int.mul_ediv_cancel _ h2, e1] at hs
        refine ⟨fun h => (by cases h), fun _ => .inr (by omega)⟩
theorem part_le {q al S f : Int} (h0 : 0 ≤ q) (h1 : q ≤ al) (ha : 0 < al) (hf : 0 ≤ f) : q * (S + f) / al - q * S / al ≤ f := by
  have h2 : q * f ≤ al * f := Int.mul_le_mul_of_nonneg_right h1 hf
  have h3 : q * (S + f) ≤ q * S + f * al := by rw [Int.mul_add, Int.mul_comm f al]; omega
  have h4 := Int.ediv_le_ediv ha h3
  rw [Int.add_mul_ediv_right _ _ (by omega)] at h4
  omega
theorem part_ge {q al S f : Int} (h0 : 0 ≤ q) (ha : 0 < al) (hf : 0 ≤ f) : 0 ≤ q * (S + f) / al - q * S / al := by
  have h2 : 0 ≤ q * f := Int.mul_nonneg h0 hf
  have h3 : q * S ≤ q * (S + f) := by rw [Int.mul_add]; omega
  have h4 := Int.ediv_le_ediv ha h3
  omega
theorem setList_at {l : List G} {width : Int} {k : Nat} {g : G} (hg : l[k]? = some g) : (setList l width)[k]? = some (setAt (fOf l (share l width).neg) (share l width).q (share l width).all (sgnOf (share l width).neg) l k g) := by
  have hk := (List.getElem?_eq_some_iff.1 hg).1
  unfold setList
  rw [List.getElem?_map, List.getElem?_range hk]
  simp [hg]
theorem setList_least {l : List G} {width : Int} (hok : okA l) {k : Nat} {g : G} {x : Int} (hg : l[k]? = some g) (hx : (setList l width)[k]? = some x) : g.w - g.sh ≤ x := by
  rw [setList_at hg] at hx
  have hx := Option.some.inj hx
  subst hx
  have gb := glueOk_true (hok g (List.mem_of_getElem? hg))
  have tb := totG_bd hok
  unfold setAt
  by_cases h : 0 ≤ width - (totG l).w
  · by_cases h2 : (totG l).st = 0
    · rw [share1 h h2]
      dsimp only
      simp
      omega
    · rw [share2 h h2]
      dsimp only
      have e1 : sgnOf false = 1 := rfl
      have hf := f_bd (l := l) false (hok g (List.mem_of_getElem? hg))
      have := part_ge (q := width - (totG l).w) (al := (totG l).st) (S := sumOf (fOf l false) (l.take k)) (f := fOf l false g) h (by omega) hf.1
      rw [e1]
      omega
  · by_cases h2 : (totG l).sh = 0
    · rw [share5 (by omega) h2]
      dsimp only
      simp
      omega
    · have e1 : sgnOf true = -1 := rfl
      have ef : fOf l true g = g.sh := rfl
      by_cases h3 : -(width - (totG l).w) ≤ (totG l).sh
      · rw [share3 (by omega) h3]
        dsimp only
        have := part_le (q := -(width - (totG l).w)) (al := (totG l).sh) (S := sumOf (fOf l true) (l.take k)) (f := fOf l true g) (by omega) h3 (by omega) (by omega)
        rw [e1]
        omega
      · rw [share4 (by omega) (by omega) h2]
        dsimp only
        have := part_le (q := (totG l).sh) (al := (totG l).sh) (S := sumOf (fOf l true) (l.take k)) (f := fOf l true g) (by omega) (Int.le_refl _) (by omega) (by omega)
        rw [e1]
        omega
theorem setList_big {l : List G} {width : Int} (hok : okA l) (hl : l.length ≤ 60) (h0 : 0 ≤ width) (h1 : width ≤ 60000) {x : Int} (hx : x ∈ setList l width) : -70000 ≤ x ∧ x ≤ 6000010000 := by
  obtain ⟨k, hk⟩ := List.getElem?_of_mem hx
  have hkl : k < l.length := by
    have := (List.getElem?_eq_some_iff.1 hk).1
    rw [setList_len] at this
    exact this
  obtain ⟨g, hg⟩ : ∃ g, l[k]? = some g := ⟨l[k], List.getElem?_eq_getElem hkl⟩
  have hle := setList_least (width := width) hok hg hk
  rw [setList_at hg] at hk
  have hk := Option.some.inj hk
  have gb := glueOk_true (hok g (List.mem_of_getElem? hg))
  have sb := share_bd hok hl h0 h1
  have hf := f_bd (l := l) (share l width).neg (hok g (List.mem_of_getElem? hg))
  have hS := sumOf_bd (fOf l (share l width).neg) 1000 (l.take k) (fun a ha => f_bd _ (hok a (List.mem_of_mem_take ha)))
  have hlt : (l.take k).length ≤ 60 := by rw [List.length_take]; omega
  have p1 := part_ge (q := (share l width).q) (al := (share l width).all) (S := sumOf (fOf l (share l width).neg) (l.take k)) sb.1 (by omega) hf.1
  have p2 := prod_bd (s := sumOf (fOf l (share l width).neg) (l.take k)) sb.1 sb.2.1 hS.1 (by omega)
  have p3 := prod_bd (s := sumOf (fOf l (share l width).neg) (l.take k) + fOf l (share l width).neg g) sb.1 sb.2.1 (by omega) (by omega)
  have p4 := quot_bd p2.1 p2.2 sb.2.2.1
  have p5 := quot_bd p3.1 p3.2 sb.2.2.1
  unfold setAt at hk
  refine ⟨by omega, ?_⟩
  have hsg : sgnOf (share l width).neg = 1 ∨ sgnOf (share l width).neg = -1 := by
    cases (share l width).neg
    · exact .inl rfl
    · exact .inr rfl
  rcases hsg with e | e <;> rw [e] at hk <;> omega
theorem set_own {l : List G} (hok : okA l) : setList l (totG l).w = l.map G.w ∧ (share l (totG l).w).ok = true := by
  have z : (totG l).w - (totG l).w = 0 := by omega
  have hq : (share l (totG l).w).q = 0 ∧ (share l (totG l).w).ok = true := by
    by_cases h2 : (totG l).st = 0
    · rw [share1 (by omega) h2]; simp
    · rw [share2 (by omega) h2]; simp
  refine ⟨?_, hq.2⟩
  refine List.ext_getElem? fun k => ?_
  rw [List.getElem?_map]
  cases hg : l[k]? with
  | none =>
    have := List.getElem?_eq_none_iff.1 hg
    rw [List.getElem?_eq_none (by rw [setList_len]; exact this)]
    rfl
  | some g =>
    rw [setList_at hg, hq.1]
    simp [setAt]
end Go.Proofs.Ytoiacijjbehioaa
