/- Plain words on patterns and on levels, no program in sight: the letters of a pattern are one; the order of patterns does not matter; more patterns have no lower levels. No condition. -/
import Derived.Test.YtfhhfibjjpiccaaHypMath
namespace Go.Proofs.Ytfhhfibjjpiccaa
set_option linter.unusedVariables false
set_option linter.unusedSimpArgs false

theorem pat_one : patB ⟨#[49]⟩ = false := by decide
theorem pat_a12b : patB ⟨#[97, 49, 50, 98]⟩ = false := by decide
theorem pat_nil : patB ⟨#[]⟩ = false := by decide
theorem getD_cons (a : Int) (l : List Int) (k : Nat) : (a :: l).getD (k + 1) 0 = l.getD k 0 := by simp [List.getD_eq_getElem?_getD]
theorem pat_a {p : ByteArray} (h : patB p = true) (h11 : p.size ≤ 11) (h0 : (bl p).getD 0 0 ≠ 46) : patB ((⟨#[97]⟩ : ByteArray) ++ p) = true := by
  obtain ⟨h1, h2, h3⟩ := patB_true h
  have hb : bl ((⟨#[97]⟩ : ByteArray) ++ p) = 97 :: bl p := by rw [bl_append]; rfl
  have hs : ((⟨#[97]⟩ : ByteArray) ++ p).size = p.size + 1 := by rw [ByteArray.size_append]; show 1 + p.size = _; omega
  have hdp : ∀ k, dgPrev (97 :: bl p) (k + 1) = dgPrev (bl p) k := by
    intro k
    unfold dgPrev
    cases k with
    | zero => simp [isDg]
    | succ k =>
      simp only [Nat.add_sub_cancel, getD_cons]
      simp
  unfold patB
  rw [hb, hs]
  simp only [Bool.and_eq_true, decide_eq_true_eq]
  refine ⟨⟨?_, ?_⟩, by omega⟩
  · simp only [pAll, List.all_eq_true, List.mem_range]
    intro k hk
    cases k with
    | zero => simp [pOk, isSm]
    | succ k =>
      have hp := pAll_mono h1 (k := k) (by omega)
      unfold pOk at hp ⊢
      rw [getD_cons, hdp]
      simp only [Bool.or_eq_true, Bool.and_eq_true, beq_iff_eq] at hp ⊢
      rcases hp with hp | ⟨hp1, hp2⟩
      · exact .inl hp
      · right
        refine ⟨hp1, ?_⟩
        simp only [ends, Bool.or_eq_true, beq_iff_eq, List.length_cons] at hp2 ⊢
        rcases hp2 with hp2 | hp2
        · subst hp2; exact absurd hp1 h0
        · right; omega
  · have : smN (97 :: bl p) (p.size + 1) = smN (bl p) p.size + 1 := by
      unfold smN
      rw [List.take_succ_cons, List.filter_cons_of_pos (by simp [isSm])]
      simp
    omega

/-! ### the letters of a pattern -/
def Qd (l : List Int) : Prop := ∀ a b, l = a ++ 46 :: b → a = [] ∨ b = []
theorem qd_of {l : List Int} (h : pAll l l.length = true) : Qd l := by
  intro a b hl
  have hk : a.length < l.length := by rw [hl]; simp
  have hp := pAll_mono h hk
  have hg : l.getD a.length 0 = 46 := by rw [hl]; simp [List.getD_eq_getElem?_getD]
  unfold pOk at hp
  rw [hg] at hp
  simp [isSm, isDg, ends] at hp
  rcases hp with hp | hp
  · left; exact hp
  · right
    have : l.length = a.length + (b.length + 1) := by rw [hl]; simp
    have : b.length = 0 := by omega
    exact List.length_eq_zero_iff.1 this
theorem qd_filter {l : List Int} (f : Int → Bool) (h : Qd l) : Qd (l.filter f) := by
  intro a b hl
  obtain ⟨a', r, hl2, ha, hr⟩ := List.filter_eq_append_iff.1 hl
  obtain ⟨c, b', hr2, hc, _, hb⟩ := List.filter_eq_cons_iff.1 hr
  have hcn : c.filter f = [] := List.filter_eq_nil_iff.2 hc
  rcases h (a' ++ c) b' (by rw [hl2, hr2]; simp) with h1 | h1
  · left
    have : a' = [] := (List.append_eq_nil_iff.1 h1).1
    rw [← ha, this]; rfl
  · right
    rw [← hb, h1]; rfl
theorem letters_list {p : ByteArray} (h : patB p = true) : bl (patS p) = (bl p).filter fun c => !isDg c := by
  unfold patS
  rw [if_pos h, bl_patTo p p.size (Nat.le_refl _), List.take_of_length_le (by rw [bl_len]; exact Nat.le_refl _)]
theorem letters_kind {p : ByteArray} (h : patB p = true) : ∀ c ∈ bl (patS p), isSm c = true ∨ c = 46 := by
  intro c hc
  rw [letters_list h, List.mem_filter] at hc
  obtain ⟨k, hk, hg⟩ := List.mem_iff_getElem.1 hc.1
  have hp := pAll_mono (patB_true h).1 (k := k) (by rw [← bl_len]; exact hk)
  have hg2 : (bl p).getD k 0 = c := by rw [List.getD_eq_getElem?_getD, List.getElem?_eq_getElem hk, hg]; rfl
  unfold pOk at hp
  rw [hg2] at hp
  have hnd : isDg c = false := by simpa using hc.2
  rw [hnd] at hp
  simp only [Bool.false_and, Bool.or_false, Bool.or_eq_true, Bool.and_eq_true, beq_iff_eq] at hp
  rcases hp with hp | hp
  · exact .inl hp
  · exact .inr hp.1
theorem letters_nodg {p : ByteArray} (h : patB p = true) : ∀ c ∈ bl (patS p), isDg c = false := by
  intro c hc
  rw [letters_list h, List.mem_filter] at hc
  simpa using hc.2
theorem letters_sm {p : ByteArray} (h : patB p = true) : smN (bl (patS p)) (patS p).size = smN (bl p) p.size := by
  unfold smN
  rw [List.take_of_length_le (by rw [bl_len]; exact Nat.le_refl _), List.take_of_length_le (by rw [bl_len]; exact Nat.le_refl _), letters_list h, List.filter_filter]
  congr 2
  apply List.filter_congr
  intro c _
  cases hs : isSm c with
  | false => rfl
  | true => rw [sm_not_dg hs]; rfl
theorem letters_size {p : ByteArray} (h : patB p = true) : 1 ≤ (patS p).size ∧ (patS p).size ≤ p.size ∧ (patS p).size ≤ 12 := by
  have h1 := patB_true h
  have h2 := letters_sm h
  have h3 := smN_bd (bl (patS p)) (patS p).size
  have h4 : (patS p).size ≤ p.size := by
    rw [size_bl, letters_list h, size_bl]
    exact List.length_filter_le _ _
  have h5 := h1.2.1
  rw [← h2] at h5
  refine ⟨by omega, h4, by have := h1.2.2; omega⟩
theorem letters_pat {p : ByteArray} (h : patB p = true) : patB (patS p) = true := by
  have hk := letters_kind h
  have hs := letters_size h
  have hq : Qd (bl (patS p)) := by
    rw [letters_list h]
    exact qd_filter _ (qd_of (by rw [bl_len]; exact (patB_true h).1))
  unfold patB
  rw [letters_sm h]
  simp only [Bool.and_eq_true, decide_eq_true_eq]
  refine ⟨⟨?_, (patB_true h).2.1⟩, hs.2.2⟩
  simp only [pAll, List.all_eq_true, List.mem_range]
  intro k hlt
  have hl : k < (bl (patS p)).length := by rw [bl_len]; exact hlt
  have hg : (bl (patS p)).getD k 0 = (bl (patS p))[k] := by rw [List.getD_eq_getElem?_getD, List.getElem?_eq_getElem hl]; rfl
  unfold pOk
  rw [hg]
  rcases hk _ (List.getElem_mem hl) with h1 | h1
  · rw [h1]; rfl
  · have hsplit : bl (patS p) = (bl (patS p)).take k ++ 46 :: (bl (patS p)).drop (k + 1) := by
      rw [← h1, ← List.drop_eq_getElem_cons hl, List.take_append_drop]
    have he : ends (bl (patS p)) k = true := by
      unfold ends
      rcases hq _ _ hsplit with h2 | h2
      · have : min k (bl (patS p)).length = 0 := by rw [← List.length_take, h2]; rfl
        have : k = 0 := by omega
        simp [this]
      · have h3 := congrArg List.length h2
        rw [List.length_drop] at h3
        have : k + 1 = (bl (patS p)).length := by simp at h3; omega
        simp [this]
    rw [h1, he]; rfl
theorem letters_twice {p : ByteArray} (h : patB p = true) : patS (patS p) = patS p := by
  apply bl_inj
  rw [letters_list (letters_pat h)]
  apply List.filter_eq_self.2
  intro c hc
  rw [letters_nodg h c hc]; rfl
theorem levels_letters {p : ByteArray} (h : patB p = true) : (patLv p).length = (patS p).size + 1 := by
  unfold patLv
  rw [if_pos h, lvAll_len _ _ (by rw [bl_len]; exact Nat.le_refl _), size_bl (patS p), letters_list h, List.take_of_length_le (by rw [bl_len]; exact Nat.le_refl _)]

/-! ### layers commute -/
/-- f raises each place to at least c there. -/
def Raises (n : Nat) (f : List Int → List Int) (c : Nat → Int) : Prop := ∀ out : List Int, out.length = n → In9 out → (f out).length = n ∧ In9 (f out) ∧ ∀ i, i < n → (f out).getD i 0 = max (out.getD i 0) (c i)
theorem raises_id (n : Nat) : Raises n id fun _ => 0 := by
  intro out h h9
  refine ⟨h, h9, fun i hi => ?_⟩
  have := getD_9 h9 i
  simp only [id_eq]
  omega
theorem raises_comp {n : Nat} {f g : List Int → List Int} {c d : Nat → Int} (hf : Raises n f c) (hg : Raises n g d) : Raises n (fun o => g (f o)) fun i => max (c i) (d i) := by
  intro out h h9
  obtain ⟨a1, a2, a3⟩ := hf out h h9
  obtain ⟨b1, b2, b3⟩ := hg _ a1 a2
  refine ⟨b1, b2, fun i hi => ?_⟩
  rw [b3 i hi, a3 i hi]
  show max (max (out.getD i 0) (c i)) (d i) = max (out.getD i 0) (max (c i) (d i))
  omega
theorem raises_bump (n : Nat) (p x : Int) (hx : 0 ≤ x ∧ x ≤ 9) : Raises n (fun o => bump o p x) fun i => if (i : Int) = p then x else 0 := by
  intro out h h9
  refine ⟨by rw [bump_len, h], bump_9 h9 hx, fun i hi => ?_⟩
  have hb := getD_9 h9 i
  show (bump out p x).getD i 0 = max (out.getD i 0) (if (i : Int) = p then x else 0)
  unfold bump
  split
  · rename_i hp
    by_cases e : (i : Int) = p
    · have : p.toNat = i := by omega
      rw [if_pos e, this, List.getD_eq_getElem?_getD, List.getElem?_set_self (by omega)]
      rfl
    · have : p.toNat ≠ i := by omega
      rw [if_neg e, List.getD_eq_getElem?_getD, List.getElem?_set_ne this, ← List.getD_eq_getElem?_getD]
      omega
  · rename_i hp
    rw [if_neg (by omega)]
    omega
theorem raises_layK (n : Nat) {lv : List Int} (hv : In9 lv) (a : Nat) (k : Nat) : ∃ c, Raises n (fun o => layK lv a o k) c := by
  induction k with
  | zero => exact ⟨_, raises_id n⟩
  | succ k ih =>
    obtain ⟨c, hc⟩ := ih
    exact ⟨_, raises_comp hc (raises_bump n ((a : Int) + k - 1) (lv.getD k 0) (getD_9 hv k))⟩
theorem raises_layAt (n : Nat) (d t : ByteArray) {lv : List Int} (hv : In9 lv) (a : Nat) : ∃ c, Raises n (fun o => layAt d t lv o a) c := by
  induction a with
  | zero => exact ⟨_, raises_id n⟩
  | succ a ih =>
    obtain ⟨c, hc⟩ := ih
    cases hf : fits d t a with
    | false =>
      refine ⟨c, ?_⟩
      have e : (fun o => layAt d t lv o (a + 1)) = fun o => layAt d t lv o a := by funext o; rw [layAt, if_neg (by rw [hf]; exact Bool.false_ne_true)]
      rw [e]; exact hc
    | true =>
      obtain ⟨c2, hc2⟩ := raises_layK n hv a lv.length
      refine ⟨fun i => max (c i) (c2 i), ?_⟩
      have e : (fun o => layAt d t lv o (a + 1)) = fun o => layK lv a (layAt d t lv o a) lv.length := by funext o; rw [layAt, if_pos hf]
      rw [e]
      exact raises_comp hc hc2
theorem raises_layP (n : Nat) (d p : ByteArray) : ∃ c, Raises n (layP d p) c := raises_layAt n d (patS p) (patLv_9 p) _
theorem list_ext {a b : List Int} {n : Nat} (ha : a.length = n) (hb : b.length = n) (h : ∀ i, i < n → a.getD i 0 = b.getD i 0) : a = b := by
  apply List.ext_getElem?
  intro i
  by_cases hi : i < n
  · have := h i hi
    rw [List.getD_eq_getElem?_getD, List.getD_eq_getElem?_getD, List.getElem?_eq_getElem (by omega), List.getElem?_eq_getElem (by omega)] at this
    rw [List.getElem?_eq_getElem (by omega), List.getElem?_eq_getElem (by omega)]
    exact congrArg some this
  · rw [List.getElem?_eq_none (by omega), List.getElem?_eq_none (by omega)]
theorem layP_comm (d p q : ByteArray) {out : List Int} (h9 : In9 out) : layP d p (layP d q out) = layP d q (layP d p out) := by
  obtain ⟨c1, h1⟩ := raises_layP out.length d p
  obtain ⟨c2, h2⟩ := raises_layP out.length d q
  obtain ⟨a1, a2, a3⟩ := raises_comp h1 h2 out rfl h9
  obtain ⟨b1, b2, b3⟩ := raises_comp h2 h1 out rfl h9
  refine list_ext (n := out.length) b1 a1 fun i hi => ?_
  have a4 := a3 i hi
  have b4 := b3 i hi
  simp only at a4 b4
  rw [a4, b4]
  omega
theorem layL_cons (d p : ByteArray) (l : List ByteArray) (out : List Int) : layL d out (p :: l) = layL d (layP d p out) l := rfl
theorem layL_append (d : ByteArray) (l m : List ByteArray) (out : List Int) : layL d out (l ++ m) = layL d (layL d out l) m := by
  unfold layL; rw [List.foldl_append]
theorem layP_layL (d p : ByteArray) (l : List ByteArray) : ∀ {out : List Int}, In9 out → layP d p (layL d out l) = layL d (layP d p out) l := by
  induction l with
  | nil => intro out _; rfl
  | cons q l ih =>
    intro out h9
    rw [layL_cons, layL_cons, ih (layP_9 h9), layP_comm d p q h9]
theorem layL_reverse (d : ByteArray) (l : List ByteArray) : ∀ {out : List Int}, In9 out → layL d out l.reverse = layL d out l := by
  induction l with
  | nil => intro out _; rfl
  | cons p l ih =>
    intro out h9
    rw [List.reverse_cons, layL_append, ih h9, layL_cons d p l, ← layP_layL d p l h9]
    rfl
theorem pats20_reverse (l : List ByteArray) : pats20 l.reverse = pats20 l := by
  unfold pats20
  rw [List.all_reverse, List.length_reverse]
theorem levels_reverse (s : ByteArray) (l : List ByteArray) : levelsW s l.reverse = levelsW s l := by
  unfold levelsW
  rw [pats20_reverse]
  split
  · refine layL_reverse _ _ ?_
    intro x hx
    have := List.eq_of_mem_replicate hx
    omega
  · rfl
theorem layP_ge (d p : ByteArray) {out : List Int} (h9 : In9 out) (i : Nat) (hi : i < out.length) : out.getD i 0 ≤ (layP d p out).getD i 0 := by
  obtain ⟨c, h⟩ := raises_layP out.length d p
  have := (h out rfl h9).2.2 i hi
  rw [this]
  omega
theorem pats20_dropLast {l : List ByteArray} (h : pats20 l = true) : pats20 (l.take (l.length - 1)) = true := by
  simp only [pats20, Bool.and_eq_true, decide_eq_true_eq, List.all_eq_true] at h ⊢
  refine ⟨fun x hx => h.1 x (List.mem_of_mem_take hx), ?_⟩
  rw [List.length_take]; omega
theorem levels_less {s : ByteArray} {l : List ByteArray} (h1 : wordB s = true) (h2 : pats20 l = true) (i : Nat) (hi : i < s.size + 1) : (levelsW s (l.take (l.length - 1))).getD i 0 ≤ (levelsW s l).getD i 0 := by
  unfold levelsW
  rw [if_pos ⟨h1, pats20_dropLast h2⟩, if_pos ⟨h1, h2⟩]
  have h9 : In9 (List.replicate (s.size + 1) 0) := by
    intro x hx
    have := List.eq_of_mem_replicate hx
    omega
  cases hl : l.length with
  | zero =>
    have : l = [] := List.length_eq_zero_iff.1 hl
    subst this
    simp
  | succ n =>
    have hx : l[n]? = some (l[n]'(by omega)) := List.getElem?_eq_getElem _
    have hs := layL_snoc (dotted s) (List.replicate (s.size + 1) 0) l n _ hx
    rw [show n + 1 = l.length by omega, List.take_length] at hs
    rw [hs, Nat.add_sub_cancel]
    exact layP_ge _ _ (layL_9 _ h9) i (by rw [layL_len, List.length_replicate]; exact hi)
theorem levels_none {s : ByteArray} (h1 : wordB s = true) : levelsW s [] = List.replicate (s.size + 1) 0 := by
  unfold levelsW
  rw [if_pos ⟨h1, by decide⟩]
  rfl
end Go.Proofs.Ytfhhfibjjpiccaa
