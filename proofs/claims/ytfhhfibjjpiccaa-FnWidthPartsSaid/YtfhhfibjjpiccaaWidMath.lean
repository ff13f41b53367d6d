/- Plain words on signs and widths, no program in sight: the signs of a text make the text; its width is that of its letters less its joins and its near pairs; the parts of a text. No condition. -/
import Derived.Test.YtfhhfibjjpiccaaStr
namespace Go.Proofs.Ytfhhfibjjpiccaa
set_option linter.unusedVariables false
set_option linter.unusedSimpArgs false

/-! ### the signs make the text -/
theorem drop_cons (l : List Int) (i : Nat) (h : i < l.length) : l.drop i = l.getD i 0 :: l.drop (i + 1) := by
  rw [List.drop_eq_getElem_cons h, List.getD_eq_getElem?_getD, List.getElem?_eq_getElem h]; rfl
theorem bl_ext1 (s : ByteArray) (i : Nat) (h : i < s.size) : bl (s.extract i (i + 1)) = [(bl s).getD i 0] := by
  rw [bl_extract, drop_cons _ _ (by rw [bl_len]; exact h)]
  simp
theorem bl_ext2 (s : ByteArray) (i : Nat) (h : i + 1 < s.size) : bl (s.extract i (i + 2)) = [(bl s).getD i 0, (bl s).getD (i + 1) 0] := by
  rw [bl_extract, drop_cons _ _ (by rw [bl_len]; omega), drop_cons _ (i + 1) (by rw [bl_len]; omega)]
  simp
theorem sg_cat (s : ByteArray) (i : Nat) : (sg s i).flatMap bl = (bl s).drop i := by
  by_cases h : i < s.size
  · cases hj : jn s i with
    | true =>
      have h2 := jn_lt hj
      rw [sg_two h hj, List.flatMap_cons, sg_cat s (i + 2), bl_ext2 s i h2, drop_cons _ i (by rw [bl_len]; omega), drop_cons _ (i + 1) (by rw [bl_len]; omega)]
      rfl
    | false =>
      rw [sg_one h hj, List.flatMap_cons, sg_cat s (i + 1), bl_ext1 s i h, drop_cons _ i (by rw [bl_len]; omega)]
      rfl
  · rw [sg_end h, List.drop_of_length_le (by rw [bl_len]; omega)]
    rfl
termination_by s.size - i
theorem sg_join (s : ByteArray) (i : Nat) : ∀ t ∈ sg s i, t.size = 2 → joinB ((bl t).getD 0 0) ((bl t).getD 1 0) = true := by
  by_cases h : i < s.size
  · cases hj : jn s i with
    | true =>
      have h2 := jn_lt hj
      rw [sg_two h hj]
      have ih := sg_join s (i + 2)
      intro t ht h9
      rcases List.mem_cons.1 ht with rfl | ht
      · rw [bl_ext2 s i h2]
        simp only [jn, Bool.and_eq_true] at hj
        exact hj.2
      · exact ih t ht h9
    | false =>
      rw [sg_one h hj]
      have ih := sg_join s (i + 1)
      intro t ht h9
      rcases List.mem_cons.1 ht with rfl | ht
      · rw [size_extract _ _ _ (by omega)] at h9; omega
      · exact ih t ht h9
  · rw [sg_end h]; intro t ht; cases ht
termination_by s.size - i
def catTo (L : List ByteArray) : Nat → ByteArray
  | 0 => ByteArray.empty
  | k + 1 => catTo L k ++ L.getD k ByteArray.empty
theorem bl_catTo (L : List ByteArray) (k : Nat) (hk : k ≤ L.length) : bl (catTo L k) = (L.take k).flatMap bl := by
  induction k with
  | zero => rfl
  | succ k ih =>
    have hc : L[k]? = some (L.getD k ByteArray.empty) := by
      rw [List.getD_eq_getElem?_getD, List.getElem?_eq_getElem (by omega)]; rfl
    rw [catTo, bl_append, ih (by omega), take_snoc' _ _ _ hc, List.flatMap_append]
    simp
theorem catTo_full (L : List ByteArray) (s : ByteArray) (h : L.flatMap bl = bl s) : catTo L L.length = s := by
  apply bl_inj
  rw [bl_catTo L _ (Nat.le_refl _), List.take_length, h]
theorem catTo_size (L : List ByteArray) (m : Nat) (h : ∀ t ∈ L, t.size ≤ m) (k : Nat) : (catTo L k).size ≤ k * m := by
  induction k with
  | zero => simp [catTo]
  | succ k ih =>
    have : (L.getD k ByteArray.empty).size ≤ m := by
      rw [List.getD_eq_getElem?_getD]
      cases hk : L[k]? with
      | none => simp
      | some t => exact h t (List.mem_of_getElem? hk)
    rw [catTo, ByteArray.size_append, Nat.succ_mul]
    omega

/-! ### widths by letters -/
def jc : List Int → Int
  | a :: b :: r => if joinB a b = true then 1 + jc r else jc (b :: r)
  | _ => 0
def nc : List Int → Int
  | a :: b :: r => nearI a b + nc (b :: r)
  | _ => 0
def widthL (l : List Int) : Int := sumOf lw l - jc l - nc l
theorem join_near {a b : Int} (h : joinB a b = true) : nearI a b = 0 := by
  simp only [joinB, Bool.and_eq_true, beq_iff_eq] at h
  obtain ⟨rfl, _⟩ := h
  simp [nearI, nearB, amB]
def nh (t : ByteArray) (r : List ByteArray) : Int := match r with | [] => 0 | u :: _ => nearI ((bl t).getD (t.size - 1) 0) ((bl u).getD 0 0)
theorem nh_nil (t : ByteArray) : nh t [] = 0 := rfl
theorem nh_cons (t u : ByteArray) (r : List ByteArray) : nh t (u :: r) = nearI ((bl t).getD (t.size - 1) 0) ((bl u).getD 0 0) := rfl
def wwL : List ByteArray → Int
  | [] => 0
  | t :: r => lettersW t - ((t.size : Int) - 1) - nh t r + wwL r
theorem wwTo_app (L : List ByteArray) : ∀ M : List ByteArray, M ++ L = M ++ L → wwTo (M ++ L) (M.length + L.length) = wwTo (M ++ L) M.length + wwL L := by
  induction L with
  | nil => intro M _; simp [wwL]
  | cons t r ih =>
    intro M _
    have e : M ++ t :: r = (M ++ [t]) ++ r := by simp
    have h2 := ih (M ++ [t]) rfl
    rw [List.length_append, List.length_singleton] at h2
    rw [e, List.length_cons, show M.length + (r.length + 1) = M.length + 1 + r.length by omega, h2, ← e, wwTo, wwL]
    have g1 : (M ++ t :: r).getD M.length ByteArray.empty = t := by simp [List.getD_eq_getElem?_getD]
    unfold cW
    rw [g1]
    cases r with
    | nil => rw [nh_nil, if_neg (by simp)]; omega
    | cons u r =>
      have g2 : (M ++ t :: u :: r).getD (M.length + 1) ByteArray.empty = u := by
        rw [List.getD_eq_getElem?_getD, List.getElem?_append_right (by omega)]; simp
      rw [g2, if_pos (by simp), nh_cons]
      omega
theorem wwTo_all (L : List ByteArray) : wwTo L L.length = wwL L := by
  have := wwTo_app L [] rfl
  simpa [wwTo] using this
theorem sg_head (s : ByteArray) (i : Nat) (h : i < s.size) : ∃ u r, sg s i = u :: r ∧ (bl u).getD 0 0 = (bl s).getD i 0 := by
  cases hj : jn s i with
  | true => exact ⟨_, _, sg_two h hj, by rw [bl_ext2 s i (jn_lt hj)]; rfl⟩
  | false => exact ⟨_, _, sg_one h hj, by rw [bl_ext1 s i h]; rfl⟩
theorem wwL_sg (s : ByteArray) (i : Nat) : wwL (sg s i) = widthL ((bl s).drop i) := by
  by_cases h : i < s.size
  · cases hj : jn s i with
    | true =>
      have h2 := jn_lt hj
      have ih := wwL_sg s (i + 2)
      have hjb : joinB ((bl s).getD i 0) ((bl s).getD (i + 1) 0) = true := by
        simp only [jn, Bool.and_eq_true] at hj
        exact hj.2
      rw [sg_two h hj, wwL, drop_cons _ i (by rw [bl_len]; omega), drop_cons _ (i + 1) (by rw [bl_len]; omega), size_extract _ _ _ (by omega)]
      unfold lettersW
      rw [bl_ext2 s i h2]
      unfold widthL at ih ⊢
      rw [jc, if_pos hjb, nc, join_near hjb, ih]
      by_cases h3 : i + 2 < s.size
      · obtain ⟨u, r, hu, hf⟩ := sg_head s (i + 2) h3
        rw [hu, nh_cons, size_extract _ _ _ (by omega), bl_ext2 s i h2]
        simp only [sumOf_cons, sumOf_nil]
        rw [drop_cons _ (i + 1 + 1) (by rw [bl_len]; omega), nc, show i + 1 + 1 = i + 2 from rfl, hf]
        rw [show (i + 2 - i - 1) = 1 by omega]
        simp only [List.getD_cons_succ, List.getD_cons_zero, sumOf_cons]
        omega
      · rw [sg_end h3, nh_nil, show i + 1 + 1 = i + 2 from rfl, List.drop_of_length_le (by rw [bl_len]; omega)]
        simp only [sumOf_cons, sumOf_nil, nc]
        omega
    | false =>
      have ih := wwL_sg s (i + 1)
      rw [sg_one h hj, wwL, drop_cons _ i (by rw [bl_len]; omega), size_extract _ _ _ (by omega)]
      unfold lettersW
      rw [bl_ext1 s i h]
      unfold widthL at ih ⊢
      rw [ih]
      by_cases h3 : i + 1 < s.size
      · obtain ⟨u, r, hu, hf⟩ := sg_head s (i + 1) h3
        have hjb : ¬ joinB ((bl s).getD i 0) ((bl s).getD (i + 1) 0) = true := by
          simp only [jn, Bool.and_eq_false_iff, decide_eq_false_iff_not] at hj
          rcases hj with hj | hj
          · omega
          · rw [hj]; exact Bool.false_ne_true
        rw [hu, nh_cons, size_extract _ _ _ (by omega), bl_ext1 s i h]
        simp only [sumOf_cons, sumOf_nil]
        rw [drop_cons _ (i + 1) (by rw [bl_len]; omega), jc, if_neg hjb, nc, hf]
        rw [show (i + 1 - i - 1) = 0 by omega]
        simp only [List.getD_cons_zero, sumOf_cons]
        omega
      · rw [sg_end h3, nh_nil, List.drop_of_length_le (by rw [bl_len]; omega)]
        simp only [sumOf_cons, sumOf_nil, nc, jc]
        omega
  · rw [sg_end h, List.drop_of_length_le (by rw [bl_len]; omega)]
    rfl
termination_by s.size - i
theorem widthW_eq (s : ByteArray) (h : wordB s = true) : widthW s = widthL (bl s) := by
  unfold widthW
  rw [if_pos h, wwTo_all, wwL_sg]
  simp
theorem jc_bd (l : List Int) : 0 ≤ jc l ∧ jc l ≤ l.length := by
  fun_induction jc l with
  | case1 a b r h ih => simp only [List.length_cons]; omega
  | case2 a b r h ih => simp only [List.length_cons] at ih ⊢; omega
  | case3 l h => omega
theorem nc_bd (l : List Int) : 0 ≤ nc l ∧ nc l ≤ l.length ∧ (0 < l.length → nc l + 1 ≤ l.length) := by
  fun_induction nc l with
  | case1 a b r ih =>
    have := nearI_bd a b
    simp only [List.length_cons] at ih ⊢
    omega
  | case2 l h => omega
theorem lw3 {c : Int} (h : isSm c = true) : 3 ≤ lw c := by
  unfold lw; rw [if_pos h]; repeat' split
  all_goals omega
theorem sum_lw3 (l : List Int) (h : l.all isSm = true) : 3 * (l.length : Int) ≤ sumOf lw l := by
  induction l with
  | nil => simp [sumOf]
  | cons a l ih =>
    rw [List.all_cons, Bool.and_eq_true] at h
    have := lw3 h.1
    have := ih h.2
    rw [sumOf_cons, List.length_cons]
    omega
theorem widthL_bd (l : List Int) (h : l.all isSm = true) (hl : 0 < l.length) : widthL l ≤ sumOf lw l ∧ sumOf lw l - 2 * l.length ≤ widthL l ∧ 0 < widthL l := by
  have h1 := jc_bd l
  have h2 := nc_bd l
  have h3 := sum_lw3 l h
  unfold widthL
  omega
theorem jc_cons (x : Int) (m : List Int) : jc m ≤ jc (x :: m) ∧ jc (x :: m) ≤ jc m + 1 := by
  match m with
  | [] => simp [jc]
  | b :: r =>
    have ih := jc_cons b r
    rw [jc]
    split
    · omega
    · omega
theorem jc_app (l m : List Int) : jc l + jc m ≤ jc (l ++ m) ∧ jc (l ++ m) ≤ jc l + jc m + 1 := by
  fun_induction jc l with
  | case1 a b r h ih =>
    rw [List.cons_append, List.cons_append, jc, if_pos h]
    omega
  | case2 a b r h ih =>
    rw [List.cons_append, List.cons_append, jc, if_neg h]
    exact ih
  | case3 l h =>
    match l, h with
    | [], _ =>
      rw [List.nil_append]; omega
    | [a], _ =>
      have := jc_cons a m
      simp only [List.cons_append, List.nil_append]
      omega
    | a :: b :: r, h => exact absurd rfl (h a b r)
theorem nc_app (l m : List Int) : nc l + nc m ≤ nc (l ++ m) ∧ nc (l ++ m) ≤ nc l + nc m + 1 := by
  fun_induction nc l with
  | case1 a b r ih =>
    rw [List.cons_append, List.cons_append, nc]
    rw [List.cons_append] at ih
    omega
  | case2 l h =>
    match l, h with
    | [], _ =>
      rw [List.nil_append]; omega
    | [a], _ =>
      cases m with
      | nil => simp [nc]
      | cons b r =>
        have := nearI_bd a b
        simp only [List.cons_append, List.nil_append, nc]
        omega
    | a :: b :: r, h => exact absurd rfl (h a b r)
theorem widthL_app (l m : List Int) : widthL (l ++ m) ≤ widthL l + widthL m ∧ widthL l + widthL m ≤ widthL (l ++ m) + 2 := by
  have := jc_app l m
  have := nc_app l m
  unfold widthL
  rw [sumOf_append]
  omega
end Go.Proofs.Ytfhhfibjjpiccaa
