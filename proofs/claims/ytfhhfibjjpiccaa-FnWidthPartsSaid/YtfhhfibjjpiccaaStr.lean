/- Plain words on texts, no program in sight: bytes, letters, signs, widths, patterns. No condition. -/
import Derived.Test.YtfhhfibjjpiccaaShape
namespace Go.Proofs.Ytfhhfibjjpiccaa
set_option linter.unusedVariables false
set_option linter.unusedSimpArgs false

/-! ### bytes -/
def bl (s : ByteArray) : List Int := s.data.toList.map fun x => (x.toNat : Int)
theorem bl_len (s : ByteArray) : (bl s).length = s.size := by simp [bl]
theorem bl_at (s : ByteArray) (k : Nat) (h : k < s.size) : (bl s)[k]? = some ((s[k].toNat : Nat) : Int) := by
  have h2 : k < s.data.toList.length := by simpa using h
  simp only [bl, List.getElem?_map, List.getElem?_eq_getElem h2]
  rfl
theorem bl_byte (s : ByteArray) : ∀ z ∈ bl s, 0 ≤ z ∧ z ≤ 255 := by
  intro z hz
  simp only [bl, List.mem_map] at hz
  obtain ⟨x, _, rfl⟩ := hz
  have := x.toNat_lt
  omega
theorem bl_inj {s t : ByteArray} (h : bl s = bl t) : s = t := by
  have h1 : s.data.toList = t.data.toList := by
    unfold bl at h
    generalize s.data.toList = a at h ⊢
    generalize t.data.toList = b at h ⊢
    induction a generalizing b with
    | nil => cases b with
      | nil => rfl
      | cons y b => simp at h
    | cons x a ih => cases b with
      | nil => simp at h
      | cons y b =>
        simp only [List.map_cons, List.cons.injEq, Int.natCast_inj] at h
        rw [UInt8.toNat_inj.1 h.1, ih b h.2]
  cases s; cases t
  congr 1
  exact Array.toList_inj.1 h1
theorem bl_getD (s : ByteArray) (k : Nat) (h : k < s.size) : (bl s).getD k 0 = ((s[k].toNat : Nat) : Int) := by
  rw [List.getD_eq_getElem?_getD, bl_at s k h]; rfl
theorem bl_extract (s : ByteArray) (i j : Nat) : bl (s.extract i j) = ((bl s).drop i).take (j - i) := by
  unfold bl
  rw [ByteArray.data_extract, Array.toList_extract, List.extract_eq_take_drop, List.map_take, List.map_drop]
theorem bl_append (s t : ByteArray) : bl (s ++ t) = bl s ++ bl t := by
  unfold bl
  rw [ByteArray.data_append, Array.toList_append, List.map_append]
theorem bl_nil : bl ByteArray.empty = [] := rfl
theorem size_extract (s : ByteArray) (i j : Nat) (h : j ≤ s.size) : (s.extract i j).size = j - i := by
  rw [ByteArray.size_extract]; omega

def isSm (c : Int) : Bool := decide (97 ≤ c) && decide (c ≤ 122)
def isDg (c : Int) : Bool := decide (48 ≤ c) && decide (c ≤ 57)
def amB (l : List Int) (c : Int) : Bool := l.any fun x => x == c
def wordB (s : ByteArray) : Bool := (bl s).all isSm && inB s.size 1 20
theorem wordB_true {s : ByteArray} (h : wordB s = true) : (bl s).all isSm = true ∧ 1 ≤ s.size ∧ s.size ≤ 20 := by
  simp only [wordB, Bool.and_eq_true] at h
  have := inB_true h.2
  exact ⟨h.1, by omega, by omega⟩
theorem wordB_step {s : ByteArray} {k : Nat} {c : Int} (hall : (((bl s).take k).all isSm = true)) (hc : (bl s)[k]? = some c) (h : isSm c = true) : ((bl s).take (k + 1)).all isSm = true := by
  rw [all_snoc _ _ _ _ hc, hall, h]; rfl
theorem wordB_no {s : ByteArray} {k : Nat} {c : Int} (hc : (bl s)[k]? = some c) (h : isSm c = false) : wordB s = false := by
  unfold wordB; rw [all_false_of hc h]; rfl
theorem wordB_end {s : ByteArray} {k : Nat} (hall : ((bl s).take k).all isSm = true) (hk : ¬ k < s.size) : wordB s = inB s.size 1 20 := by
  rw [List.take_of_length_le (by rw [bl_len]; omega)] at hall
  unfold wordB
  rw [hall, Bool.true_and]

/-! ### two letters -/
def joinB (a b : Int) : Bool := a == 102 && amB [105, 106, 108, 102] b
def nearB (a b : Int) : Bool := (amB [118, 119, 121] a && amB [97, 101, 111] b) || (a == 114 && amB [110, 109] b)
def nearI (a b : Int) : Int := if nearB a b = true then 1 else 0
def lw (c : Int) : Int := if isSm c = true then (if amB [105, 106, 108] c = true then 3 else if amB [102, 114, 116] c = true then 4 else if amB [109, 119] c = true then 8 else 5) else 0
theorem lw_bd (c : Int) : 0 ≤ lw c ∧ lw c ≤ 8 := by
  unfold lw; repeat' split
  all_goals omega
theorem lw_pos (c : Int) : (0 < lw c) ↔ isSm c = true := by
  unfold lw; repeat' split
  all_goals simp_all
theorem nearI_bd (a b : Int) : 0 ≤ nearI a b ∧ nearI a b ≤ 1 := by
  unfold nearI; split <;> omega

/-! ### signs -/
def jn (s : ByteArray) (i : Nat) : Bool := decide (i + 1 < s.size) && joinB ((bl s).getD i 0) ((bl s).getD (i + 1) 0)
def sg (s : ByteArray) (i : Nat) : List ByteArray :=
  if i < s.size then (if jn s i = true then s.extract i (i + 2) :: sg s (i + 2) else s.extract i (i + 1) :: sg s (i + 1)) else []
termination_by s.size - i
theorem sg_two {s : ByteArray} {i : Nat} (h : i < s.size) (hj : jn s i = true) : sg s i = s.extract i (i + 2) :: sg s (i + 2) := by
  rw [sg, if_pos h, if_pos hj]
theorem sg_one {s : ByteArray} {i : Nat} (h : i < s.size) (hj : jn s i = false) : sg s i = s.extract i (i + 1) :: sg s (i + 1) := by
  rw [sg, if_pos h, if_neg (by simp [hj])]
theorem sg_end {s : ByteArray} {i : Nat} (h : ¬ i < s.size) : sg s i = [] := by
  rw [sg, if_neg h]
theorem jn_lt {s : ByteArray} {i : Nat} (h : jn s i = true) : i + 1 < s.size := by
  simp only [jn, Bool.and_eq_true, decide_eq_true_eq] at h
  exact h.1
theorem sg_len (s : ByteArray) (i : Nat) : (sg s i).length ≤ s.size - i := by
  by_cases h : i < s.size
  · cases hj : jn s i with
    | true =>
      have := jn_lt hj
      rw [sg_two h hj]
      have := sg_len s (i + 2)
      simp; omega
    | false =>
      rw [sg_one h hj]
      have := sg_len s (i + 1)
      simp; omega
  · rw [sg_end h]; simp
termination_by s.size - i
theorem sg_size (s : ByteArray) (i : Nat) : ∀ t ∈ sg s i, 1 ≤ t.size ∧ t.size ≤ 2 := by
  by_cases h : i < s.size
  · cases hj : jn s i with
    | true =>
      have h2 := jn_lt hj
      rw [sg_two h hj]
      have := sg_size s (i + 2)
      intro t ht
      rcases List.mem_cons.1 ht with rfl | ht
      · rw [size_extract _ _ _ (by omega)]; omega
      · exact this t ht
    | false =>
      rw [sg_one h hj]
      have := sg_size s (i + 1)
      intro t ht
      rcases List.mem_cons.1 ht with rfl | ht
      · rw [size_extract _ _ _ (by omega)]; omega
      · exact this t ht
  · rw [sg_end h]; intro t ht; cases ht
termination_by s.size - i
def signsL (s : ByteArray) : List ByteArray := if wordB s = true then sg s 0 else []
theorem signsL_bd (s : ByteArray) : (signsL s).length ≤ 20 := by
  unfold signsL
  split
  · rename_i h
    have := sg_len s 0
    have := wordB_true h
    omega
  · simp
theorem signsL_size (s : ByteArray) : ∀ t ∈ signsL s, 1 ≤ t.size ∧ t.size ≤ 2 := by
  unfold signsL
  split
  · exact sg_size s 0
  · intro t ht; cases ht
theorem signsL_nil (s : ByteArray) : signsL s = [] ↔ wordB s = false := by
  unfold signsL
  cases h : wordB s with
  | true =>
    have h1 := wordB_true h
    rw [if_pos rfl]
    cases hj : jn s 0 with
    | true => rw [sg_two (by omega) hj]; simp
    | false => rw [sg_one (by omega) hj]; simp
  | false => simp

/-! ### widths -/
def lettersW (t : ByteArray) : Int := sumOf lw (bl t)
def cW (L : List ByteArray) (k : Nat) : Int :=
  lettersW (L.getD k ByteArray.empty) - ((L.getD k ByteArray.empty).size - 1) - (if k + 1 < L.length then nearI ((bl (L.getD k ByteArray.empty)).getD ((L.getD k ByteArray.empty).size - 1) 0) ((bl (L.getD (k + 1) ByteArray.empty)).getD 0 0) else 0)
def wwTo (L : List ByteArray) : Nat → Int
  | 0 => 0
  | k + 1 => wwTo L k + cW L k
def widthW (s : ByteArray) : Int := if wordB s = true then wwTo (sg s 0) (sg s 0).length else -1
theorem lettersW_bd (t : ByteArray) : 0 ≤ lettersW t ∧ lettersW t ≤ 8 * t.size := by
  have := sumOf_bd lw 8 (bl t) (fun c _ => lw_bd c)
  rw [bl_len] at this
  exact this
theorem cW_bd (L : List ByteArray) (k : Nat) (h : ∀ t ∈ L, 1 ≤ t.size ∧ t.size ≤ 2) (hk : k < L.length) : -2 ≤ cW L k ∧ cW L k ≤ 16 := by
  have hm : L.getD k ByteArray.empty ∈ L := by
    rw [List.getD_eq_getElem?_getD, List.getElem?_eq_getElem hk]
    exact List.getElem_mem _
  have h1 := h _ hm
  have h2 := lettersW_bd (L.getD k ByteArray.empty)
  unfold cW
  split
  · have := nearI_bd ((bl (L.getD k ByteArray.empty)).getD ((L.getD k ByteArray.empty).size - 1) 0) ((bl (L.getD (k + 1) ByteArray.empty)).getD 0 0)
    omega
  · omega
theorem wwTo_bd (L : List ByteArray) (h : ∀ t ∈ L, 1 ≤ t.size ∧ t.size ≤ 2) (k : Nat) (hk : k ≤ L.length) : -2 * (k : Int) ≤ wwTo L k ∧ wwTo L k ≤ 16 * k := by
  induction k with
  | zero => simp [wwTo]
  | succ k ih =>
    have := ih (by omega)
    have := cW_bd L k h (by omega)
    rw [wwTo]
    omega
end Go.Proofs.Ytfhhfibjjpiccaa
