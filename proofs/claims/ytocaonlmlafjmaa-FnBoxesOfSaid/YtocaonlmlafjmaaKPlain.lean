/- Several of my texts in one: Shape, Str, BadMath, ItMath, PatMath, HypMath, WidMath, PatLaw, ParMath, ParLaw, LineMath. Their conditions stand at each. -/
import Derived.KernelRfl
/- Plain words, no program in sight: a glue, an item, the range test, sums of glues. No condition. -/
namespace Go.Proofs.Ytocaonlmlafjmaa
set_option linter.unusedVariables false
set_option linter.unusedSimpArgs false

structure G where
  w : Int
  st : Int
  sh : Int
  o : Int
structure I where
  k : Int
  g : G
  c : Int
  m : Bool
instance : Inhabited G := ⟨⟨0, 0, 0, 0⟩⟩
instance : Inhabited I := ⟨⟨0, ⟨0, 0, 0, 0⟩, 0, false⟩⟩

def inB (n lo hi : Int) : Bool := decide (lo ≤ n) && decide (n ≤ hi)
theorem inB_true {n lo hi : Int} (h : inB n lo hi = true) : lo ≤ n ∧ n ≤ hi := by simpa [inB] using h
theorem inB_mk {n lo hi : Int} (h : lo ≤ n ∧ n ≤ hi) : inB n lo hi = true := by simpa [inB] using h
theorem inB_false {n lo hi : Int} (h : inB n lo hi = false) : n < lo ∨ hi < n := by
  simp [inB] at h; omega
theorem inB_no {n lo hi : Int} (h : n < lo ∨ hi < n) : inB n lo hi = false := by
  simp [inB]; omega

def glueOk (g : G) : Bool := inB g.w 0 1000 && inB g.st 0 1000 && inB g.sh 0 g.w && inB g.o 0 1
theorem glueOk_true {g : G} (h : glueOk g = true) : (0 ≤ g.w ∧ g.w ≤ 1000) ∧ (0 ≤ g.st ∧ g.st ≤ 1000) ∧ (0 ≤ g.sh ∧ g.sh ≤ g.w) ∧ (0 ≤ g.o ∧ g.o ≤ 1) := by
  simp only [glueOk, Bool.and_eq_true] at h
  exact ⟨inB_true h.1.1.1, inB_true h.1.1.2, inB_true h.1.2, inB_true h.2⟩
theorem glueOk_mk {g : G} (h1 : 0 ≤ g.w ∧ g.w ≤ 1000) (h2 : 0 ≤ g.st ∧ g.st ≤ 1000) (h3 : 0 ≤ g.sh ∧ g.sh ≤ g.w) (h4 : 0 ≤ g.o ∧ g.o ≤ 1) : glueOk g = true := by
  simp only [glueOk, Bool.and_eq_true]
  exact ⟨⟨⟨inB_mk h1, inB_mk h2⟩, inB_mk h3⟩, inB_mk h4⟩

theorem all_snoc {α : Type} (f : α → Bool) (l : List α) (k : Nat) (a : α) (h : l[k]? = some a) : (l.take (k + 1)).all f = ((l.take k).all f && f a) := by
  rw [List.take_add_one, h, List.all_append]
  simp
theorem take_snoc' {α : Type} (l : List α) (k : Nat) (a : α) (h : l[k]? = some a) : l.take (k + 1) = l.take k ++ [a] := by
  rw [List.take_add_one, h]; rfl
theorem all_get {α : Type} {f : α → Bool} {l : List α} (h : l.all f = true) {k : Nat} {a : α} (hk : l[k]? = some a) : f a = true :=
  List.all_eq_true.1 h a (List.mem_of_getElem? hk)
theorem all_false_of {α : Type} {f : α → Bool} {l : List α} {k : Nat} {a : α} (hk : l[k]? = some a) (h : f a = false) : l.all f = false := by
  cases hl : l.all f with
  | false => rfl
  | true => rw [all_get hl hk] at h; cases h

/-! ### sums of glues -/
def sumOf {α : Type} (f : α → Int) (l : List α) : Int := (l.map f).sum
theorem sumOf_nil {α : Type} (f : α → Int) : sumOf f [] = 0 := rfl
theorem sumOf_snoc {α : Type} (f : α → Int) (l : List α) (a : α) : sumOf f (l ++ [a]) = sumOf f l + f a := by
  simp [sumOf, List.sum_append]
theorem sumOf_append {α : Type} (f : α → Int) (l m : List α) : sumOf f (l ++ m) = sumOf f l + sumOf f m := by
  simp [sumOf, List.sum_append]
theorem sumOf_cons {α : Type} (f : α → Int) (a : α) (l : List α) : sumOf f (a :: l) = f a + sumOf f l := by
  simp [sumOf]
theorem sumOf_bd {α : Type} (f : α → Int) (m : Int) (l : List α) (h : ∀ a ∈ l, 0 ≤ f a ∧ f a ≤ m) : 0 ≤ sumOf f l ∧ sumOf f l ≤ m * l.length := by
  induction l with
  | nil => simp [sumOf]
  | cons a l ih =>
    have h1 := h a List.mem_cons_self
    have h2 := ih (fun b hb => h b (List.mem_cons_of_mem _ hb))
    rw [sumOf_cons, List.length_cons, Int.natCast_add, Int.mul_add]
    omega
def ordB (g : G) : Bool := g.o == 1 && decide (0 < g.st)
def ordOf (l : List G) : Int := if l.any ordB = true then 1 else 0
def stAt (o : Int) (g : G) : Int := if g.o = o then g.st else 0
def totG (l : List G) : G := ⟨sumOf G.w l, sumOf (stAt (ordOf l)) l, sumOf G.sh l, ordOf l⟩
def addG (a b : G) : G :=
  let x := if a.st = 0 then 0 else a.o
  let y := if b.st = 0 then 0 else b.o
  let o := max x y
  ⟨a.w + b.w, (if x = o then a.st else 0) + (if y = o then b.st else 0), a.sh + b.sh, o⟩
def okA (l : List G) : Prop := ∀ g ∈ l, glueOk g = true
theorem ordOf_01 (l : List G) : ordOf l = 0 ∨ ordOf l = 1 := by unfold ordOf; split <;> simp
theorem ordOf_snoc (l : List G) (g : G) : ordOf (l ++ [g]) = if ordB g = true then 1 else ordOf l := by
  unfold ordOf
  rw [List.any_append]
  by_cases h : l.any ordB = true <;> by_cases h2 : ordB g = true <;> simp [h, h2]
theorem st1_zero {l : List G} (h : ordOf l = 0) (hok : okA l) : sumOf (stAt 1) l = 0 := by
  induction l with
  | nil => rfl
  | cons a l ih =>
    have hn : (a :: l).any ordB = false := by
      cases hb : (a :: l).any ordB with
      | false => rfl
      | true => simp [ordOf, hb] at h
    rw [List.any_cons, Bool.or_eq_false_iff] at hn
    rw [sumOf_cons, ih (by simp [ordOf, hn.2]) (fun g hg => hok g (List.mem_cons_of_mem _ hg))]
    have ha := glueOk_true (hok a List.mem_cons_self)
    have hb := hn.1
    simp [ordB] at hb
    unfold stAt
    split
    · have := hb (by assumption); omega
    · omega
theorem st1_pos {l : List G} (h : ordOf l = 1) (hok : okA l) : 0 < sumOf (stAt 1) l := by
  induction l with
  | nil => simp [ordOf] at h
  | cons a l ih =>
    rw [sumOf_cons]
    have ha := glueOk_true (hok a List.mem_cons_self)
    have hl : okA l := fun g hg => hok g (List.mem_cons_of_mem _ hg)
    by_cases hb : ordB a = true
    · have h0 : 0 ≤ sumOf (stAt 1) l := (sumOf_bd (stAt 1) 1000 l (fun g hg => by
        have := glueOk_true (hl g hg)
        unfold stAt; split <;> omega)).1
      simp [ordB] at hb
      unfold stAt at h0 ⊢
      rw [if_pos hb.1]
      omega
    · have hor : ordOf l = 1 := by
        unfold ordOf at h ⊢
        rw [List.any_cons] at h
        simpa [hb] using h
      have := ih hor hl
      have h1 : 0 ≤ stAt 1 a := by unfold stAt; split <;> omega
      omega
theorem totG_snoc (l : List G) (g : G) (hok : okA (l ++ [g])) : totG (l ++ [g]) = addG (totG l) g := by
  have hl : okA l := fun a ha => hok a (List.mem_append_left _ ha)
  have hg := glueOk_true (hok g (by simp))
  have hs := ordOf_snoc l g
  unfold totG addG
  simp only [sumOf_snoc]
  rcases ordOf_01 l with h0 | h1
  · by_cases hb : ordB g = true
    · have hb' := hb
      simp [ordB] at hb'
      rw [if_pos hb] at hs
      have z := st1_zero h0 hl
      rw [hs, z, h0]
      have e1 : stAt 1 g = g.st := by unfold stAt; rw [if_pos hb'.1]
      rw [e1, if_neg (show ¬ g.st = 0 by omega), hb'.1]
      have m01 : max (0 : Int) 1 = 1 := by decide
      simp [m01]
    · rw [if_neg hb] at hs
      rw [hs, h0]
      have hc : g.o = 0 ∨ g.st = 0 := by
        simp [ordB] at hb
        by_cases h1 : g.o = 1
        · have := hb h1; omega
        · omega
      have ey : (if g.st = 0 then (0 : Int) else g.o) = 0 := by split <;> omega
      have e1 : stAt 0 g = g.st := by unfold stAt; split <;> omega
      rw [ey, e1]
      simp
  · have p := st1_pos h1 hl
    have hs' : ordOf (l ++ [g]) = 1 := by rw [hs]; split <;> simp [h1]
    rw [hs', h1]
    have ey : (if g.st = 0 then (0 : Int) else g.o) = 0 ∨ (if g.st = 0 then (0 : Int) else g.o) = 1 := by split <;> omega
    rw [if_neg (show ¬ sumOf (stAt 1) l = 0 by omega)]
    have e1 : stAt 1 g = if (if g.st = 0 then (0 : Int) else g.o) = 1 then g.st else 0 := by
      unfold stAt
      by_cases hz : g.st = 0
      · simp [hz]
      · simp [hz]
    rw [e1]
    have m10 : max (1 : Int) 0 = 1 := by decide
    rcases ey with ey | ey <;> rw [ey] <;> simp [m10]
theorem totG_nil : totG [] = ⟨0, 0, 0, 0⟩ := by simp [totG, sumOf, ordOf]
theorem totG_bd {l : List G} (hok : okA l) : (0 ≤ (totG l).w ∧ (totG l).w ≤ 1000 * l.length) ∧ (0 ≤ (totG l).st ∧ (totG l).st ≤ 1000 * l.length) ∧ (0 ≤ (totG l).sh ∧ (totG l).sh ≤ 1000 * l.length) ∧ (0 ≤ (totG l).o ∧ (totG l).o ≤ 1) := by
  refine ⟨sumOf_bd _ _ _ fun g hg => ?_, sumOf_bd _ _ _ fun g hg => ?_, sumOf_bd _ _ _ fun g hg => ?_, ?_⟩
  · have := glueOk_true (hok g hg); omega
  · have := glueOk_true (hok g hg); unfold stAt; split <;> omega
  · have := glueOk_true (hok g hg); omega
  · show 0 ≤ ordOf l ∧ ordOf l ≤ 1
    rcases ordOf_01 l with h | h <;> omega
theorem sum_le_sum {α : Type} {f g : α → Int} {l : List α} (h : ∀ a ∈ l, f a ≤ g a) : sumOf f l ≤ sumOf g l := by
  induction l with
  | nil => simp [sumOf]
  | cons a l ih =>
    rw [sumOf_cons, sumOf_cons]
    have h1 := h a List.mem_cons_self
    have h2 := ih (fun b hb => h b (List.mem_cons_of_mem _ hb))
    omega
theorem okA_of_all {l : List G} (h : l.all glueOk = true) : okA l := fun g hg => List.all_eq_true.1 h g hg
end Go.Proofs.Ytocaonlmlafjmaa

/- Plain words on texts, no program in sight: bytes, letters, signs, widths, patterns. No condition. -/
namespace Go.Proofs.Ytocaonlmlafjmaa
set_option linter.unusedVariables false
set_option linter.unusedSimpArgs false

/-! ### bytes -/
def bl (s : ByteArray) : List Int := s.data.toList.map fun x => (x.toNat : Int)
theorem bl_len (s : ByteArray) : (bl s).length = s.size := by simp [bl]
theorem bl_at (s : ByteArray) (k : Nat) (h : k < s.size) : (bl s)[k]? = some ((s[k].toNat : Nat) : Int) := by
  have h2 : k < s.data.toList.length := by simpa using h
  simp only [bl, List.getElem?_map, List.getElem?_eq_getElem h2]
  rfl
theorem bl_byte (s : ByteArray) : ∀ z ∈ bl s, 0 ≤ z ∧ z ≤ 255 := by
  intro z hz
  simp only [bl, List.mem_map] at hz
  obtain ⟨x, _, rfl⟩ := hz
  have := x.toNat_lt
  omega
theorem bl_inj {s t : ByteArray} (h : bl s = bl t) : s = t := by
  have h1 : s.data.toList = t.data.toList := by
    unfold bl at h
    generalize s.data.toList = a at h ⊢
    generalize t.data.toList = b at h ⊢
    induction a generalizing b with
    | nil => cases b with
      | nil => rfl
      | cons y b => simp at h
    | cons x a ih => cases b with
      | nil => simp at h
      | cons y b =>
        simp only [List.map_cons, List.cons.injEq, Int.natCast_inj] at h
        rw [UInt8.toNat_inj.1 h.1, ih b h.2]
  cases s; cases t
  congr 1
  exact Array.toList_inj.1 h1
theorem bl_getD (s : ByteArray) (k : Nat) (h : k < s.size) : (bl s).getD k 0 = ((s[k].toNat : Nat) : Int) := by
  rw [List.getD_eq_getElem?_getD, bl_at s k h]; rfl
theorem bl_extract (s : ByteArray) (i j : Nat) : bl (s.extract i j) = ((bl s).drop i).take (j - i) := by
  unfold bl
  rw [ByteArray.data_extract, Array.toList_extract, List.extract_eq_take_drop, List.map_take, List.map_drop]
theorem bl_append (s t : ByteArray) : bl (s ++ t) = bl s ++ bl t := by
  unfold bl
  rw [ByteArray.data_append, Array.toList_append, List.map_append]
theorem bl_nil : bl ByteArray.empty = [] := rfl
theorem size_extract (s : ByteArray) (i j : Nat) (h : j ≤ s.size) : (s.extract i j).size = j - i := by
  rw [ByteArray.size_extract]; omega

def isSm (c : Int) : Bool := decide (97 ≤ c) && decide (c ≤ 122)
def isDg (c : Int) : Bool := decide (48 ≤ c) && decide (c ≤ 57)
def amB (l : List Int) (c : Int) : Bool := l.any fun x => x == c
def wordB (s : ByteArray) : Bool := (bl s).all isSm && inB s.size 1 20
theorem wordB_true {s : ByteArray} (h : wordB s = true) : (bl s).all isSm = true ∧ 1 ≤ s.size ∧ s.size ≤ 20 := by
  simp only [wordB, Bool.and_eq_true] at h
  have := inB_true h.2
  exact ⟨h.1, by omega, by omega⟩
theorem wordB_step {s : ByteArray} {k : Nat} {c : Int} (hall : (((bl s).take k).all isSm = true)) (hc : (bl s)[k]? = some c) (h : isSm c = true) : ((bl s).take (k + 1)).all isSm = true := by
  rw [all_snoc _ _ _ _ hc, hall, h]; rfl
theorem wordB_no {s : ByteArray} {k : Nat} {c : Int} (hc : (bl s)[k]? = some c) (h : isSm c = false) : wordB s = false := by
  unfold wordB; rw [all_false_of hc h]; rfl
theorem wordB_end {s : ByteArray} {k : Nat} (hall : ((bl s).take k).all isSm = true) (hk : ¬ k < s.size) : wordB s = inB s.size 1 20 := by
  rw [List.take_of_length_le (by rw [bl_len]; omega)] at hall
  unfold wordB
  rw [hall, Bool.true_and]

/-! ### two letters -/
def joinB (a b : Int) : Bool := a == 102 && amB [105, 106, 108, 102] b
def nearB (a b : Int) : Bool := (amB [118, 119, 121] a && amB [97, 101, 111] b) || (a == 114 && amB [110, 109] b)
def nearI (a b : Int) : Int := if nearB a b = true then 1 else 0
def lw (c : Int) : Int := if isSm c = true then (if amB [105, 106, 108] c = true then 3 else if amB [102, 114, 116] c = true then 4 else if amB [109, 119] c = true then 8 else 5) else 0
theorem lw_bd (c : Int) : 0 ≤ lw c ∧ lw c ≤ 8 := by
  unfold lw; repeat' split
  all_goals omega
theorem lw_pos (c : Int) : (0 < lw c) ↔ isSm c = true := by
  unfold lw; repeat' split
  all_goals simp_all
theorem nearI_bd (a b : Int) : 0 ≤ nearI a b ∧ nearI a b ≤ 1 := by
  unfold nearI; split <;> omega

/-! ### signs -/
def jn (s : ByteArray) (i : Nat) : Bool := decide (i + 1 < s.size) && joinB ((bl s).getD i 0) ((bl s).getD (i + 1) 0)
def sg (s : ByteArray) (i : Nat) : List ByteArray :=
  if i < s.size then (if jn s i = true then s.extract i (i + 2) :: sg s (i + 2) else s.extract i (i + 1) :: sg s (i + 1)) else []
termination_by s.size - i
theorem sg_two {s : ByteArray} {i : Nat} (h : i < s.size) (hj : jn s i = true) : sg s i = s.extract i (i + 2) :: sg s (i + 2) := by
  rw [sg, if_pos h, if_pos hj]
theorem sg_one {s : ByteArray} {i : Nat} (h : i < s.size) (hj : jn s i = false) : sg s i = s.extract i (i + 1) :: sg s (i + 1) := by
  rw [sg, if_pos h, if_neg (by simp [hj])]
theorem sg_end {s : ByteArray} {i : Nat} (h : ¬ i < s.size) : sg s i = [] := by
  rw [sg, if_neg h]
theorem jn_lt {s : ByteArray} {i : Nat} (h : jn s i = true) : i + 1 < s.size := by
  simp only [jn, Bool.and_eq_true, decide_eq_true_eq] at h
  exact h.1
theorem sg_len (s : ByteArray) (i : Nat) : (sg s i).length ≤ s.size - i := by
  by_cases h : i < s.size
  · cases hj : jn s i with
    | true =>
      have := jn_lt hj
      rw [sg_two h hj]
      have := sg_len s (i + 2)
      simp; omega
    | false =>
      rw [sg_one h hj]
      have := sg_len s (i + 1)
      simp; omega
  · rw [sg_end h]; simp
termination_by s.size - i
theorem sg_size (s : ByteArray) (i : Nat) : ∀ t ∈ sg s i, 1 ≤ t.size ∧ t.size ≤ 2 := by
  by_cases h : i < s.size
  · cases hj : jn s i with
    | true =>
      have h2 := jn_lt hj
      rw [sg_two h hj]
      have := sg_size s (i + 2)
      intro t ht
      rcases List.mem_cons.1 ht with rfl | ht
      · rw [size_extract _ _ _ (by omega)]; omega
      · exact this t ht
    | false =>
      rw [sg_one h hj]
      have := sg_size s (i + 1)
      intro t ht
      rcases List.mem_cons.1 ht with rfl | ht
      · rw [size_extract _ _ _ (by omega)]; omega
      · exact this t ht
  · rw [sg_end h]; intro t ht; cases ht
termination_by s.size - i
def signsL (s : ByteArray) : List ByteArray := if wordB s = true then sg s 0 else []
theorem signsL_bd (s : ByteArray) : (signsL s).length ≤ 20 := by
  unfold signsL
  split
  · rename_i h
    have := sg_len s 0
    have := wordB_true h
    omega
  · simp
theorem signsL_size (s : ByteArray) : ∀ t ∈ signsL s, 1 ≤ t.size ∧ t.size ≤ 2 := by
  unfold signsL
  split
  · exact sg_size s 0
  · intro t ht; cases ht
theorem signsL_nil (s : ByteArray) : signsL s = [] ↔ wordB s = false := by
  unfold signsL
  cases h : wordB s with
  | true =>
    have h1 := wordB_true h
    rw [if_pos rfl]
    cases hj : jn s 0 with
    | true => rw [sg_two (by omega) hj]; simp
    | false => rw [sg_one (by omega) hj]; simp
  | false => simp

/-! ### widths -/
def lettersW (t : ByteArray) : Int := sumOf lw (bl t)
def cW (L : List ByteArray) (k : Nat) : Int :=
  lettersW (L.getD k ByteArray.empty) - ((L.getD k ByteArray.empty).size - 1) - (if k + 1 < L.length then nearI ((bl (L.getD k ByteArray.empty)).getD ((L.getD k ByteArray.empty).size - 1) 0) ((bl (L.getD (k + 1) ByteArray.empty)).getD 0 0) else 0)
def wwTo (L : List ByteArray) : Nat → Int
  | 0 => 0
  | k + 1 => wwTo L k + cW L k
def widthW (s : ByteArray) : Int := if wordB s = true then wwTo (sg s 0) (sg s 0).length else -1
theorem lettersW_bd (t : ByteArray) : 0 ≤ lettersW t ∧ lettersW t ≤ 8 * t.size := by
  have := sumOf_bd lw 8 (bl t) (fun c _ => lw_bd c)
  rw [bl_len] at this
  exact this
theorem cW_bd (L : List ByteArray) (k : Nat) (h : ∀ t ∈ L, 1 ≤ t.size ∧ t.size ≤ 2) (hk : k < L.length) : -2 ≤ cW L k ∧ cW L k ≤ 16 := by
  have hm : L.getD k ByteArray.empty ∈ L := by
    rw [List.getD_eq_getElem?_getD, List.getElem?_eq_getElem hk]
    exact List.getElem_mem _
  have h1 := h _ hm
  have h2 := lettersW_bd (L.getD k ByteArray.empty)
  unfold cW
  split
  · have := nearI_bd ((bl (L.getD k ByteArray.empty)).getD ((L.getD k ByteArray.empty).size - 1) 0) ((bl (L.getD (k + 1) ByteArray.empty)).getD 0 0)
    omega
  · omega
theorem wwTo_bd (L : List ByteArray) (h : ∀ t ∈ L, 1 ≤ t.size ∧ t.size ≤ 2) (k : Nat) (hk : k ≤ L.length) : -2 * (k : Int) ≤ wwTo L k ∧ wwTo L k ≤ 16 * k := by
  induction k with
  | zero => simp [wwTo]
  | succ k ih =>
    have := ih (by omega)
    have := cW_bd L k h (by omega)
    rw [wwTo]
    omega
end Go.Proofs.Ytocaonlmlafjmaa

/- Plain arithmetic of badness: the cube law, that it never passes its bounds, and how it grows. No condition beyond those each lemma states. -/
namespace Go.Proofs.Ytocaonlmlafjmaa
set_option linter.unusedVariables false
set_option linter.unusedSimpArgs false

theorem cube_mono {a b : Int} (h0 : 0 ≤ a) (h : a ≤ b) : a * a * a ≤ b * b * b := by
  have h1 : a * a ≤ b * b := Int.mul_le_mul h h h0 (by omega)
  exact Int.mul_le_mul h1 h h0 (Int.mul_nonneg (by omega) (by omega))
theorem cube_nonneg {a : Int} (h0 : 0 ≤ a) : 0 ≤ a * a * a := Int.mul_nonneg (Int.mul_nonneg h0 h0) h0
theorem cube_pos {a : Int} (h0 : 0 < a) : 0 < a * a * a := Int.mul_pos (Int.mul_pos h0 h0) h0
theorem cube_scale (k a : Int) : (k * a) * (k * a) * (k * a) = (k * k * k) * (a * a * a) := by
  simp only [Int.mul_assoc, Int.mul_left_comm, Int.mul_comm]
theorem hund (n : Int) : 100 * n * n * n = 100 * (n * n * n) := by
  simp only [Int.mul_assoc]

/-- How bad it is: the third power of what is needed over that of the room. -/
def bad (n r : Int) : Int := if n = 0 then 0 else if r = 0 then 10000 else min 10000 (100 * n * n * n / (r * r * r))

theorem big_quot {n r : Int} (hr : 0 < r) (h : 5 * r < n) : 10000 ≤ 100 * n * n * n / (r * r * r) := by
  have hc := cube_pos hr
  have h1 : (5 * r) * (5 * r) * (5 * r) ≤ n * n * n := cube_mono (by omega) (by omega)
  rw [cube_scale] at h1
  rw [hund]
  refine Int.le_ediv_of_mul_le hc ?_
  generalize r * r * r = c at *
  generalize n * n * n = d at *
  omega

theorem bad_of_big {n r : Int} (hr : 0 < r) (h : 5 * r < n) : bad n r = 10000 := by
  have := big_quot hr h
  unfold bad
  rw [if_neg (by omega), if_neg (by omega)]
  omega

theorem quot_nonneg {n r : Int} (h0 : 0 ≤ n) (hr : 0 < r) : 0 ≤ 100 * n * n * n / (r * r * r) := by
  rw [hund]
  exact Int.ediv_nonneg (by have := cube_nonneg h0; omega) (by have := cube_pos hr; omega)

theorem bad_bounds {n r : Int} (h0 : 0 ≤ n) (hr : 0 ≤ r) : 0 ≤ bad n r ∧ bad n r ≤ 10000 := by
  unfold bad
  split
  · omega
  · split
    · omega
    · have := quot_nonneg h0 (show 0 < r by omega)
      omega

theorem cube_le {n : Int} (h0 : 0 ≤ n) (h1 : n ≤ 100000) : n * n * n ≤ 1000000000000000 := by
  have := cube_mono h0 h1
  omega

theorem sq_le {n m : Int} (h0 : 0 ≤ n) (h1 : n ≤ m) : n * n ≤ m * m := Int.mul_le_mul h1 h1 h0 (by omega)

/-- The bounds that the walk through the quotient needs. -/
theorem bad_parts {n r : Int} (h0 : 0 ≤ n) (h1 : n ≤ 100000) (h2 : 0 < r) (h3 : r ≤ 100000) :
    (0 ≤ 100 * n * n ∧ 100 * n * n ≤ 1000000000000) ∧ (0 ≤ 100 * n * n * n ∧ 100 * n * n * n ≤ 100000000000000000) ∧ (0 ≤ r * r ∧ r * r ≤ 10000000000) ∧ (1 ≤ r * r * r ∧ r * r * r ≤ 1000000000000000) ∧
    (0 ≤ 100 * n * n * n / (r * r * r) ∧ 100 * n * n * n / (r * r * r) ≤ 100000000000000000) := by
  have e1 : 100 * n * n = 100 * (n * n) := by simp only [Int.mul_assoc]
  have hn2 := sq_le h0 h1
  have hn0 : 0 ≤ n * n := Int.mul_nonneg h0 h0
  have hn3 := cube_le h0 h1
  have hn30 := cube_nonneg h0
  have hr2 := sq_le (show 0 ≤ r by omega) h3
  have hr0 : 0 ≤ r * r := Int.mul_nonneg (by omega) (by omega)
  have hr3 := cube_le (show 0 ≤ r by omega) h3
  have hr30 := cube_pos h2
  have hq := quot_nonneg h0 h2
  have hq2 : 100 * n * n * n / (r * r * r) ≤ 100 * n * n * n := Int.ediv_le_self _ (by rw [hund]; omega)
  rw [hund] at *
  rw [e1]
  refine ⟨by omega, by omega, by omega, by omega, hq, by omega⟩

theorem ediv_le_of_le {a b c d : Int} (h0 : 0 ≤ a) (hab : a ≤ b) (hd : 0 < d) (hdc : d ≤ c) : a / c ≤ b / d := by
  have h1 : a / c ≤ a / d := by
    refine Int.le_ediv_of_mul_le hd ?_
    have hq : 0 ≤ a / c := Int.ediv_nonneg h0 (by omega)
    exact Int.le_trans (Int.mul_le_mul_of_nonneg_left hdc hq) (Int.ediv_mul_le a (by omega))
  exact Int.le_trans h1 (Int.ediv_le_ediv hd hab)

theorem bad_more {n n' r : Int} (h0 : 0 ≤ n) (h : n ≤ n') (hr : 0 ≤ r) : bad n r ≤ bad n' r := by
  by_cases hn : n = 0
  · have := (bad_bounds (show 0 ≤ n' by omega) hr).1
    have e : bad n r = 0 := by unfold bad; rw [if_pos hn]
    omega
  · unfold bad
    rw [if_neg hn, if_neg (show ¬ n' = 0 by omega)]
    split
    · omega
    · have hc := cube_pos (show 0 < r by omega)
      have := ediv_le_of_le (a := 100 * n * n * n) (b := 100 * n' * n' * n') (c := r * r * r) (d := r * r * r) (by rw [hund]; have := cube_nonneg h0; omega) (by rw [hund, hund]; have := cube_mono h0 h; omega) hc (by omega)
      omega

theorem bad_wide {n r r' : Int} (h0 : 0 ≤ n) (hr : 0 ≤ r) (h : r ≤ r') : bad n r' ≤ bad n r := by
  by_cases hn : n = 0
  · unfold bad
    rw [if_pos hn, if_pos hn]
    omega
  · by_cases hr0 : r = 0
    · have := (bad_bounds h0 (show 0 ≤ r' by omega)).2
      have e : bad n r = 10000 := by unfold bad; rw [if_neg hn, if_pos hr0]
      omega
    · unfold bad
      rw [if_neg hn, if_neg hn, if_neg hr0, if_neg (show ¬ r' = 0 by omega)]
      have hc := cube_pos (show 0 < r by omega)
      have := ediv_le_of_le (a := 100 * n * n * n) (b := 100 * n * n * n) (c := r' * r' * r') (d := r * r * r) (by rw [hund]; have := cube_nonneg h0; omega) (by omega) hc (cube_mono (by omega) h)
      omega

theorem bad_self {n : Int} (h0 : 0 < n) : bad n n = 100 := by
  have hc := cube_pos h0
  unfold bad
  rw [if_neg (by omega), if_neg (by omega), hund, Int.mul_ediv_cancel _ (by omega)]
  omega

theorem bad_double (n r : Int) : bad (2 * n) (2 * r) = bad n r := by
  unfold bad
  by_cases hn : n = 0
  · rw [if_pos (by omega), if_pos hn]
  · rw [if_neg (by omega), if_neg hn]
    by_cases hr : r = 0
    · rw [if_pos (by omega), if_pos hr]
    · rw [if_neg (by omega), if_neg hr, hund, hund, cube_scale, cube_scale 2 r]
      rw [show 100 * (2 * 2 * 2 * (n * n * n)) = (2 * 2 * 2) * (100 * (n * n * n)) from by omega, Int.mul_ediv_mul_of_pos _ _ (by omega)]
def BadOf (n r : Int) : Int := if (0 ≤ n ∧ n ≤ 100000) ∧ (0 ≤ r ∧ r ≤ 100000) then bad n r else -1
def Looks (s : Bool) (b : Int) : Int := if 0 ≤ b ∧ b ≤ 10000 then (if b ≤ 12 then 1 else if s = false then 0 else if b < 100 then 2 else 3) else -1
def Cost (b c : Int) : Int := if (0 ≤ b ∧ b ≤ 10000) ∧ ((0 ≤ c ∧ c ≤ 10000) ∨ c = -10000) then (10 + b) * (10 + b) + (if c = -10000 then 0 else c * c) else -1
theorem Cost_forced {b : Int} (h : 0 ≤ b ∧ b ≤ 10000) : Cost b (-10000) = (10 + b) * (10 + b) := by
  unfold Cost
  rw [if_pos ⟨h, .inr rfl⟩, if_pos rfl]
  omega
end Go.Proofs.Ytocaonlmlafjmaa

/- Plain words on items, no program in sight: valid items, where a line may end and start, boxes, the items of a line. No condition. -/
namespace Go.Proofs.Ytocaonlmlafjmaa
set_option linter.unusedVariables false
set_option linter.unusedSimpArgs false

def rigidB (i : I) : Bool := (i.g.st == 0) && (i.g.sh == 0) && (i.g.o == 0)
def plainB (i : I) : Bool := (i.c == 0) && !i.m
def costB (c : Int) : Bool := inB c 0 10000 || (c == -10000)
def itemOk (i : I) : Bool := glueOk i.g && (if i.k = 1 then rigidB i && plainB i else if i.k = 2 then plainB i else if i.k = 3 then rigidB i && costB i.c else false)
def items60 (l : List I) : Bool := l.all itemOk && decide (l.length ≤ 60)
theorem items60_true {l : List I} (h : items60 l = true) : (∀ i ∈ l, itemOk i = true) ∧ l.length ≤ 60 := by
  simp only [items60, Bool.and_eq_true, decide_eq_true_eq] at h
  exact ⟨List.all_eq_true.1 h.1, h.2⟩
theorem items60_step {l : List I} {k : Nat} {i : I} (hall : (l.take k).all itemOk = true) (hi : l[k]? = some i) (h : itemOk i = true) : (l.take (k + 1)).all itemOk = true := by
  rw [all_snoc _ _ _ _ hi, hall, h]; rfl
theorem items60_no {l : List I} {k : Nat} {i : I} (hi : l[k]? = some i) (h : itemOk i = false) : items60 l = false := by
  unfold items60; rw [all_false_of hi h]; rfl
theorem items60_end {l : List I} {k n : Nat} (hall : (l.take k).all itemOk = true) (hl : l.length = n) (hk : ¬ k < n) : items60 l = decide ((n : Int) ≤ 60) := by
  rw [List.take_of_length_le (by omega)] at hall
  unfold items60
  rw [hall, hl, Bool.true_and]
  exact decide_eq_decide.2 (by omega)
theorem itemOk_bd {i : I} (h : itemOk i = true) : glueOk i.g = true ∧ (i.k = 1 ∨ i.k = 2 ∨ i.k = 3) ∧ -10000 ≤ i.c ∧ i.c ≤ 10000 ∧ (i.c < 0 → i.c = -10000) ∧ (i.k = 3 → i.g.st = 0 ∧ i.g.sh = 0 ∧ i.g.o = 0) := by
  simp only [itemOk, Bool.and_eq_true] at h
  refine ⟨h.1, ?_⟩
  have h2 := h.2
  split at h2
  · rename_i hk
    simp [rigidB, plainB] at h2
    omega
  · split at h2
    · rename_i hk
      simp [plainB] at h2
      omega
    · split at h2
      · rename_i hk
        simp only [Bool.and_eq_true, costB, Bool.or_eq_true, beq_iff_eq, rigidB] at h2
        rcases h2.2 with h3 | h3
        · have := inB_true h3; omega
        · omega
      · cases h2

def stopB (i : I) : Bool := (i.k == 1) || ((i.k == 3) && decide (i.c < 0))
def forcedB (i : I) : Bool := (i.k == 3) && (i.c == -10000)
theorem forced_iff {i : I} (h : itemOk i = true) : forcedB i = ((i.k == 3) && decide (i.c < 0)) := by
  have := itemOk_bd h
  unfold forcedB
  congr 1
  rw [Bool.eq_iff_iff]
  simp
  omega
def mayB (l : List I) (n : Nat) : Bool :=
  match l[n]? with
  | none => false
  | some i => if i.k = 2 then (decide (0 < n) && (match l[n - 1]? with | some j => j.k == 1 | none => false)) else ((i.k == 3) && decide (i.c < 10000))
def mayI (l : List I) (n : Int) : Bool := inB n 0 ((l.length : Int) - 1) && mayB l n.toNat
/-- The first place from n on at which a line may start, or the end. -/
def stA (l : List I) (n : Nat) : Nat := if h : n < l.length then (if stopB l[n] = true then n else stA l (n + 1)) else n
termination_by l.length - n
theorem stA_stop {l : List I} {n : Nat} {i : I} (h : l[n]? = some i) (hs : stopB i = true) : stA l n = n := by
  obtain ⟨hn, rfl⟩ := List.getElem?_eq_some_iff.1 h
  rw [stA, dif_pos hn, if_pos hs]
theorem stA_go {l : List I} {n : Nat} {i : I} (h : l[n]? = some i) (hs : stopB i = false) : stA l n = stA l (n + 1) := by
  obtain ⟨hn, rfl⟩ := List.getElem?_eq_some_iff.1 h
  rw [stA, dif_pos hn, if_neg (by rw [hs]; exact Bool.false_ne_true)]
theorem stA_end {l : List I} {n : Nat} (h : ¬ n < l.length) : stA l n = n := by
  rw [stA, dif_neg h]
theorem stA_bd (l : List I) (n : Nat) (h : n ≤ l.length) : n ≤ stA l n ∧ stA l n ≤ l.length := by
  by_cases hn : n < l.length
  · have hi : l[n]? = some (l[n]) := List.getElem?_eq_getElem hn
    cases hs : stopB l[n] with
    | true => rw [stA_stop hi hs]; omega
    | false =>
      rw [stA_go hi hs]
      have := stA_bd l (n + 1) (by omega)
      omega
  · rw [stA_end hn]; omega
termination_by l.length - n
theorem stA_at {l : List I} {n : Nat} {i : I} (h : l[stA l n]? = some i) : stopB i = true := by
  by_cases hn : n < l.length
  · have hi : l[n]? = some (l[n]) := List.getElem?_eq_getElem hn
    cases hs : stopB l[n] with
    | true =>
      rw [stA_stop hi hs, hi] at h
      injection h with h
      rw [← h]; exact hs
    | false =>
      rw [stA_go hi hs] at h
      exact stA_at h
  · rw [stA_end hn, List.getElem?_eq_none (by omega)] at h
    cases h
termination_by l.length - n
theorem stA_before {l : List I} {n k : Nat} {i : I} (hk : n ≤ k) (hlt : k < stA l n) (h : l[k]? = some i) : stopB i = false := by
  by_cases hn : n < l.length
  · have hi : l[n]? = some (l[n]) := List.getElem?_eq_getElem hn
    cases hs : stopB l[n] with
    | true => rw [stA_stop hi hs] at hlt; omega
    | false =>
      by_cases e : k = n
      · subst e
        rw [hi] at h
        injection h with h
        rw [← h]; exact hs
      · rw [stA_go hi hs] at hlt
        exact stA_before (by omega) hlt h
  · rw [stA_end hn] at hlt; omega
termination_by l.length - n
def lineS (l : List I) (after : Int) : Int := if (items60 l && inB after (-1) ((l.length : Int) - 1)) = true then (stA l (after + 1).toNat : Int) else -1

/-! ### boxes -/
def boxB (i : I) : Bool := i.k == 1
def boxTo (l : List I) (k : Nat) : List Int := ((l.take k).filter boxB).map fun i => i.g.w
def boxesW (l : List I) : List Int := if items60 l = true then boxTo l l.length else []
theorem boxTo_zero (l : List I) : boxTo l 0 = [] := by simp [boxTo]
theorem boxTo_yes {l : List I} {k : Nat} {i : I} (hi : l[k]? = some i) (h : boxB i = true) : boxTo l (k + 1) = boxTo l k ++ [i.g.w] := by
  unfold boxTo
  rw [take_snoc' _ _ _ hi, List.filter_append, List.map_append]
  simp [h]
theorem boxTo_no {l : List I} {k : Nat} {i : I} (hi : l[k]? = some i) (h : boxB i = false) : boxTo l (k + 1) = boxTo l k := by
  unfold boxTo
  rw [take_snoc' _ _ _ hi, List.filter_append, List.map_append]
  simp [h]
theorem boxTo_len (l : List I) (k : Nat) : (boxTo l k).length ≤ k := by
  unfold boxTo
  have := List.length_filter_le boxB (l.take k)
  have := List.length_take_le k l
  simp; omega
theorem boxTo_full (l : List I) (k n : Nat) (hl : l.length = n) (hk : ¬ k < n) : boxTo l k = boxTo l l.length := by
  unfold boxTo
  rw [List.take_of_length_le (by omega), List.take_length]

/-! ### the items of a line -/
def noForced (l : List I) (a b : Nat) : Bool := (List.range b).all fun k => decide (k < a) || (match l[k]? with | some i => !forcedB i | none => true)
def lineOk (l : List I) (after to : Int) : Bool :=
  items60 l && inB after (-1) (to - 1) && mayI l to && ((after == -1) || mayI l after) && decide ((stA l (after + 1).toNat : Int) ≤ to) && noForced l (after + 1).toNat to.toNat
def notBr (l : List I) (k : Nat) : Bool := match l[k]? with | some i => !(i.k == 3) | none => false
def liTo (l : List I) (a : Nat) : Nat → List Nat
  | 0 => []
  | k + 1 => if decide (a ≤ k) && notBr l k then liTo l a k ++ [k] else liTo l a k
def lineI (l : List I) (after to : Int) : List Nat := if lineOk l after to = true then liTo l (stA l (after + 1).toNat) to.toNat else []
theorem liTo_zero (l : List I) (a k : Nat) (h : k ≤ a) : liTo l a k = [] := by
  induction k with
  | zero => rfl
  | succ k ih =>
    rw [liTo, ih (by omega)]
    have : decide (a ≤ k) = false := by simp; omega
    rw [this]; rfl
theorem liTo_yes {l : List I} {a k : Nat} (h : a ≤ k) (hb : notBr l k = true) : liTo l a (k + 1) = liTo l a k ++ [k] := by
  rw [liTo, hb]; simp [h]
theorem liTo_no {l : List I} {a k : Nat} (hb : notBr l k = false) : liTo l a (k + 1) = liTo l a k := by
  rw [liTo, hb]; simp
theorem liTo_len (l : List I) (a k : Nat) : (liTo l a k).length ≤ k := by
  induction k with
  | zero => simp [liTo]
  | succ k ih =>
    rw [liTo]
    split
    · rw [List.length_append, List.length_singleton]; omega
    · omega
theorem liTo_mem {l : List I} {a k : Nat} : ∀ x ∈ liTo l a k, a ≤ x ∧ x < k ∧ notBr l x = true := by
  induction k with
  | zero => intro x hx; cases hx
  | succ k ih =>
    intro x hx
    rw [liTo] at hx
    split at hx
    · rename_i hb
      simp only [Bool.and_eq_true, decide_eq_true_eq] at hb
      rcases List.mem_append.1 hx with hx | hx
      · have := ih x hx; exact ⟨this.1, by omega, this.2.2⟩
      · simp at hx; subst hx; exact ⟨hb.1, by omega, hb.2⟩
    · have := ih x hx; exact ⟨this.1, by omega, this.2.2⟩
theorem liTo_asc {l : List I} {a k : Nat} : (liTo l a k).Pairwise (· < ·) := by
  induction k with
  | zero => exact List.Pairwise.nil
  | succ k ih =>
    rw [liTo]
    split
    · rw [List.pairwise_append]
      refine ⟨ih, by simp, ?_⟩
      intro x hx y hy
      simp at hy; subst hy
      exact (liTo_mem x hx).2.1
    · exact ih

/-! ### the glue of a line -/
def gAt (l : List I) (k : Nat) : G := (l.getD k default).g
def glTo (l : List I) (a k : Nat) : List G := (liTo l a k).map (gAt l)
def isBr (l : List I) (k : Nat) : Bool := match l[k]? with | some i => i.k == 3 | none => false
def lineGs (l : List I) (after to : Int) : List G := glTo l (stA l (after + 1).toNat) to.toNat ++ (if isBr l to.toNat = true then [gAt l to.toNat] else [])
def lineG (l : List I) (after to : Int) : G := if lineOk l after to = true then totG (lineGs l after to) else ⟨0, 0, 0, 0⟩
theorem glTo_len (l : List I) (a k : Nat) : (glTo l a k).length ≤ k := by
  unfold glTo; simp; exact liTo_len l a k
theorem glTo_ok {l : List I} (h : items60 l = true) (a k : Nat) (hk : k ≤ l.length) : okA (glTo l a k) := by
  intro g hg
  unfold glTo at hg
  obtain ⟨x, hx, rfl⟩ := List.mem_map.1 hg
  have h1 := liTo_mem x hx
  have hlt : x < l.length := by omega
  unfold gAt
  rw [List.getD_eq_getElem?_getD, List.getElem?_eq_getElem hlt]
  exact (itemOk_bd ((items60_true h).1 _ (List.getElem_mem hlt))).1
theorem lineGs_ok {l : List I} (h : items60 l = true) {after to : Int} (h0 : 0 ≤ to) (h1 : to < l.length) : okA (lineGs l after to) := by
  intro g hg
  unfold lineGs at hg
  rcases List.mem_append.1 hg with hg | hg
  · exact glTo_ok h _ _ (by omega) g hg
  · split at hg
    · simp at hg
      subst hg
      have hlt : to.toNat < l.length := by omega
      unfold gAt
      rw [List.getD_eq_getElem?_getD, List.getElem?_eq_getElem hlt]
      exact (itemOk_bd ((items60_true h).1 _ (List.getElem_mem hlt))).1
    · cases hg
theorem lineGs_len {l : List I} (h : items60 l = true) {after to : Int} (h0 : 0 ≤ to) (h1 : to < l.length) : (lineGs l after to).length ≤ 60 := by
  have h60 := (items60_true h).2
  have := glTo_len l (stA l (after + 1).toNat) to.toNat
  unfold lineGs
  rw [List.length_append]
  split <;> simp <;> omega
end Go.Proofs.Ytocaonlmlafjmaa

/- Plain words on patterns, no program in sight: which texts are patterns, their letters, their levels, the levels of a word. No condition. -/
namespace Go.Proofs.Ytocaonlmlafjmaa
set_option linter.unusedVariables false
set_option linter.unusedSimpArgs false

def dgPrev (l : List Int) (k : Nat) : Bool := decide (0 < k) && isDg (l.getD (k - 1) 0)
def ends (l : List Int) (k : Nat) : Bool := k == 0 || k + 1 == l.length
def pOk (l : List Int) (k : Nat) : Bool := isSm (l.getD k 0) || (isDg (l.getD k 0) && !dgPrev l k) || ((l.getD k 0) == 46 && ends l k)
def pAll (l : List Int) (k : Nat) : Bool := (List.range k).all (pOk l)
def smN (l : List Int) (k : Nat) : Int := ((l.take k).filter isSm).length
def patB (p : ByteArray) : Bool := pAll (bl p) p.size && decide (0 < smN (bl p) p.size) && decide (p.size ≤ 12)
theorem pAll_succ (l : List Int) (k : Nat) : pAll l (k + 1) = (pAll l k && pOk l k) := by
  simp [pAll, List.range_succ]
theorem pAll_mono {l : List Int} {k n : Nat} (h : pAll l n = true) (hk : k < n) : pOk l k = true := by
  simp only [pAll, List.all_eq_true, List.mem_range] at h
  exact h k hk
theorem patB_no {p : ByteArray} {k : Nat} (hk : k < p.size) (h : pOk (bl p) k = false) : patB p = false := by
  cases hb : patB p with
  | false => rfl
  | true =>
    simp only [patB, Bool.and_eq_true] at hb
    rw [pAll_mono hb.1.1 hk] at h
    cases h
theorem patB_true {p : ByteArray} (h : patB p = true) : pAll (bl p) p.size = true ∧ 0 < smN (bl p) p.size ∧ p.size ≤ 12 := by
  simp only [patB, Bool.and_eq_true, decide_eq_true_eq] at h
  exact ⟨h.1.1, h.1.2, h.2⟩
theorem patB_end {p : ByteArray} {k : Nat} (hall : pAll (bl p) k = true) (hk : k = p.size) : patB p = (decide (0 < smN (bl p) k) && decide ((p.size : Int) ≤ 12)) := by
  subst hk
  unfold patB
  rw [hall, Bool.true_and]
  congr 1
  exact decide_eq_decide.2 (by omega)
theorem smN_zero (l : List Int) : smN l 0 = 0 := by simp [smN]
theorem smN_bd (l : List Int) (k : Nat) : 0 ≤ smN l k ∧ smN l k ≤ k := by
  unfold smN
  have := List.length_filter_le isSm (l.take k)
  have := List.length_take_le k l
  omega
theorem smN_yes {l : List Int} {k : Nat} {c : Int} (hc : l[k]? = some c) (h : isSm c = true) : smN l (k + 1) = smN l k + 1 := by
  unfold smN
  rw [take_snoc' _ _ _ hc, List.filter_append]
  simp [h]
theorem smN_no {l : List Int} {k : Nat} {c : Int} (hc : l[k]? = some c) (h : isSm c = false) : smN l (k + 1) = smN l k := by
  unfold smN
  rw [take_snoc' _ _ _ hc, List.filter_append]
  simp [h]
theorem dg_not_sm {c : Int} (h : isDg c = true) : isSm c = false := by
  simp [isDg] at h
  simp [isSm]; omega
theorem sm_not_dg {c : Int} (h : isSm c = true) : isDg c = false := by
  cases hd : isDg c with
  | false => rfl
  | true => rw [dg_not_sm hd] at h; cases h

/-! ### letters and levels -/
def patTo (p : ByteArray) : Nat → ByteArray
  | 0 => ByteArray.empty
  | k + 1 => if isDg ((bl p).getD k 0) = true then patTo p k else patTo p k ++ p.extract k (k + 1)
def patS (p : ByteArray) : ByteArray := if patB p = true then patTo p p.size else ByteArray.empty
def lvO (l : List Int) : Nat → List Int × Int
  | 0 => ([], 0)
  | k + 1 => if isDg (l.getD k 0) = true then ((lvO l k).1, l.getD k 0 - 48) else ((lvO l k).1 ++ [(lvO l k).2], 0)
def lvAll (l : List Int) (k : Nat) : List Int := (lvO l k).1 ++ [(lvO l k).2]
def patLv (p : ByteArray) : List Int := if patB p = true then lvAll (bl p) p.size else []
theorem bl_patTo (p : ByteArray) (k : Nat) (hk : k ≤ p.size) : bl (patTo p k) = ((bl p).take k).filter fun c => !isDg c := by
  induction k with
  | zero => rfl
  | succ k ih =>
    have hc := bl_at p k (by omega)
    have hg := bl_getD p k (by omega)
    rw [patTo, take_snoc' _ _ _ hc, List.filter_append, ← ih (by omega), hg]
    split
    · rename_i h; simp [h]
    · rename_i h
      simp at h
      rw [bl_append, bl_extract]
      congr 1
      have e : ((bl p).drop k).take (k + 1 - k) = [((p[k].toNat : Nat) : Int)] := by
        rw [show k + 1 - k = 1 by omega, List.take_one, List.head?_drop, hc]; rfl
      rw [e]
      simp [h]
theorem size_bl (s : ByteArray) : s.size = (bl s).length := (bl_len s).symm
theorem patTo_size (p : ByteArray) (k : Nat) (hk : k ≤ p.size) : (patTo p k).size ≤ k := by
  rw [size_bl, bl_patTo p k hk]
  have := List.length_filter_le (fun c => !isDg c) ((bl p).take k)
  have := List.length_take_le k (bl p)
  omega
theorem lvO_len (l : List Int) (k : Nat) (hk : k ≤ l.length) : (lvO l k).1.length = ((l.take k).filter fun c => !isDg c).length := by
  induction k with
  | zero => rfl
  | succ k ih =>
    have hc : l[k]? = some (l.getD k 0) := by
      rw [List.getD_eq_getElem?_getD, List.getElem?_eq_getElem (by omega)]; rfl
    rw [lvO, take_snoc' _ _ _ hc, List.filter_append, List.length_append, ← ih (by omega)]
    generalize l.getD k 0 = c
    cases h : isDg c <;> simp [h]
theorem lvAll_len (l : List Int) (k : Nat) (hk : k ≤ l.length) : (lvAll l k).length = ((l.take k).filter fun c => !isDg c).length + 1 := by
  simp [lvAll, lvO_len l k hk]
theorem lvO_bd (l : List Int) (k : Nat) : (∀ x ∈ (lvO l k).1, 0 ≤ x ∧ x ≤ 9) ∧ 0 ≤ (lvO l k).2 ∧ (lvO l k).2 ≤ 9 := by
  induction k with
  | zero => simp [lvO]
  | succ k ih =>
    rw [lvO]
    split
    · rename_i h
      simp [isDg] at h
      simp only [List.getD_eq_getElem?_getD]
      exact ⟨ih.1, by omega, by omega⟩
    · refine ⟨?_, by simp, by simp⟩
      intro x hx
      rcases List.mem_append.1 hx with hx | hx
      · exact ih.1 x hx
      · simp at hx; subst hx; exact ih.2
theorem lvAll_bd (l : List Int) (k : Nat) : ∀ x ∈ lvAll l k, 0 ≤ x ∧ x ≤ 9 := by
  intro x hx
  rcases List.mem_append.1 hx with hx | hx
  · exact (lvO_bd l k).1 x hx
  · simp at hx; subst hx; exact (lvO_bd l k).2
theorem lvAll_zero (l : List Int) : lvAll l 0 = [0] := rfl
theorem lvAll_dg {l : List Int} {k : Nat} (h : isDg (l.getD k 0) = true) : lvAll l (k + 1) = (lvO l k).1 ++ [l.getD k 0 - 48] := by
  unfold lvAll; rw [lvO, if_pos h]
theorem lvAll_no {l : List Int} {k : Nat} (h : isDg (l.getD k 0) = false) : lvAll l (k + 1) = lvAll l k ++ [0] := by
  unfold lvAll; rw [lvO, if_neg (by rw [h]; exact Bool.false_ne_true)]

/-! ### lists of texts -/
def pats20 (l : List ByteArray) : Bool := l.all patB && decide (l.length ≤ 20)
def words12 (l : List ByteArray) : Bool := l.all wordB && decide (l.length ≤ 12)

/-! ### the levels of a word -/
def bump (out : List Int) (place lev : Int) : List Int := if 0 ≤ place ∧ place < out.length then out.set place.toNat (max (out.getD place.toNat 0) lev) else out
theorem bump_len (out : List Int) (p x : Int) : (bump out p x).length = out.length := by
  unfold bump; split <;> simp
/-- The levels laid at one place, the first k of them. -/
def layK (lv : List Int) (at_ : Nat) (out : List Int) : Nat → List Int
  | 0 => out
  | k + 1 => bump (layK lv at_ out k) ((at_ : Int) + k - 1) (lv.getD k 0)
theorem layK_len (lv : List Int) (a : Nat) (out : List Int) (k : Nat) : (layK lv a out k).length = out.length := by
  induction k with
  | zero => rfl
  | succ k ih => rw [layK, bump_len, ih]
def fits (d t : ByteArray) (a : Nat) : Bool := bl (d.extract a (a + t.size)) == bl t
def layAt (d t : ByteArray) (lv : List Int) (out : List Int) : Nat → List Int
  | 0 => out
  | a + 1 => if fits d t a = true then layK lv a (layAt d t lv out a) lv.length else layAt d t lv out a
theorem layAt_len (d t : ByteArray) (lv : List Int) (out : List Int) (a : Nat) : (layAt d t lv out a).length = out.length := by
  induction a with
  | zero => rfl
  | succ a ih => rw [layAt]; split <;> simp [layK_len, ih]
def layP (d p : ByteArray) (out : List Int) : List Int := layAt d (patS p) (patLv p) out (d.size + 1 - (patS p).size)
theorem layP_len (d p : ByteArray) (out : List Int) : (layP d p out).length = out.length := layAt_len ..
def layL (d : ByteArray) (out : List Int) (l : List ByteArray) : List Int := l.foldl (fun o p => layP d p o) out
theorem layL_len (d : ByteArray) (l : List ByteArray) : ∀ out : List Int, (layL d out l).length = out.length := by
  induction l with
  | nil => intro out; rfl
  | cons p l ih => intro out; rw [layL, List.foldl_cons]; exact (ih _).trans (layP_len d p out)
theorem layL_snoc (d : ByteArray) (out : List Int) (l : List ByteArray) (k : Nat) (p : ByteArray) (h : l[k]? = some p) : layL d out (l.take (k + 1)) = layP d p (layL d out (l.take k)) := by
  rw [take_snoc' _ _ _ h, layL, List.foldl_append]; rfl
def dotted (s : ByteArray) : ByteArray := (⟨#[46]⟩ : ByteArray) ++ s ++ (⟨#[46]⟩ : ByteArray)
def levelsW (s : ByteArray) (l : List ByteArray) : List Int := if wordB s = true ∧ pats20 l = true then layL (dotted s) (List.replicate (s.size + 1) 0) l else []
def In9 (l : List Int) : Prop := ∀ x ∈ l, 0 ≤ x ∧ x ≤ 9
theorem bump_9 {out : List Int} {p x : Int} (h : In9 out) (hx : 0 ≤ x ∧ x ≤ 9) : In9 (bump out p x) := by
  unfold bump
  split
  · rename_i hp
    intro y hy
    rcases List.mem_or_eq_of_mem_set hy with hy | rfl
    · exact h y hy
    · have hm : out.getD p.toNat 0 ∈ out := by
        rw [List.getD_eq_getElem?_getD, List.getElem?_eq_getElem (by omega)]
        exact List.getElem_mem _
      have := h _ hm
      omega
  · exact h
theorem getD_9 {l : List Int} (h : In9 l) (k : Nat) : 0 ≤ l.getD k 0 ∧ l.getD k 0 ≤ 9 := by
  rw [List.getD_eq_getElem?_getD]
  cases hk : l[k]? with
  | none => simp
  | some x => exact h x (List.mem_of_getElem? hk)
theorem layK_9 {lv : List Int} (hv : In9 lv) {a : Nat} {out : List Int} (h : In9 out) (k : Nat) : In9 (layK lv a out k) := by
  induction k with
  | zero => exact h
  | succ k ih => rw [layK]; exact bump_9 ih (getD_9 hv k)
theorem layAt_9 {d t : ByteArray} {lv : List Int} (hv : In9 lv) {out : List Int} (h : In9 out) (a : Nat) : In9 (layAt d t lv out a) := by
  induction a with
  | zero => exact h
  | succ a ih =>
    rw [layAt]; split
    · exact layK_9 hv ih _
    · exact ih
theorem patLv_9 (p : ByteArray) : In9 (patLv p) := by
  unfold patLv; split
  · exact lvAll_bd _ _
  · intro x hx; cases hx
theorem layP_9 {d p : ByteArray} {out : List Int} (h : In9 out) : In9 (layP d p out) := layAt_9 (patLv_9 p) h _
theorem layL_9 {d : ByteArray} (l : List ByteArray) : ∀ {out : List Int}, In9 out → In9 (layL d out l) := by
  induction l with
  | nil => intro out h; exact h
  | cons p l ih => intro out h; exact ih (layP_9 h)
end Go.Proofs.Ytocaonlmlafjmaa

/- Plain words on hyphens, no program in sight: the places of a word's hyphens, and the parts between them. No condition. -/
namespace Go.Proofs.Ytocaonlmlafjmaa
set_option linter.unusedVariables false
set_option linter.unusedSimpArgs false

def hyB (lev : List Int) (k : Nat) : Bool := decide (2 ≤ k) && decide (k + 3 < lev.length) && (lev.getD k 0 % 2 == 1)
def hpTo (lev : List Int) : Nat → List Nat
  | 0 => []
  | k + 1 => if hyB lev k = true then hpTo lev k ++ [k] else hpTo lev k
def placesN (s : ByteArray) (l : List ByteArray) : List Nat := hpTo (levelsW s l) (levelsW s l).length
def toI (l : List Nat) : List Int := l.map fun (k : Nat) => (k : Int)
theorem toI_len (l : List Nat) : (toI l).length = l.length := by simp [toI]
theorem toI_snoc (l : List Nat) (k : Nat) : toI (l ++ [k]) = toI l ++ [(k : Int)] := by simp [toI]
theorem toI_at {l : List Nat} {k x : Nat} (h : l[k]? = some x) : (toI l)[k]? = some (x : Int) := by simp [toI, h]
theorem hpTo_yes {lev : List Int} {k : Nat} (h : hyB lev k = true) : hpTo lev (k + 1) = hpTo lev k ++ [k] := by rw [hpTo, if_pos h]
theorem hpTo_no {lev : List Int} {k : Nat} (h : hyB lev k = false) : hpTo lev (k + 1) = hpTo lev k := by rw [hpTo, if_neg (by simp [h])]
theorem hpTo_two (lev : List Int) : hpTo lev 2 = [] := by simp [hpTo, hyB]
theorem hpTo_late (lev : List Int) (k : Nat) (h : lev.length ≤ k + 3) : ∀ m, hpTo lev (k + m) = hpTo lev k := by
  intro m
  induction m with
  | zero => rfl
  | succ m ih =>
    rw [← Nat.add_assoc, hpTo_no (by unfold hyB; rw [show decide (k + m + 3 < lev.length) = false by simp; omega, Bool.and_false, Bool.false_and]), ih]
theorem hpTo_end {lev : List Int} {k : Nat} (h : lev.length ≤ k + 3) (hk : k ≤ lev.length) : hpTo lev lev.length = hpTo lev k := by
  have := hpTo_late lev k h (lev.length - k)
  rwa [show k + (lev.length - k) = lev.length by omega] at this
theorem hpTo_small {lev : List Int} {k : Nat} (h : lev.length ≤ k) : hpTo lev k = hpTo lev lev.length := by
  have := hpTo_late lev lev.length (by omega) (k - lev.length)
  rwa [show lev.length + (k - lev.length) = k by omega] at this
theorem hpTo_len (lev : List Int) (k : Nat) : (hpTo lev k).length ≤ k := by
  induction k with
  | zero => simp [hpTo]
  | succ k ih =>
    rw [hpTo]
    split
    · rw [List.length_append, List.length_singleton]; omega
    · omega
theorem hpTo_mem {lev : List Int} {k : Nat} : ∀ x ∈ hpTo lev k, x < k ∧ hyB lev x = true := by
  induction k with
  | zero => intro x hx; cases hx
  | succ k ih =>
    intro x hx
    rw [hpTo] at hx
    split at hx
    · rename_i hb
      rcases List.mem_append.1 hx with hx | hx
      · have := ih x hx; exact ⟨by omega, this.2⟩
      · simp at hx; subst hx; exact ⟨by omega, hb⟩
    · have := ih x hx; exact ⟨by omega, this.2⟩
theorem hpTo_asc {lev : List Int} {k : Nat} : (hpTo lev k).Pairwise (· < ·) := by
  induction k with
  | zero => exact List.Pairwise.nil
  | succ k ih =>
    rw [hpTo]
    split
    · rw [List.pairwise_append]
      refine ⟨ih, by simp, ?_⟩
      intro a ha b hb
      simp at hb; subst hb
      exact (hpTo_mem a ha).1
    · exact ih
theorem hyB_true {lev : List Int} {k : Nat} (h : hyB lev k = true) : 2 ≤ k ∧ k + 3 < lev.length ∧ lev.getD k 0 % 2 = 1 := by
  simp only [hyB, Bool.and_eq_true, decide_eq_true_eq, beq_iff_eq] at h
  exact ⟨h.1.1, h.1.2, h.2⟩

/-! ### the levels' own length -/
theorem levelsW_len {s : ByteArray} {l : List ByteArray} (h1 : wordB s = true) (h2 : pats20 l = true) : (levelsW s l).length = s.size + 1 := by
  unfold levelsW
  rw [if_pos ⟨h1, h2⟩, layL_len]
  simp
theorem levelsW_no {s : ByteArray} {l : List ByteArray} (h : wordB s = false ∨ pats20 l = false) : levelsW s l = [] := by
  unfold levelsW
  rw [if_neg]
  rcases h with h | h <;> simp [h]
theorem levelsW_bd (s : ByteArray) (l : List ByteArray) : (levelsW s l).length ≤ 21 := by
  unfold levelsW
  split
  · rename_i h
    have := wordB_true h.1
    rw [layL_len]
    simp; omega
  · simp
theorem levelsW_9 (s : ByteArray) (l : List ByteArray) : In9 (levelsW s l) := by
  unfold levelsW
  split
  · refine layL_9 _ ?_
    intro x hx
    simp at hx
    omega
  · intro x hx; cases hx

/-! ### parts -/
def fromAt (P : List Nat) (k : Nat) : Nat := if k = 0 then 0 else P.getD (k - 1) 0
def partTo (s : ByteArray) (P : List Nat) : Nat → List ByteArray
  | 0 => []
  | k + 1 => partTo s P k ++ [s.extract (fromAt P k) (P.getD k 0)]
def partsOf (s : ByteArray) (P : List Nat) : List ByteArray := partTo s P P.length ++ [s.extract (fromAt P P.length) s.size]
def partsW (s : ByteArray) (l : List ByteArray) : List ByteArray := if wordB s = true ∧ pats20 l = true then partsOf s (placesN s l) else []
theorem partTo_len (s : ByteArray) (P : List Nat) (k : Nat) : (partTo s P k).length = k := by
  induction k with
  | zero => rfl
  | succ k ih => rw [partTo]; simp [ih]
theorem fromAt_succ (P : List Nat) (k : Nat) : fromAt P (k + 1) = P.getD k 0 := by simp [fromAt]
theorem fromAt_zero (P : List Nat) : fromAt P 0 = 0 := by simp [fromAt]
/-- The places lie one behind the other, within the word. -/
theorem places_at {s : ByteArray} {l : List ByteArray} (h1 : wordB s = true) (h2 : pats20 l = true) {k : Nat} (hk : k < (placesN s l).length) :
    fromAt (placesN s l) k + 2 ≤ (placesN s l).getD k 0 + 1 ∧ fromAt (placesN s l) k < (placesN s l).getD k 0 ∧ (placesN s l).getD k 0 + 3 ≤ s.size := by
  have hg : (placesN s l).getD k 0 = (placesN s l)[k] := by rw [List.getD_eq_getElem?_getD, List.getElem?_eq_getElem hk]; rfl
  have hm : (placesN s l)[k] ∈ placesN s l := List.getElem_mem _
  have hb := hyB_true (hpTo_mem _ hm).2
  have hl := levelsW_len h1 h2
  rw [hg]
  have hf : fromAt (placesN s l) k < (placesN s l)[k] := by
    unfold fromAt
    split
    · omega
    · have hk1 : k - 1 < (placesN s l).length := by omega
      have hg1 : (placesN s l).getD (k - 1) 0 = (placesN s l)[k - 1] := by rw [List.getD_eq_getElem?_getD, List.getElem?_eq_getElem hk1]; rfl
      rw [hg1]
      have := (List.pairwise_iff_getElem.1 (hpTo_asc (lev := levelsW s l) (k := (levelsW s l).length))) (k - 1) k hk1 hk (by omega)
      exact this
  omega
theorem places_from {s : ByteArray} {l : List ByteArray} (h1 : wordB s = true) (h2 : pats20 l = true) {k : Nat} (hk : k ≤ (placesN s l).length) : fromAt (placesN s l) k + 1 ≤ s.size := by
  have hw := wordB_true h1
  cases k with
  | zero => rw [fromAt_zero]; omega
  | succ k =>
    have := places_at h1 h2 (k := k) (by omega)
    rw [fromAt_succ]; omega
theorem places_len (s : ByteArray) (l : List ByteArray) : (placesN s l).length ≤ 21 := by
  have := hpTo_len (levelsW s l) (levelsW s l).length
  have := levelsW_bd s l
  unfold placesN
  omega
end Go.Proofs.Ytocaonlmlafjmaa

/- Plain words on signs and widths, no program in sight: the signs of a text make the text; its width is that of its letters less its joins and its near pairs; the parts of a text. No condition. -/
namespace Go.Proofs.Ytocaonlmlafjmaa
set_option linter.unusedVariables false
set_option linter.unusedSimpArgs false

/-! ### the signs make the text -/
theorem drop_cons (l : List Int) (i : Nat) (h : i < l.length) : l.drop i = l.getD i 0 :: l.drop (i + 1) := by
  rw [List.drop_eq_getElem_cons h, List.getD_eq_getElem?_getD, List.getElem?_eq_getElem h]; rfl
theorem bl_ext1 (s : ByteArray) (i : Nat) (h : i < s.size) : bl (s.extract i (i + 1)) = [(bl s).getD i 0] := by
  rw [bl_extract, drop_cons _ _ (by rw [bl_len]; exact h)]
  simp
theorem bl_ext2 (s : ByteArray) (i : Nat) (h : i + 1 < s.size) : bl (s.extract i (i + 2)) = [(bl s).getD i 0, (bl s).getD (i + 1) 0] := by
  rw [bl_extract, drop_cons _ _ (by rw [bl_len]; omega), drop_cons _ (i + 1) (by rw [bl_len]; omega)]
  simp
theorem sg_cat (s : ByteArray) (i : Nat) : (sg s i).flatMap bl = (bl s).drop i := by
  by_cases h : i < s.size
  · cases hj : jn s i with
    | true =>
      have h2 := jn_lt hj
      rw [sg_two h hj, List.flatMap_cons, sg_cat s (i + 2), bl_ext2 s i h2, drop_cons _ i (by rw [bl_len]; omega), drop_cons _ (i + 1) (by rw [bl_len]; omega)]
      rfl
    | false =>
      rw [sg_one h hj, List.flatMap_cons, sg_cat s (i + 1), bl_ext1 s i h, drop_cons _ i (by rw [bl_len]; omega)]
      rfl
  · rw [sg_end h, List.drop_of_length_le (by rw [bl_len]; omega)]
    rfl
termination_by s.size - i
theorem sg_join (s : ByteArray) (i : Nat) : ∀ t ∈ sg s i, t.size = 2 → joinB ((bl t).getD 0 0) ((bl t).getD 1 0) = true := by
  by_cases h : i < s.size
  · cases hj : jn s i with
    | true =>
      have h2 := jn_lt hj
      rw [sg_two h hj]
      have ih := sg_join s (i + 2)
      intro t ht h9
      rcases List.mem_cons.1 ht with rfl | ht
      · rw [bl_ext2 s i h2]
        simp only [jn, Bool.and_eq_true] at hj
        exact hj.2
      · exact ih t ht h9
    | false =>
      rw [sg_one h hj]
      have ih := sg_join s (i + 1)
      intro t ht h9
      rcases List.mem_cons.1 ht with rfl | ht
      · rw [size_extract _ _ _ (by omega)] at h9; omega
      · exact ih t ht h9
  · rw [sg_end h]; intro t ht; cases ht
termination_by s.size - i
def catTo (L : List ByteArray) : Nat → ByteArray
  | 0 => ByteArray.empty
  | k + 1 => catTo L k ++ L.getD k ByteArray.empty
theorem bl_catTo (L : List ByteArray) (k : Nat) (hk : k ≤ L.length) : bl (catTo L k) = (L.take k).flatMap bl := by
  induction k with
  | zero => rfl
  | succ k ih =>
    have hc : L[k]? = some (L.getD k ByteArray.empty) := by
      rw [List.getD_eq_getElem?_getD, List.getElem?_eq_getElem (by omega)]; rfl
    rw [catTo, bl_append, ih (by omega), take_snoc' _ _ _ hc, List.flatMap_append]
    simp
theorem catTo_full (L : List ByteArray) (s : ByteArray) (h : L.flatMap bl = bl s) : catTo L L.length = s := by
  apply bl_inj
  rw [bl_catTo L _ (Nat.le_refl _), List.take_length, h]
theorem catTo_size (L : List ByteArray) (m : Nat) (h : ∀ t ∈ L, t.size ≤ m) (k : Nat) : (catTo L k).size ≤ k * m := by
  induction k with
  | zero => simp [catTo]
  | succ k ih =>
    have : (L.getD k ByteArray.empty).size ≤ m := by
      rw [List.getD_eq_getElem?_getD]
      cases hk : L[k]? with
      | none => simp
      | some t => exact h t (List.mem_of_getElem? hk)
    rw [catTo, ByteArray.size_append, Nat.succ_mul]
    omega

/-! ### widths by letters -/
def jc : List Int → Int
  | a :: b :: r => if joinB a b = true then 1 + jc r else jc (b :: r)
  | _ => 0
def nc : List Int → Int
  | a :: b :: r => nearI a b + nc (b :: r)
  | _ => 0
def widthL (l : List Int) : Int := sumOf lw l - jc l - nc l
theorem join_near {a b : Int} (h : joinB a b = true) : nearI a b = 0 := by
  simp only [joinB, Bool.and_eq_true, beq_iff_eq] at h
  obtain ⟨rfl, _⟩ := h
  simp [nearI, nearB, amB]
def nh (t : ByteArray) (r : List ByteArray) : Int := match r with | [] => 0 | u :: _ => nearI ((bl t).getD (t.size - 1) 0) ((bl u).getD 0 0)
theorem nh_nil (t : ByteArray) : nh t [] = 0 := rfl
theorem nh_cons (t u : ByteArray) (r : List ByteArray) : nh t (u :: r) = nearI ((bl t).getD (t.size - 1) 0) ((bl u).getD 0 0) := rfl
def wwL : List ByteArray → Int
  | [] => 0
  | t :: r => lettersW t - ((t.size : Int) - 1) - nh t r + wwL r
theorem wwTo_app (L : List ByteArray) : ∀ M : List ByteArray, M ++ L = M ++ L → wwTo (M ++ L) (M.length + L.length) = wwTo (M ++ L) M.length + wwL L := by
  induction L with
  | nil => intro M _; simp [wwL]
  | cons t r ih =>
    intro M _
    have e : M ++ t :: r = (M ++ [t]) ++ r := by simp
    have h2 := ih (M ++ [t]) rfl
    rw [List.length_append, List.length_singleton] at h2
    rw [e, List.length_cons, show M.length + (r.length + 1) = M.length + 1 + r.length by omega, h2, ← e, wwTo, wwL]
    have g1 : (M ++ t :: r).getD M.length ByteArray.empty = t := by simp [List.getD_eq_getElem?_getD]
    unfold cW
    rw [g1]
    cases r with
    | nil => rw [nh_nil, if_neg (by simp)]; omega
    | cons u r =>
      have g2 : (M ++ t :: u :: r).getD (M.length + 1) ByteArray.empty = u := by
        rw [List.getD_eq_getElem?_getD, List.getElem?_append_right (by omega)]; simp
      rw [g2, if_pos (by simp), nh_cons]
      omega
theorem wwTo_all (L : List ByteArray) : wwTo L L.length = wwL L := by
  have := wwTo_app L [] rfl
  simpa [wwTo] using this
theorem sg_head (s : ByteArray) (i : Nat) (h : i < s.size) : ∃ u r, sg s i = u :: r ∧ (bl u).getD 0 0 = (bl s).getD i 0 := by
  cases hj : jn s i with
  | true => exact ⟨_, _, sg_two h hj, by rw [bl_ext2 s i (jn_lt hj)]; rfl⟩
  | false => exact ⟨_, _, sg_one h hj, by rw [bl_ext1 s i h]; rfl⟩
theorem wwL_sg (s : ByteArray) (i : Nat) : wwL (sg s i) = widthL ((bl s).drop i) := by
  by_cases h : i < s.size
  · cases hj : jn s i with
    | true =>
      have h2 := jn_lt hj
      have ih := wwL_sg s (i + 2)
      have hjb : joinB ((bl s).getD i 0) ((bl s).getD (i + 1) 0) = true := by
        simp only [jn, Bool.and_eq_true] at hj
        exact hj.2
      rw [sg_two h hj, wwL, drop_cons _ i (by rw [bl_len]; omega), drop_cons _ (i + 1) (by rw [bl_len]; omega), size_extract _ _ _ (by omega)]
      unfold lettersW
      rw [bl_ext2 s i h2]
      unfold widthL at ih ⊢
      rw [jc, if_pos hjb, nc, join_near hjb, ih]
      by_cases h3 : i + 2 < s.size
      · obtain ⟨u, r, hu, hf⟩ := sg_head s (i + 2) h3
        rw [hu, nh_cons, size_extract _ _ _ (by omega), bl_ext2 s i h2]
        simp only [sumOf_cons, sumOf_nil]
        rw [drop_cons _ (i + 1 + 1) (by rw [bl_len]; omega), nc, show i + 1 + 1 = i + 2 from rfl, hf]
        rw [show (i + 2 - i - 1) = 1 by omega]
        simp only [List.getD_cons_succ, List.getD_cons_zero, sumOf_cons]
        omega
      · rw [sg_end h3, nh_nil, show i + 1 + 1 = i + 2 from rfl, List.drop_of_length_le (by rw [bl_len]; omega)]
        simp only [sumOf_cons, sumOf_nil, nc]
        omega
    | false =>
      have ih := wwL_sg s (i + 1)
      rw [sg_one h hj, wwL, drop_cons _ i (by rw [bl_len]; omega), size_extract _ _ _ (by omega)]
      unfold lettersW
      rw [bl_ext1 s i h]
      unfold widthL at ih ⊢
      rw [ih]
      by_cases h3 : i + 1 < s.size
      · obtain ⟨u, r, hu, hf⟩ := sg_head s (i + 1) h3
        have hjb : ¬ joinB ((bl s).getD i 0) ((bl s).getD (i + 1) 0) = true := by
          simp only [jn, Bool.and_eq_false_iff, decide_eq_false_iff_not] at hj
          rcases hj with hj | hj
          · omega
          · rw [hj]; exact Bool.false_ne_true
        rw [hu, nh_cons, size_extract _ _ _ (by omega), bl_ext1 s i h]
        simp only [sumOf_cons, sumOf_nil]
        rw [drop_cons _ (i + 1) (by rw [bl_len]; omega), jc, if_neg hjb, nc, hf]
        rw [show (i + 1 - i - 1) = 0 by omega]
        simp only [List.getD_cons_zero, sumOf_cons]
        omega
      · rw [sg_end h3, nh_nil, List.drop_of_length_le (by rw [bl_len]; omega)]
        simp only [sumOf_cons, sumOf_nil, nc, jc]
        omega
  · rw [sg_end h, List.drop_of_length_le (by rw [bl_len]; omega)]
    rfl
termination_by s.size - i
theorem widthW_eq (s : ByteArray) (h : wordB s = true) : widthW s = widthL (bl s) := by
  unfold widthW
  rw [if_pos h, wwTo_all, wwL_sg]
  simp
theorem jc_bd (l : List Int) : 0 ≤ jc l ∧ jc l ≤ l.length := by
  fun_induction jc l with
  | case1 a b r h ih => simp only [List.length_cons]; omega
  | case2 a b r h ih => simp only [List.length_cons] at ih ⊢; omega
  | case3 l h => omega
theorem nc_bd (l : List Int) : 0 ≤ nc l ∧ nc l ≤ l.length ∧ (0 < l.length → nc l + 1 ≤ l.length) := by
  fun_induction nc l with
  | case1 a b r ih =>
    have := nearI_bd a b
    simp only [List.length_cons] at ih ⊢
    omega
  | case2 l h => omega
theorem lw3 {c : Int} (h : isSm c = true) : 3 ≤ lw c := by
  unfold lw; rw [if_pos h]; repeat' split
  all_goals omega
theorem sum_lw3 (l : List Int) (h : l.all isSm = true) : 3 * (l.length : Int) ≤ sumOf lw l := by
  induction l with
  | nil => simp [sumOf]
  | cons a l ih =>
    rw [List.all_cons, Bool.and_eq_true] at h
    have := lw3 h.1
    have := ih h.2
    rw [sumOf_cons, List.length_cons]
    omega
theorem widthL_bd (l : List Int) (h : l.all isSm = true) (hl : 0 < l.length) : widthL l ≤ sumOf lw l ∧ sumOf lw l - 2 * l.length ≤ widthL l ∧ 0 < widthL l := by
  have h1 := jc_bd l
  have h2 := nc_bd l
  have h3 := sum_lw3 l h
  unfold widthL
  omega
theorem jc_cons (x : Int) (m : List Int) : jc m ≤ jc (x :: m) ∧ jc (x :: m) ≤ jc m + 1 := by
  match m with
  | [] => simp [jc]
  | b :: r =>
    have ih := jc_cons b r
    rw [jc]
    split
    · omega
    · omega
theorem jc_app (l m : List Int) : jc l + jc m ≤ jc (l ++ m) ∧ jc (l ++ m) ≤ jc l + jc m + 1 := by
  fun_induction jc l with
  | case1 a b r h ih =>
    rw [List.cons_append, List.cons_append, jc, if_pos h]
    omega
  | case2 a b r h ih =>
    rw [List.cons_append, List.cons_append, jc, if_neg h]
    exact ih
  | case3 l h =>
    match l, h with
    | [], _ =>
      rw [List.nil_append]; omega
    | [a], _ =>
      have := jc_cons a m
      simp only [List.cons_append, List.nil_append]
      omega
    | a :: b :: r, h => exact absurd rfl (h a b r)
theorem nc_app (l m : List Int) : nc l + nc m ≤ nc (l ++ m) ∧ nc (l ++ m) ≤ nc l + nc m + 1 := by
  fun_induction nc l with
  | case1 a b r ih =>
    rw [List.cons_append, List.cons_append, nc]
    rw [List.cons_append] at ih
    omega
  | case2 l h =>
    match l, h with
    | [], _ =>
      rw [List.nil_append]; omega
    | [a], _ =>
      cases m with
      | nil => simp [nc]
      | cons b r =>
        have := nearI_bd a b
        simp only [List.cons_append, List.nil_append, nc]
        omega
    | a :: b :: r, h => exact absurd rfl (h a b r)
theorem widthL_app (l m : List Int) : widthL (l ++ m) ≤ widthL l + widthL m ∧ widthL l + widthL m ≤ widthL (l ++ m) + 2 := by
  have := jc_app l m
  have := nc_app l m
  unfold widthL
  rw [sumOf_append]
  omega
end Go.Proofs.Ytocaonlmlafjmaa

/- Plain words on patterns and on levels, no program in sight: the letters of a pattern are one; the order of patterns does not matter; more patterns have no lower levels. No condition. -/
namespace Go.Proofs.Ytocaonlmlafjmaa
set_option linter.unusedVariables false
set_option linter.unusedSimpArgs false

theorem pat_one : patB ⟨#[49]⟩ = false := by decide
theorem pat_a12b : patB ⟨#[97, 49, 50, 98]⟩ = false := by decide
theorem pat_nil : patB ⟨#[]⟩ = false := by decide
theorem getD_cons (a : Int) (l : List Int) (k : Nat) : (a :: l).getD (k + 1) 0 = l.getD k 0 := by simp [List.getD_eq_getElem?_getD]
theorem pat_a {p : ByteArray} (h : patB p = true) (h11 : p.size ≤ 11) (h0 : (bl p).getD 0 0 ≠ 46) : patB ((⟨#[97]⟩ : ByteArray) ++ p) = true := by
  obtain ⟨h1, h2, h3⟩ := patB_true h
  have hb : bl ((⟨#[97]⟩ : ByteArray) ++ p) = 97 :: bl p := by rw [bl_append]; rfl
  have hs : ((⟨#[97]⟩ : ByteArray) ++ p).size = p.size + 1 := by rw [ByteArray.size_append]; show 1 + p.size = _; omega
  have hdp : ∀ k, dgPrev (97 :: bl p) (k + 1) = dgPrev (bl p) k := by
    intro k
    unfold dgPrev
    cases k with
    | zero => simp [isDg]
    | succ k =>
      simp only [Nat.add_sub_cancel, getD_cons]
      simp
  unfold patB
  rw [hb, hs]
  simp only [Bool.and_eq_true, decide_eq_true_eq]
  refine ⟨⟨?_, ?_⟩, by omega⟩
  · simp only [pAll, List.all_eq_true, List.mem_range]
    intro k hk
    cases k with
    | zero => simp [pOk, isSm]
    | succ k =>
      have hp := pAll_mono h1 (k := k) (by omega)
      unfold pOk at hp ⊢
      rw [getD_cons, hdp]
      simp only [Bool.or_eq_true, Bool.and_eq_true, beq_iff_eq] at hp ⊢
      rcases hp with hp | ⟨hp1, hp2⟩
      · exact .inl hp
      · right
        refine ⟨hp1, ?_⟩
        simp only [ends, Bool.or_eq_true, beq_iff_eq, List.length_cons] at hp2 ⊢
        rcases hp2 with hp2 | hp2
        · subst hp2; exact absurd hp1 h0
        · right; omega
  · have : smN (97 :: bl p) (p.size + 1) = smN (bl p) p.size + 1 := by
      unfold smN
      rw [List.take_succ_cons, List.filter_cons_of_pos (by simp [isSm])]
      simp
    omega

/-! ### the letters of a pattern -/
def Qd (l : List Int) : Prop := ∀ a b, l = a ++ 46 :: b → a = [] ∨ b = []
theorem qd_of {l : List Int} (h : pAll l l.length = true) : Qd l := by
  intro a b hl
  have hk : a.length < l.length := by rw [hl]; simp
  have hp := pAll_mono h hk
  have hg : l.getD a.length 0 = 46 := by rw [hl]; simp [List.getD_eq_getElem?_getD]
  unfold pOk at hp
  rw [hg] at hp
  simp [isSm, isDg, ends] at hp
  rcases hp with hp | hp
  · left; exact hp
  · right
    have : l.length = a.length + (b.length + 1) := by rw [hl]; simp
    have : b.length = 0 := by omega
    exact List.length_eq_zero_iff.1 this
theorem qd_filter {l : List Int} (f : Int → Bool) (h : Qd l) : Qd (l.filter f) := by
  intro a b hl
  obtain ⟨a', r, hl2, ha, hr⟩ := List.filter_eq_append_iff.1 hl
  obtain ⟨c, b', hr2, hc, _, hb⟩ := List.filter_eq_cons_iff.1 hr
  have hcn : c.filter f = [] := List.filter_eq_nil_iff.2 hc
  rcases h (a' ++ c) b' (by rw [hl2, hr2]; simp) with h1 | h1
  · left
    have : a' = [] := (List.append_eq_nil_iff.1 h1).1
    rw [← ha, this]; rfl
  · right
    rw [← hb, h1]; rfl
theorem letters_list {p : ByteArray} (h : patB p = true) : bl (patS p) = (bl p).filter fun c => !isDg c := by
  unfold patS
  rw [if_pos h, bl_patTo p p.size (Nat.le_refl _), List.take_of_length_le (by rw [bl_len]; exact Nat.le_refl _)]
theorem letters_kind {p : ByteArray} (h : patB p = true) : ∀ c ∈ bl (patS p), isSm c = true ∨ c = 46 := by
  intro c hc
  rw [letters_list h, List.mem_filter] at hc
  obtain ⟨k, hk, hg⟩ := List.mem_iff_getElem.1 hc.1
  have hp := pAll_mono (patB_true h).1 (k := k) (by rw [← bl_len]; exact hk)
  have hg2 : (bl p).getD k 0 = c := by rw [List.getD_eq_getElem?_getD, List.getElem?_eq_getElem hk, hg]; rfl
  unfold pOk at hp
  rw [hg2] at hp
  have hnd : isDg c = false := by simpa using hc.2
  rw [hnd] at hp
  simp only [Bool.false_and, Bool.or_false, Bool.or_eq_true, Bool.and_eq_true, beq_iff_eq] at hp
  rcases hp with hp | hp
  · exact .inl hp
  · exact .inr hp.1
theorem letters_nodg {p : ByteArray} (h : patB p = true) : ∀ c ∈ bl (patS p), isDg c = false := by
  intro c hc
  rw [letters_list h, List.mem_filter] at hc
  simpa using hc.2
theorem letters_sm {p : ByteArray} (h : patB p = true) : smN (bl (patS p)) (patS p).size = smN (bl p) p.size := by
  unfold smN
  rw [List.take_of_length_le (by rw [bl_len]; exact Nat.le_refl _), List.take_of_length_le (by rw [bl_len]; exact Nat.le_refl _), letters_list h, List.filter_filter]
  congr 2
  apply List.filter_congr
  intro c _
  cases hs : isSm c with
  | false => rfl
  | true => rw [sm_not_dg hs]; rfl
theorem letters_size {p : ByteArray} (h : patB p = true) : 1 ≤ (patS p).size ∧ (patS p).size ≤ p.size ∧ (patS p).size ≤ 12 := by
  have h1 := patB_true h
  have h2 := letters_sm h
  have h3 := smN_bd (bl (patS p)) (patS p).size
  have h4 : (patS p).size ≤ p.size := by
    rw [size_bl, letters_list h, size_bl]
    exact List.length_filter_le _ _
  have h5 := h1.2.1
  rw [← h2] at h5
  refine ⟨by omega, h4, by have := h1.2.2; omega⟩
theorem letters_pat {p : ByteArray} (h : patB p = true) : patB (patS p) = true := by
  have hk := letters_kind h
  have hs := letters_size h
  have hq : Qd (bl (patS p)) := by
    rw [letters_list h]
    exact qd_filter _ (qd_of (by rw [bl_len]; exact (patB_true h).1))
  unfold patB
  rw [letters_sm h]
  simp only [Bool.and_eq_true, decide_eq_true_eq]
  refine ⟨⟨?_, (patB_true h).2.1⟩, hs.2.2⟩
  simp only [pAll, List.all_eq_true, List.mem_range]
  intro k hlt
  have hl : k < (bl (patS p)).length := by rw [bl_len]; exact hlt
  have hg : (bl (patS p)).getD k 0 = (bl (patS p))[k] := by rw [List.getD_eq_getElem?_getD, List.getElem?_eq_getElem hl]; rfl
  unfold pOk
  rw [hg]
  rcases hk _ (List.getElem_mem hl) with h1 | h1
  · rw [h1]; rfl
  · have hsplit : bl (patS p) = (bl (patS p)).take k ++ 46 :: (bl (patS p)).drop (k + 1) := by
      rw [← h1, ← List.drop_eq_getElem_cons hl, List.take_append_drop]
    have he : ends (bl (patS p)) k = true := by
      unfold ends
      rcases hq _ _ hsplit with h2 | h2
      · have : min k (bl (patS p)).length = 0 := by rw [← List.length_take, h2]; rfl
        have : k = 0 := by omega
        simp [this]
      · have h3 := congrArg List.length h2
        rw [List.length_drop] at h3
        have : k + 1 = (bl (patS p)).length := by simp at h3; omega
        simp [this]
    rw [h1, he]; rfl
theorem letters_twice {p : ByteArray} (h : patB p = true) : patS (patS p) = patS p := by
  apply bl_inj
  rw [letters_list (letters_pat h)]
  apply List.filter_eq_self.2
  intro c hc
  rw [letters_nodg h c hc]; rfl
theorem levels_letters {p : ByteArray} (h : patB p = true) : (patLv p).length = (patS p).size + 1 := by
  unfold patLv
  rw [if_pos h, lvAll_len _ _ (by rw [bl_len]; exact Nat.le_refl _), size_bl (patS p), letters_list h, List.take_of_length_le (by rw [bl_len]; exact Nat.le_refl _)]

/-! ### layers commute -/
/-- f raises each place to at least c there. -/
def Raises (n : Nat) (f : List Int → List Int) (c : Nat → Int) : Prop := ∀ out : List Int, out.length = n → In9 out → (f out).length = n ∧ In9 (f out) ∧ ∀ i, i < n → (f out).getD i 0 = max (out.getD i 0) (c i)
theorem raises_id (n : Nat) : Raises n id fun _ => 0 := by
  intro out h h9
  refine ⟨h, h9, fun i hi => ?_⟩
  have := getD_9 h9 i
  simp only [id_eq]
  omega
theorem raises_comp {n : Nat} {f g : List Int → List Int} {c d : Nat → Int} (hf : Raises n f c) (hg : Raises n g d) : Raises n (fun o => g (f o)) fun i => max (c i) (d i) := by
  intro out h h9
  obtain ⟨a1, a2, a3⟩ := hf out h h9
  obtain ⟨b1, b2, b3⟩ := hg _ a1 a2
  refine ⟨b1, b2, fun i hi => ?_⟩
  rw [b3 i hi, a3 i hi]
  show max (max (out.getD i 0) (c i)) (d i) = max (out.getD i 0) (max (c i) (d i))
  omega
theorem raises_bump (n : Nat) (p x : Int) (hx : 0 ≤ x ∧ x ≤ 9) : Raises n (fun o => bump o p x) fun i => if (i : Int) = p then x else 0 := by
  intro out h h9
  refine ⟨by rw [bump_len, h], bump_9 h9 hx, fun i hi => ?_⟩
  have hb := getD_9 h9 i
  show (bump out p x).getD i 0 = max (out.getD i 0) (if (i : Int) = p then x else 0)
  unfold bump
  split
  · rename_i hp
    by_cases e : (i : Int) = p
    · have : p.toNat = i := by omega
      rw [if_pos e, this, List.getD_eq_getElem?_getD, List.getElem?_set_self (by omega)]
      rfl
    · have : p.toNat ≠ i := by omega
      rw [if_neg e, List.getD_eq_getElem?_getD, List.getElem?_set_ne this, ← List.getD_eq_getElem?_getD]
      omega
  · rename_i hp
    rw [if_neg (by omega)]
    omega
theorem raises_layK (n : Nat) {lv : List Int} (hv : In9 lv) (a : Nat) (k : Nat) : ∃ c, Raises n (fun o => layK lv a o k) c := by
  induction k with
  | zero => exact ⟨_, raises_id n⟩
  | succ k ih =>
    obtain ⟨c, hc⟩ := ih
    exact ⟨_, raises_comp hc (raises_bump n ((a : Int) + k - 1) (lv.getD k 0) (getD_9 hv k))⟩
theorem raises_layAt (n : Nat) (d t : ByteArray) {lv : List Int} (hv : In9 lv) (a : Nat) : ∃ c, Raises n (fun o => layAt d t lv o a) c := by
  induction a with
  | zero => exact ⟨_, raises_id n⟩
  | succ a ih =>
    obtain ⟨c, hc⟩ := ih
    cases hf : fits d t a with
    | false =>
      refine ⟨c, ?_⟩
      have e : (fun o => layAt d t lv o (a + 1)) = fun o => layAt d t lv o a := by funext o; rw [layAt, if_neg (by rw [hf]; exact Bool.false_ne_true)]
      rw [e]; exact hc
    | true =>
      obtain ⟨c2, hc2⟩ := raises_layK n hv a lv.length
      refine ⟨fun i => max (c i) (c2 i), ?_⟩
      have e : (fun o => layAt d t lv o (a + 1)) = fun o => layK lv a (layAt d t lv o a) lv.length := by funext o; rw [layAt, if_pos hf]
      rw [e]
      exact raises_comp hc hc2
theorem raises_layP (n : Nat) (d p : ByteArray) : ∃ c, Raises n (layP d p) c := raises_layAt n d (patS p) (patLv_9 p) _
theorem list_ext {a b : List Int} {n : Nat} (ha : a.length = n) (hb : b.length = n) (h : ∀ i, i < n → a.getD i 0 = b.getD i 0) : a = b := by
  apply List.ext_getElem?
  intro i
  by_cases hi : i < n
  · have := h i hi
    rw [List.getD_eq_getElem?_getD, List.getD_eq_getElem?_getD, List.getElem?_eq_getElem (by omega), List.getElem?_eq_getElem (by omega)] at this
    rw [List.getElem?_eq_getElem (by omega), List.getElem?_eq_getElem (by omega)]
    exact congrArg some this
  · rw [List.getElem?_eq_none (by omega), List.getElem?_eq_none (by omega)]
theorem layP_comm (d p q : ByteArray) {out : List Int} (h9 : In9 out) : layP d p (layP d q out) = layP d q (layP d p out) := by
  obtain ⟨c1, h1⟩ := raises_layP out.length d p
  obtain ⟨c2, h2⟩ := raises_layP out.length d q
  obtain ⟨a1, a2, a3⟩ := raises_comp h1 h2 out rfl h9
  obtain ⟨b1, b2, b3⟩ := raises_comp h2 h1 out rfl h9
  refine list_ext (n := out.length) b1 a1 fun i hi => ?_
  have a4 := a3 i hi
  have b4 := b3 i hi
  simp only at a4 b4
  rw [a4, b4]
  omega
theorem layL_cons (d p : ByteArray) (l : List ByteArray) (out : List Int) : layL d out (p :: l) = layL d (layP d p out) l := rfl
theorem layL_append (d : ByteArray) (l m : List ByteArray) (out : List Int) : layL d out (l ++ m) = layL d (layL d out l) m := by
  unfold layL; rw [List.foldl_append]
theorem layP_layL (d p : ByteArray) (l : List ByteArray) : ∀ {out : List Int}, In9 out → layP d p (layL d out l) = layL d (layP d p out) l := by
  induction l with
  | nil => intro out _; rfl
  | cons q l ih =>
    intro out h9
    rw [layL_cons, layL_cons, ih (layP_9 h9), layP_comm d p q h9]
theorem layL_reverse (d : ByteArray) (l : List ByteArray) : ∀ {out : List Int}, In9 out → layL d out l.reverse = layL d out l := by
  induction l with
  | nil => intro out _; rfl
  | cons p l ih =>
    intro out h9
    rw [List.reverse_cons, layL_append, ih h9, layL_cons d p l, ← layP_layL d p l h9]
    rfl
theorem pats20_reverse (l : List ByteArray) : pats20 l.reverse = pats20 l := by
  unfold pats20
  rw [List.all_reverse, List.length_reverse]
theorem levels_reverse (s : ByteArray) (l : List ByteArray) : levelsW s l.reverse = levelsW s l := by
  unfold levelsW
  rw [pats20_reverse]
  split
  · refine layL_reverse _ _ ?_
    intro x hx
    have := List.eq_of_mem_replicate hx
    omega
  · rfl
theorem layP_ge (d p : ByteArray) {out : List Int} (h9 : In9 out) (i : Nat) (hi : i < out.length) : out.getD i 0 ≤ (layP d p out).getD i 0 := by
  obtain ⟨c, h⟩ := raises_layP out.length d p
  have := (h out rfl h9).2.2 i hi
  rw [this]
  omega
theorem pats20_dropLast {l : List ByteArray} (h : pats20 l = true) : pats20 (l.take (l.length - 1)) = true := by
  simp only [pats20, Bool.and_eq_true, decide_eq_true_eq, List.all_eq_true] at h ⊢
  refine ⟨fun x hx => h.1 x (List.mem_of_mem_take hx), ?_⟩
  rw [List.length_take]; omega
theorem levels_less {s : ByteArray} {l : List ByteArray} (h1 : wordB s = true) (h2 : pats20 l = true) (i : Nat) (hi : i < s.size + 1) : (levelsW s (l.take (l.length - 1))).getD i 0 ≤ (levelsW s l).getD i 0 := by
  unfold levelsW
  rw [if_pos ⟨h1, pats20_dropLast h2⟩, if_pos ⟨h1, h2⟩]
  have h9 : In9 (List.replicate (s.size + 1) 0) := by
    intro x hx
    have := List.eq_of_mem_replicate hx
    omega
  cases hl : l.length with
  | zero =>
    have : l = [] := List.length_eq_zero_iff.1 hl
    subst this
    simp
  | succ n =>
    have hx : l[n]? = some (l[n]'(by omega)) := List.getElem?_eq_getElem _
    have hs := layL_snoc (dotted s) (List.replicate (s.size + 1) 0) l n _ hx
    rw [show n + 1 = l.length by omega, List.take_length] at hs
    rw [hs, Nat.add_sub_cancel]
    exact layP_ge _ _ (layL_9 _ h9) i (by rw [layL_len, List.length_replicate]; exact hi)
theorem levels_none {s : ByteArray} (h1 : wordB s = true) : levelsW s [] = List.replicate (s.size + 1) 0 := by
  unfold levelsW
  rw [if_pos ⟨h1, by decide⟩]
  rfl
end Go.Proofs.Ytocaonlmlafjmaa

/- Plain words on the items of a paragraph, no program in sight. No condition. -/
namespace Go.Proofs.Ytocaonlmlafjmaa
set_option linter.unusedVariables false
set_option linter.unusedSimpArgs false

def hyI : I := ⟨3, ⟨3, 0, 0, 0⟩, 50, true⟩
def spI : I := ⟨2, ⟨4, 3, 1, 0⟩, 0, false⟩
def boxI (t : ByteArray) : I := ⟨1, ⟨widthW t, 0, 0, 0⟩, 0, false⟩
def endIs : List I := [⟨3, ⟨0, 0, 0, 0⟩, 10000, false⟩, ⟨2, ⟨0, 1, 0, 1⟩, 0, false⟩, ⟨3, ⟨0, 0, 0, 0⟩, -10000, false⟩]
/-- The items of the first k parts of a word. -/
def pIt (P : List ByteArray) : Nat → List I
  | 0 => []
  | k + 1 => (if k = 0 then pIt P k else pIt P k ++ [hyI]) ++ [boxI (P.getD k ByteArray.empty)]
/-- The items of the first k words. -/
def wIt (W l : List ByteArray) : Nat → List I
  | 0 => []
  | k + 1 => (if k = 0 then wIt W l k else wIt W l k ++ [spI]) ++ pIt (partsW (W.getD k ByteArray.empty) l) (partsW (W.getD k ByteArray.empty) l).length
def parI (W l : List ByteArray) : List I := wIt W l W.length ++ endIs
def parOk (W l : List ByteArray) : Bool := words12 W && pats20 l && decide (0 < W.length)
def parB (W l : List ByteArray) : Bool := parOk W l && decide ((parI W l).length ≤ 60)
def parR (W l : List ByteArray) : List I := if parB W l = true then parI W l else []
theorem pIt_zero (P : List ByteArray) : pIt P 0 = [] := rfl
theorem pIt_one {P : List ByteArray} {t : ByteArray} (h : P[0]? = some t) : pIt P 1 = [boxI t] := by
  simp [pIt, List.getD_eq_getElem?_getD, h]
theorem pIt_next {P : List ByteArray} {k : Nat} {t : ByteArray} (h : P[k]? = some t) (hk : 0 < k) : pIt P (k + 1) = pIt P k ++ [hyI] ++ [boxI t] := by
  rw [pIt, if_neg (by omega), List.getD_eq_getElem?_getD, h]; rfl
theorem pIt_len (P : List ByteArray) (k : Nat) : (pIt P k).length ≤ 2 * k := by
  induction k with
  | zero => simp [pIt]
  | succ k ih =>
    rw [pIt]
    split <;> simp <;> omega
theorem parts_bd (s : ByteArray) (l : List ByteArray) : (partsW s l).length ≤ 22 := by
  unfold partsW
  split
  · unfold partsOf
    rw [List.length_append, partTo_len]
    have := places_len s l
    simp; omega
  · simp
theorem wIt_zero (W l : List ByteArray) : wIt W l 0 = [] := rfl
theorem wIt_one {W l : List ByteArray} {s : ByteArray} (h : W[0]? = some s) : wIt W l 1 = pIt (partsW s l) (partsW s l).length := by
  simp [wIt, List.getD_eq_getElem?_getD, h]
theorem wIt_next {W l : List ByteArray} {k : Nat} {s : ByteArray} (h : W[k]? = some s) (hk : 0 < k) : wIt W l (k + 1) = wIt W l k ++ [spI] ++ pIt (partsW s l) (partsW s l).length := by
  rw [wIt, if_neg (by omega), List.getD_eq_getElem?_getD, h]; rfl
theorem wIt_len (W l : List ByteArray) (k : Nat) : (wIt W l k).length ≤ 45 * k := by
  induction k with
  | zero => simp [wIt]
  | succ k ih =>
    rw [wIt]
    have h1 := pIt_len (partsW (W.getD k ByteArray.empty) l) (partsW (W.getD k ByteArray.empty) l).length
    have h2 := parts_bd (W.getD k ByteArray.empty) l
    split <;> simp only [List.length_append, List.length_singleton] <;> omega
theorem parI_len (W l : List ByteArray) : (parI W l).length = (wIt W l W.length).length + 3 := by
  unfold parI endIs
  simp
theorem parB_no {W l : List ByteArray} (h : parOk W l = false) : parB W l = false := by unfold parB; rw [h]; rfl
theorem parR_no {W l : List ByteArray} (h : parB W l = false) : parR W l = [] := by unfold parR; rw [h]; rfl
theorem parR_yes {W l : List ByteArray} (h : parB W l = true) : parR W l = parI W l := by unfold parR; rw [if_pos h]
theorem parB_end {W l : List ByteArray} (h : parOk W l = true) : parB W l = decide ((parI W l).length ≤ 60) := by unfold parB; rw [h, Bool.true_and]
theorem parOk_true {W l : List ByteArray} (h : parOk W l = true) : words12 W = true ∧ pats20 l = true ∧ 0 < W.length := by
  simp only [parOk, Bool.and_eq_true, decide_eq_true_eq] at h
  exact ⟨h.1.1, h.1.2, h.2⟩
theorem words12_len {W : List ByteArray} (h : words12 W = true) : W.length ≤ 12 := by
  simp only [words12, Bool.and_eq_true, decide_eq_true_eq] at h
  exact h.2
end Go.Proofs.Ytocaonlmlafjmaa

/- Plain words on the items of a paragraph, for the law; no program in sight. No condition. -/
namespace Go.Proofs.Ytocaonlmlafjmaa
set_option linter.unusedVariables false
set_option linter.unusedSimpArgs false

theorem word_part {s : ByteArray} {a b : Nat} (h : wordB s = true) (hab : a < b) (hb : b ≤ s.size) : wordB (s.extract a b) = true := by
  obtain ⟨h1, h2, h3⟩ := wordB_true h
  unfold wordB
  rw [Bool.and_eq_true, bl_extract, size_extract _ _ _ hb]
  refine ⟨?_, inB_mk (by omega)⟩
  rw [List.all_eq_true] at h1 ⊢
  intro x hx
  exact h1 x (List.mem_of_mem_drop (List.mem_of_mem_take hx))
theorem partTo_word {s : ByteArray} {l : List ByteArray} (h1 : wordB s = true) (h2 : pats20 l = true) : ∀ k, k ≤ (placesN s l).length → ∀ t ∈ partTo s (placesN s l) k, wordB t = true := by
  intro k
  induction k with
  | zero => intro _ t ht; cases ht
  | succ k ih =>
    intro hk t ht
    rw [partTo] at ht
    have hp := places_at h1 h2 (k := k) (by omega)
    rcases List.mem_append.1 ht with ht | ht
    · exact ih (by omega) t ht
    · simp at ht
      subst ht
      have := word_part (a := fromAt (placesN s l) k) (b := (placesN s l).getD k 0) h1 hp.2.1 (by omega)
      simpa using this
theorem parts_word {s : ByteArray} {l : List ByteArray} : ∀ t ∈ partsW s l, wordB t = true := by
  intro t ht
  unfold partsW at ht
  split at ht
  · rename_i h
    unfold partsOf at ht
    rcases List.mem_append.1 ht with ht | ht
    · exact partTo_word h.1 h.2 _ (Nat.le_refl _) t ht
    · simp at ht
      subst ht
      exact word_part h.1 (by have := places_from h.1 h.2 (Nat.le_refl _); omega) (Nat.le_refl _)
  · cases ht
theorem width_in {t : ByteArray} (h : wordB t = true) : 0 ≤ widthW t ∧ widthW t ≤ 1000 := by
  obtain ⟨h1, h2, h3⟩ := wordB_true h
  rw [widthW_eq t h]
  have hb := widthL_bd (bl t) h1 (by rw [bl_len]; omega)
  have hs := lettersW_bd t
  unfold lettersW at hs
  omega
theorem box_ok {t : ByteArray} (h : wordB t = true) : itemOk (boxI t) = true := by
  have := width_in h
  have e : glueOk ⟨widthW t, 0, 0, 0⟩ = true := glueOk_mk (by omega) (by simp) (by dsimp only; omega) (by simp)
  unfold itemOk boxI
  dsimp only
  rw [e]
  simp [rigidB, plainB]
theorem hy_ok : itemOk hyI = true := by decide
theorem sp_ok : itemOk spI = true := by decide
theorem ends_ok : endIs.all itemOk = true := by decide
theorem pIt_ok {P : List ByteArray} (h : ∀ t ∈ P, wordB t = true) : ∀ k, k ≤ P.length → (pIt P k).all itemOk = true := by
  intro k
  induction k with
  | zero => intro _; rfl
  | succ k ih =>
    intro hk
    have hkl : k < P.length := by omega
    have ht : P[k]? = some P[k] := List.getElem?_eq_getElem hkl
    have hb := box_ok (h _ (List.getElem_mem hkl))
    have := ih (by omega)
    by_cases h0 : k = 0
    · subst h0
      rw [pIt_one ht]; simp [hb]
    · rw [pIt_next ht (by omega), List.all_append, List.all_append, this]
      simp [hy_ok, hb]
theorem wIt_ok (W l : List ByteArray) : ∀ k, k ≤ W.length → (wIt W l k).all itemOk = true := by
  intro k
  induction k with
  | zero => intro _; rfl
  | succ k ih =>
    intro hk
    have hkl : k < W.length := by omega
    have ht : W[k]? = some W[k] := List.getElem?_eq_getElem hkl
    have hp := pIt_ok (P := partsW W[k] l) parts_word _ (Nat.le_refl _)
    have := ih (by omega)
    by_cases h0 : k = 0
    · subst h0
      rw [wIt_one ht]; exact hp
    · rw [wIt_next ht (by omega), List.all_append, List.all_append, this, hp]
      simp [sp_ok]
theorem parB_len {W l : List ByteArray} (h : parB W l = true) : (parI W l).length ≤ 60 := by
  unfold parB at h
  simp only [Bool.and_eq_true, decide_eq_true_eq] at h
  exact h.2
theorem parB_ok {W l : List ByteArray} (h : parB W l = true) : parOk W l = true := by
  unfold parB at h
  simp only [Bool.and_eq_true] at h
  exact h.1
theorem parI_ok {W l : List ByteArray} (h : parB W l = true) : items60 (parI W l) = true := by
  unfold items60
  rw [Bool.and_eq_true, decide_eq_true_eq]
  refine ⟨?_, parB_len h⟩
  unfold parI
  rw [List.all_append, wIt_ok W l _ (Nat.le_refl _), ends_ok]
  rfl
theorem parI_pos (W l : List ByteArray) : 3 ≤ (parI W l).length := by rw [parI_len]; omega
theorem parI_last (W l : List ByteArray) : mayI (parI W l) (((parI W l).length : Int) - 1) = true := by
  have hp := parI_pos W l
  unfold mayI
  rw [inB_mk (by omega), Bool.true_and]
  have e : (((parI W l).length : Int) - 1).toNat = (wIt W l W.length).length + 2 := by rw [parI_len]; omega
  rw [e]
  have hg : (parI W l)[(wIt W l W.length).length + 2]? = some ⟨3, ⟨0, 0, 0, 0⟩, -10000, false⟩ := by
    unfold parI
    rw [List.getElem?_append_right (by omega)]
    rw [show (wIt W l W.length).length + 2 - (wIt W l W.length).length = 2 by omega]
    rfl
  unfold mayB
  rw [hg]
  rfl
/-! ### boxes -/
def nBox (L : List I) : Nat := (L.filter boxB).length
theorem nBox_append (a b : List I) : nBox (a ++ b) = nBox a + nBox b := by unfold nBox; rw [List.filter_append, List.length_append]
theorem nBox_pIt (P : List ByteArray) : ∀ k, k ≤ P.length → nBox (pIt P k) = k := by
  intro k
  induction k with
  | zero => intro _; rfl
  | succ k ih =>
    intro hk
    have hkl : k < P.length := by omega
    have ht : P[k]? = some P[k] := List.getElem?_eq_getElem hkl
    have := ih (by omega)
    have hb : nBox [boxI P[k]] = 1 := by simp [nBox, boxB, boxI]
    by_cases h0 : k = 0
    · subst h0
      rw [pIt_one ht, hb]
    · rw [pIt_next ht (by omega), nBox_append, nBox_append, this, hb]
      rfl
def partsN (W l : List ByteArray) : Nat → Nat
  | 0 => 0
  | k + 1 => partsN W l k + (partsW (W.getD k ByteArray.empty) l).length
theorem partsN_step {W l : List ByteArray} {k : Nat} {s : ByteArray} (h : W[k]? = some s) : partsN W l (k + 1) = partsN W l k + (partsW s l).length := by
  rw [partsN, List.getD_eq_getElem?_getD, h]; rfl
theorem partsN_bd (W l : List ByteArray) (k : Nat) : partsN W l k ≤ 22 * k := by
  induction k with
  | zero => simp [partsN]
  | succ k ih =>
    rw [partsN]
    have := parts_bd (W.getD k ByteArray.empty) l
    omega
theorem nBox_wIt (W l : List ByteArray) : ∀ k, k ≤ W.length → nBox (wIt W l k) = partsN W l k := by
  intro k
  induction k with
  | zero => intro _; rfl
  | succ k ih =>
    intro hk
    have hkl : k < W.length := by omega
    have ht : W[k]? = some W[k] := List.getElem?_eq_getElem hkl
    have hp := nBox_pIt (partsW W[k] l) _ (Nat.le_refl _)
    have := ih (by omega)
    rw [partsN_step ht]
    by_cases h0 : k = 0
    · subst h0
      rw [wIt_one ht, hp]
      simp [partsN]
    · rw [wIt_next ht (by omega), nBox_append, nBox_append, this, hp]
      rfl
theorem boxes_len {L : List I} (h : items60 L = true) : (boxesW L).length = nBox L := by
  unfold boxesW
  rw [if_pos h]
  unfold boxTo nBox
  rw [List.take_length, List.length_map]
theorem par_boxes {W l : List ByteArray} (h : parB W l = true) : (boxesW (parI W l)).length = partsN W l W.length := by
  rw [boxes_len (parI_ok h)]
  unfold parI
  rw [nBox_append, nBox_wIt W l _ (Nat.le_refl _)]
  rfl
/-! ### without patterns -/
theorem getD_rep (n k : Nat) : (List.replicate n (0 : Int)).getD k 0 = 0 := by
  rw [List.getD_eq_getElem?_getD, List.getElem?_replicate]
  split <;> rfl
theorem hpTo_rep (n k : Nat) : hpTo (List.replicate n (0 : Int)) k = [] := by
  induction k with
  | zero => rfl
  | succ k ih =>
    have : hyB (List.replicate n (0 : Int)) k = false := by
      unfold hyB
      rw [getD_rep]
      simp
    rw [hpTo_no this, ih]
theorem places_none {s : ByteArray} (h : wordB s = true) : placesN s [] = [] := by
  unfold placesN
  rw [levels_none h]
  exact hpTo_rep _ _
theorem parts_one {s : ByteArray} (h : wordB s = true) : (partsW s []).length = 1 := by
  unfold partsW
  rw [if_pos ⟨h, by decide⟩, places_none h]
  rfl
theorem words_at {W : List ByteArray} (h : words12 W = true) : ∀ s ∈ W, wordB s = true := by
  simp only [words12, Bool.and_eq_true, List.all_eq_true] at h
  exact h.1
theorem partsN_none {W : List ByteArray} (h : words12 W = true) : ∀ k, k ≤ W.length → partsN W [] k = k := by
  intro k
  induction k with
  | zero => intro _; rfl
  | succ k ih =>
    intro hk
    have hkl : k < W.length := by omega
    have ht : W[k]? = some W[k] := List.getElem?_eq_getElem hkl
    rw [partsN_step ht, ih (by omega), parts_one (words_at h _ (List.getElem_mem hkl))]
theorem wIt_none {W : List ByteArray} (h : words12 W = true) : ∀ k, k ≤ W.length → (wIt W [] k).length ≤ 2 * k := by
  intro k
  induction k with
  | zero => intro _; simp [wIt]
  | succ k ih =>
    intro hk
    have hkl : k < W.length := by omega
    have ht : W[k]? = some W[k] := List.getElem?_eq_getElem hkl
    have h1 := parts_one (words_at h _ (List.getElem_mem hkl))
    have h2 : (pIt (partsW W[k] []) (partsW W[k] []).length).length ≤ 1 := by
      rw [h1]
      simp [pIt]
    have := ih (by omega)
    by_cases h0 : k = 0
    · subst h0
      rw [wIt_one ht]
      omega
    · rw [wIt_next ht (by omega)]
      simp only [List.length_append, List.length_singleton]
      omega
theorem par_none {W l : List ByteArray} (h : parB W l = true) : parB W [] = true ∧ (boxesW (parI W [])).length = W.length := by
  obtain ⟨h1, h2, h3⟩ := parOk_true (parB_ok h)
  have h12 := words12_len h1
  have hb : parB W [] = true := by
    unfold parB parOk
    rw [h1, show pats20 [] = true from by decide, parI_len]
    have := wIt_none h1 _ (Nat.le_refl _)
    simp
    omega
  exact ⟨hb, by rw [par_boxes hb, partsN_none h1 _ (Nat.le_refl _)]⟩
end Go.Proofs.Ytocaonlmlafjmaa

/- Plain words on the items and the glue of a line, for the laws; no program in sight. No condition. -/
namespace Go.Proofs.Ytocaonlmlafjmaa
set_option linter.unusedVariables false
set_option linter.unusedSimpArgs false

theorem lineOk_true {l : List I} {t u : Int} (h : lineOk l t u = true) :
    items60 l = true ∧ (-1 ≤ t ∧ t < u) ∧ mayI l u = true ∧ (t = -1 ∨ mayI l t = true) ∧ (stA l (t + 1).toNat : Int) ≤ u ∧ noForced l (t + 1).toNat u.toNat = true := by
  simp only [lineOk, Bool.and_eq_true, Bool.or_eq_true, decide_eq_true_eq, beq_iff_eq] at h
  obtain ⟨⟨⟨⟨⟨h1, h2⟩, h3⟩, h4⟩, h5⟩, h6⟩ := h
  have := inB_true h2
  exact ⟨h1, by omega, h3, h4, h5, h6⟩
theorem mayI_bd {l : List I} {t : Int} (h : mayI l t = true) : 0 ≤ t ∧ t < l.length := by
  unfold mayI at h
  rw [Bool.and_eq_true] at h
  have := inB_true h.1
  omega
theorem lineI_yes {l : List I} {t u : Int} (h : lineOk l t u = true) : lineI l t u = liTo l (stA l (t + 1).toNat) u.toNat := by unfold lineI; rw [if_pos h]
theorem lineI_bad {l : List I} {t u : Int} (h : lineOk l t u = false) : lineI l t u = [] := by unfold lineI; rw [h]; rfl
theorem lineI_mem {l : List I} {t u : Int} {x : Nat} (hx : x ∈ lineI l t u) : t < x ∧ (x : Int) < u ∧ x < l.length ∧ notBr l x = true := by
  cases h : lineOk l t u with
  | false => rw [lineI_bad h] at hx; cases hx
  | true =>
    rw [lineI_yes h] at hx
    obtain ⟨h1, h2, h3, h4, h5, h6⟩ := lineOk_true h
    have hu := mayI_bd h3
    have hm := liTo_mem x hx
    have hle : (t + 1).toNat ≤ stA l (t + 1).toNat := (stA_bd l _ (by omega)).1
    exact ⟨by omega, by omega, by omega, hm.2.2⟩
theorem lineI_asc (l : List I) (t u : Int) : (lineI l t u).Pairwise (· < ·) := by
  unfold lineI
  split
  · exact liTo_asc
  · exact List.Pairwise.nil
theorem lineI_len (l : List I) (t u : Int) : (lineI l t u).length ≤ 60 := by
  cases h : lineOk l t u with
  | false => rw [lineI_bad h]; simp
  | true =>
    rw [lineI_yes h]
    obtain ⟨h1, h2, h3, h4, h5, h6⟩ := lineOk_true h
    have hu := mayI_bd h3
    have h60 := (items60_true h1).2
    have := liTo_len l (stA l (t + 1).toNat) u.toNat
    omega
theorem liTo_head {l : List I} {a : Nat} (hb : notBr l a = true) : ∀ r, a < r → (liTo l a r)[0]? = some a := by
  intro r
  induction r with
  | zero => intro h; omega
  | succ r ih =>
    intro h
    by_cases e : r = a
    · subst e
      rw [liTo_yes (Nat.le_refl _) hb, liTo_zero l r r (Nat.le_refl _)]
      rfl
    · have := ih (by omega)
      rw [liTo]
      split
      · rw [List.getElem?_append_left]
        · exact this
        · exact (List.getElem?_eq_some_iff.1 this).1
      · exact this
theorem line_first {l : List I} {t u : Int} {x : Nat} (hx : (lineI l t u)[0]? = some x) : ∃ i, l[x]? = some i ∧ i.k = 1 := by
  have hmem := List.mem_of_getElem? hx
  cases h : lineOk l t u with
  | false => rw [lineI_bad h] at hx; cases hx
  | true =>
    rw [lineI_yes h] at hx
    have hm0 := lineI_mem hmem
    obtain ⟨h1, h2, h3, h4, h5, h6⟩ := lineOk_true h
    have hu := mayI_bd h3
    have hle : (t + 1).toNat ≤ stA l (t + 1).toNat := (stA_bd l _ (by omega)).1
    generalize ha : stA l (t + 1).toNat = a at *
    have hm := liTo_mem x (List.mem_of_getElem? hx)
    have hal : a < l.length := by omega
    obtain ⟨i, hi⟩ : ∃ i, l[a]? = some i := ⟨l[a], List.getElem?_eq_getElem hal⟩
    have hok := (items60_true h1).1 i (List.mem_of_getElem? hi)
    have hs := stA_at (l := l) (n := (t + 1).toNat) (i := i) (by rw [ha]; exact hi)
    have hf : forcedB i = false := by
      unfold noForced at h6
      have := List.all_eq_true.1 h6 a (List.mem_range.2 (by omega))
      rw [hi] at this
      simp at this
      rcases this with h | h
      · omega
      · exact h
    rw [forced_iff hok] at hf
    have hk : i.k = 1 := by
      unfold stopB at hs
      rw [hf, Bool.or_false] at hs
      simpa using hs
    have hb : notBr l a = true := by unfold notBr; rw [hi]; simp [hk]
    rw [liTo_head hb _ (by omega)] at hx
    obtain rfl := Option.some.inj hx
    exact ⟨i, hi, hk⟩
theorem notBr_true {l : List I} {x : Nat} (h : notBr l x = true) : ∃ i, l[x]? = some i ∧ (i.k == 3) = false := by
  unfold notBr at h
  split at h
  · rename_i i hi
    exact ⟨i, hi, by simpa using h⟩
  · cases h
theorem gAt_of {l : List I} {x : Nat} {i : I} (h : l[x]? = some i) : gAt l x = i.g := by
  unfold gAt; rw [List.getD_eq_getElem?_getD, h]; rfl
theorem isBr_of {l : List I} {x : Nat} {i : I} (h : l[x]? = some i) : isBr l x = (i.k == 3) := by unfold isBr; rw [h]
theorem lineG_yes {l : List I} {t u : Int} (h : lineOk l t u = true) : lineG l t u = totG (lineGs l t u) := by unfold lineG; rw [if_pos h]
theorem lineG_bad {l : List I} {t u : Int} (h : lineOk l t u = false) : lineG l t u = ⟨0, 0, 0, 0⟩ := by unfold lineG; rw [h]; rfl
theorem lineGs_yes {l : List I} {t u : Int} (h : lineOk l t u = true) : lineGs l t u = (lineI l t u).map (gAt l) ++ (if isBr l u.toNat = true then [gAt l u.toNat] else []) := by
  rw [lineI_yes h]; rfl
theorem lineG_w {l : List I} {t u : Int} (h : lineOk l t u = true) :
    (lineG l t u).w = sumOf (fun x => (gAt l x).w) (lineI l t u) + (if isBr l u.toNat = true then (gAt l u.toNat).w else 0) := by
  rw [lineG_yes h, lineGs_yes h]
  show sumOf G.w _ = _
  rw [sumOf_append]
  congr 1
  · simp [sumOf, List.map_map, Function.comp_def]
  · split <;> simp [sumOf]
theorem lineG_sh {l : List I} {t u : Int} (h : lineOk l t u = true) : (lineG l t u).sh ≤ (lineG l t u).w := by
  obtain ⟨h1, h2, h3, h4, h5, h6⟩ := lineOk_true h
  have hu := mayI_bd h3
  rw [lineG_yes h]
  show sumOf G.sh _ ≤ sumOf G.w _
  refine sum_le_sum fun g hg => ?_
  have := glueOk_true (lineGs_ok h1 (after := t) hu.1 hu.2 g hg)
  omega
theorem lineG_bd {l : List I} {t u : Int} (h : lineOk l t u = true) :
    (0 ≤ (lineG l t u).w ∧ (lineG l t u).w ≤ 60000) ∧ (0 ≤ (lineG l t u).st ∧ (lineG l t u).st ≤ 60000) ∧ (0 ≤ (lineG l t u).sh ∧ (lineG l t u).sh ≤ 60000) ∧ (0 ≤ (lineG l t u).o ∧ (lineG l t u).o ≤ 1) := by
  obtain ⟨h1, h2, h3, h4, h5, h6⟩ := lineOk_true h
  have hu := mayI_bd h3
  rw [lineG_yes h]
  have hb := totG_bd (lineGs_ok h1 (after := t) hu.1 hu.2)
  have hl := lineGs_len h1 (after := t) hu.1 hu.2
  have hl' : (1000 : Int) * (lineGs l t u).length ≤ 60000 := by omega
  omega
end Go.Proofs.Ytocaonlmlafjmaa
