/- Plain words, no program in sight: a glue, an item, the range test, sums of glues. No condition. -/
import Derived.KernelRfl
namespace Go.Proofs.Ytfhhfibjjpiccaa
set_option linter.unusedVariables false
set_option linter.unusedSimpArgs false

structure G where
  w : Int
  st : Int
  sh : Int
  o : Int
structure I where
  k : Int
  g : G
  c : Int
  m : Bool
instance : Inhabited G := ⟨⟨0, 0, 0, 0⟩⟩
instance : Inhabited I := ⟨⟨0, ⟨0, 0, 0, 0⟩, 0, false⟩⟩

def inB (n lo hi : Int) : Bool := decide (lo ≤ n) && decide (n ≤ hi)
theorem inB_true {n lo hi : Int} (h : inB n lo hi = true) : lo ≤ n ∧ n ≤ hi := by simpa [inB] using h
theorem inB_mk {n lo hi : Int} (h : lo ≤ n ∧ n ≤ hi) : inB n lo hi = true := by simpa [inB] using h
theorem inB_false {n lo hi : Int} (h : inB n lo hi = false) : n < lo ∨ hi < n := by
  simp [inB] at h; omega
theorem inB_no {n lo hi : Int} (h : n < lo ∨ hi < n) : inB n lo hi = false := by
  simp [inB]; omega

def glueOk (g : G) : Bool := inB g.w 0 1000 && inB g.st 0 1000 && inB g.sh 0 g.w && inB g.o 0 1
theorem glueOk_true {g : G} (h : glueOk g = true) : (0 ≤ g.w ∧ g.w ≤ 1000) ∧ (0 ≤ g.st ∧ g.st ≤ 1000) ∧ (0 ≤ g.sh ∧ g.sh ≤ g.w) ∧ (0 ≤ g.o ∧ g.o ≤ 1) := by
  simp only [glueOk, Bool.and_eq_true] at h
  exact ⟨inB_true h.1.1.1, inB_true h.1.1.2, inB_true h.1.2, inB_true h.2⟩
theorem glueOk_mk {g : G} (h1 : 0 ≤ g.w ∧ g.w ≤ 1000) (h2 : 0 ≤ g.st ∧ g.st ≤ 1000) (h3 : 0 ≤ g.sh ∧ g.sh ≤ g.w) (h4 : 0 ≤ g.o ∧ g.o ≤ 1) : glueOk g = true := by
  simp only [glueOk, Bool.and_eq_true]
  exact ⟨⟨⟨inB_mk h1, inB_mk h2⟩, inB_mk h3⟩, inB_mk h4⟩

theorem all_snoc {α : Type} (f : α → Bool) (l : List α) (k : Nat) (a : α) (h : l[k]? = some a) : (l.take (k + 1)).all f = ((l.take k).all f && f a) := by
  rw [List.take_add_one, h, List.all_append]
  simp
theorem take_snoc' {α : Type} (l : List α) (k : Nat) (a : α) (h : l[k]? = some a) : l.take (k + 1) = l.take k ++ [a] := by
  rw [List.take_add_one, h]; rfl
theorem all_get {α : Type} {f : α → Bool} {l : List α} (h : l.all f = true) {k : Nat} {a : α} (hk : l[k]? = some a) : f a = true :=
  List.all_eq_true.1 h a (List.mem_of_getElem? hk)
theorem all_false_of {α : Type} {f : α → Bool} {l : List α} {k : Nat} {a : α} (hk : l[k]? = some a) (h : f a = false) : l.all f = false := by
  cases hl : l.all f with
  | false => rfl
  | true => rw [all_get hl hk] at h; cases h

/-! ### sums of glues -/
def sumOf {α : Type} (f : α → Int) (l : List α) : Int := (l.map f).sum
theorem sumOf_nil {α : Type} (f : α → Int) : sumOf f [] = 0 := rfl
theorem sumOf_snoc {α : Type} (f : α → Int) (l : List α) (a : α) : sumOf f (l ++ [a]) = sumOf f l + f a := by
  simp [sumOf, List.sum_append]
theorem sumOf_append {α : Type} (f : α → Int) (l m : List α) : sumOf f (l ++ m) = sumOf f l + sumOf f m := by
  simp [sumOf, List.sum_append]
theorem sumOf_cons {α : Type} (f : α → Int) (a : α) (l : List α) : sumOf f (a :: l) = f a + sumOf f l := by
  simp [sumOf]
theorem sumOf_bd {α : Type} (f : α → Int) (m : Int) (l : List α) (h : ∀ a ∈ l, 0 ≤ f a ∧ f a ≤ m) : 0 ≤ sumOf f l ∧ sumOf f l ≤ m * l.length := by
  induction l with
  | nil => simp [sumOf]
  | cons a l ih =>
    have h1 := h a List.mem_cons_self
    have h2 := ih (fun b hb => h b (List.mem_cons_of_mem _ hb))
    rw [sumOf_cons, List.length_cons, Int.natCast_add, Int.mul_add]
    omega
def ordB (g : G) : Bool := g.o == 1 && decide (0 < g.st)
def ordOf (l : List G) : Int := if l.any ordB = true then 1 else 0
def stAt (o : Int) (g : G) : Int := if g.o = o then g.st else 0
def totG (l : List G) : G := ⟨sumOf G.w l, sumOf (stAt (ordOf l)) l, sumOf G.sh l, ordOf l⟩
def addG (a b : G) : G :=
  let x := if a.st = 0 then 0 else a.o
  let y := if b.st = 0 then 0 else b.o
  let o := max x y
  ⟨a.w + b.w, (if x = o then a.st else 0) + (if y = o then b.st else 0), a.sh + b.sh, o⟩
def okA (l : List G) : Prop := ∀ g ∈ l, glueOk g = true
theorem ordOf_01 (l : List G) : ordOf l = 0 ∨ ordOf l = 1 := by unfold ordOf; split <;> simp
theorem ordOf_snoc (l : List G) (g : G) : ordOf (l ++ [g]) = if ordB g = true then 1 else ordOf l := by
  unfold ordOf
  rw [List.any_append]
  by_cases h : l.any ordB = true <;> by_cases h2 : ordB g = true <;> simp [h, h2]
theorem st1_zero {l : List G} (h : ordOf l = 0) (hok : okA l) : sumOf (stAt 1) l = 0 := by
  induction l with
  | nil => rfl
  | cons a l ih =>
    have hn : (a :: l).any ordB = false := by
      cases hb : (a :: l).any ordB with
      | false => rfl
      | true => simp [ordOf, hb] at h
    rw [List.any_cons, Bool.or_eq_false_iff] at hn
    rw [sumOf_cons, ih (by simp [ordOf, hn.2]) (fun g hg => hok g (List.mem_cons_of_mem _ hg))]
    have ha := glueOk_true (hok a List.mem_cons_self)
    have hb := hn.1
    simp [ordB] at hb
    unfold stAt
    split
    · have := hb (by assumption); omega
    · omega
theorem st1_pos {l : List G} (h : ordOf l = 1) (hok : okA l) : 0 < sumOf (stAt 1) l := by
  induction l with
  | nil => simp [ordOf] at h
  | cons a l ih =>
    rw [sumOf_cons]
    have ha := glueOk_true (hok a List.mem_cons_self)
    have hl : okA l := fun g hg => hok g (List.mem_cons_of_mem _ hg)
    by_cases hb : ordB a = true
    · have h0 : 0 ≤ sumOf (stAt 1) l := (sumOf_bd (stAt 1) 1000 l (fun g hg => by
        have := glueOk_true (hl g hg)
        unfold stAt; split <;> omega)).1
      simp [ordB] at hb
      unfold stAt at h0 ⊢
      rw [if_pos hb.1]
      omega
    · have hor : ordOf l = 1 := by
        unfold ordOf at h ⊢
        rw [List.any_cons] at h
        simpa [hb] using h
      have := ih hor hl
      have h1 : 0 ≤ stAt 1 a := by unfold stAt; split <;> omega
      omega
theorem totG_snoc (l : List G) (g : G) (hok : okA (l ++ [g])) : totG (l ++ [g]) = addG (totG l) g := by
  have hl : okA l := fun a ha => hok a (List.mem_append_left _ ha)
  have hg := glueOk_true (hok g (by simp))
  have hs := ordOf_snoc l g
  unfold totG addG
  simp only [sumOf_snoc]
  rcases ordOf_01 l with h0 | h1
  · by_cases hb : ordB g = true
    · have hb' := hb
      simp [ordB] at hb'
      rw [if_pos hb] at hs
      have z := st1_zero h0 hl
      rw [hs, z, h0]
      have e1 : stAt 1 g = g.st := by unfold stAt; rw [if_pos hb'.1]
      rw [e1, if_neg (show ¬ g.st = 0 by omega), hb'.1]
      have m01 : max (0 : Int) 1 = 1 := by decide
      simp [m01]
    · rw [if_neg hb] at hs
      rw [hs, h0]
      have hc : g.o = 0 ∨ g.st = 0 := by
        simp [ordB] at hb
        by_cases h1 : g.o = 1
        · have := hb h1; omega
        · omega
      have ey : (if g.st = 0 then (0 : Int) else g.o) = 0 := by split <;> omega
      have e1 : stAt 0 g = g.st := by unfold stAt; split <;> omega
      rw [ey, e1]
      simp
  · have p := st1_pos h1 hl
    have hs' : ordOf (l ++ [g]) = 1 := by rw [hs]; split <;> simp [h1]
    rw [hs', h1]
    have ey : (if g.st = 0 then (0 : Int) else g.o) = 0 ∨ (if g.st = 0 then (0 : Int) else g.o) = 1 := by split <;> omega
    rw [if_neg (show ¬ sumOf (stAt 1) l = 0 by omega)]
    have e1 : stAt 1 g = if (if g.st = 0 then (0 : Int) else g.o) = 1 then g.st else 0 := by
      unfold stAt
      by_cases hz : g.st = 0
      · simp [hz]
      · simp [hz]
    rw [e1]
    have m10 : max (1 : Int) 0 = 1 := by decide
    rcases ey with ey | ey <;> rw [ey] <;> simp [m10]
theorem totG_nil : totG [] = ⟨0, 0, 0, 0⟩ := by simp [totG, sumOf, ordOf]
theorem totG_bd {l : List G} (hok : okA l) : (0 ≤ (totG l).w ∧ (totG l).w ≤ 1000 * l.length) ∧ (0 ≤ (totG l).st ∧ (totG l).st ≤ 1000 * l.length) ∧ (0 ≤ (totG l).sh ∧ (totG l).sh ≤ 1000 * l.length) ∧ (0 ≤ (totG l).o ∧ (totG l).o ≤ 1) := by
  refine ⟨sumOf_bd _ _ _ fun g hg => ?_, sumOf_bd _ _ _ fun g hg => ?_, sumOf_bd _ _ _ fun g hg => ?_, ?_⟩
  · have := glueOk_true (hok g hg); omega
  · have := glueOk_true (hok g hg); unfold stAt; split <;> omega
  · have := glueOk_true (hok g hg); omega
  · show 0 ≤ ordOf l ∧ ordOf l ≤ 1
    rcases ordOf_01 l with h | h <;> omega
theorem sum_le_sum {α : Type} {f g : α → Int} {l : List α} (h : ∀ a ∈ l, f a ≤ g a) : sumOf f l ≤ sumOf g l := by
  induction l with
  | nil => simp [sumOf]
  | cons a l ih =>
    rw [sumOf_cons, sumOf_cons]
    have h1 := h a List.mem_cons_self
    have h2 := ih (fun b hb => h b (List.mem_cons_of_mem _ hb))
    omega
theorem okA_of_all {l : List G} (h : l.all glueOk = true) : okA l := fun g hg => List.all_eq_true.1 h g hg
end Go.Proofs.Ytfhhfibjjpiccaa
