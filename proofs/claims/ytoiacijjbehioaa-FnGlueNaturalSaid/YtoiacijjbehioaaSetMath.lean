/- Plain arithmetic of set glues: what is divided, by what, and what each glue gets. No program in sight. -/
import Derived.Test.YtoiacijjbehioaaShape
namespace Go.Proofs.Ytoiacijjbehioaa
set_option linter.unusedVariables false
set_option linter.unusedSimpArgs false

def GTs (l : List G) : Bool := l.all glueOk && decide (l.length ≤ 60)
structure Share where
  neg : Bool
  q : Int
  all : Int
  ok : Bool
/-- What is divided (q), by which sum (all), taken away or not, and whether it is possible. -/
def share (l : List G) (width : Int) : Share :=
  let t := totG l
  let m := width - t.w
  let q0 := if m < 0 then (if -m ≤ t.sh then -m else t.sh) else m
  let a0 := if m < 0 then t.sh else t.st
  let k0 := if m < 0 then decide (-m ≤ t.sh) else true
  if a0 = 0 then ⟨decide (m < 0), 0, 1, decide (q0 = 0) && k0⟩ else ⟨decide (m < 0), q0, a0, k0⟩
def fOf (l : List G) (neg : Bool) : G → Int := if neg = true then G.sh else stAt (totG l).o
def sgnOf (neg : Bool) : Int := if neg = true then -1 else 1
def setAt (f : G → Int) (q all sgn : Int) (l : List G) (k : Nat) (g : G) : Int := g.w + sgn * (q * (sumOf f (l.take k) + f g) / all - q * sumOf f (l.take k) / all)
def setList (l : List G) (width : Int) : List Int :=
  (List.range l.length).map fun k => setAt (fOf l (share l width).neg) (share l width).q (share l width).all (sgnOf (share l width).neg) l k (l[k]?.getD default)
def setTo (l : List G) (width : Int) (k : Nat) : List Int := (setList l width).take k
theorem setList_len (l : List G) (width : Int) : (setList l width).length = l.length := by simp [setList]
theorem setTo_len (l : List G) (width : Int) (k n : Nat) (hl : l.length = n) (hk : k ≤ n) : (setTo l width k).length = k := by
  simp [setTo, setList_len]; omega
theorem setTo_step (l : List G) (width : Int) (k : Nat) (g : G) (hg : l[k]? = some g) : setTo l width (k + 1) = setTo l width k ++ [setAt (fOf l (share l width).neg) (share l width).q (share l width).all (sgnOf (share l width).neg) l k g] := by
  have hk : k < l.length := (List.getElem?_eq_some_iff.1 hg).1
  unfold setTo
  rw [take_snoc' _ _ (setAt (fOf l (share l width).neg) (share l width).q (share l width).all (sgnOf (share l width).neg) l k g)]
  unfold setList
  rw [List.getElem?_map, List.getElem?_range hk]
  simp [hg]
theorem setTo_zero (l : List G) (width : Int) : setTo l width 0 = [] := rfl
theorem setTo_full (l : List G) (width : Int) (k n : Nat) (hl : l.length = n) (hk : ¬ k < n) : setTo l width k = setList l width := by
  unfold setTo
  exact List.take_of_length_le (by rw [setList_len]; omega)

theorem f_bd {l : List G} (neg : Bool) {g : G} (h : glueOk g = true) : 0 ≤ fOf l neg g ∧ fOf l neg g ≤ 1000 := by
  have := glueOk_true h
  unfold fOf
  cases neg
  · simp only [Bool.false_eq_true, if_false]
    unfold stAt
    split <;> omega
  · simp only [if_true]
    omega
theorem share1 {l : List G} {width : Int} (h : 0 ≤ width - (totG l).w) (hs : (totG l).st = 0) : share l width = ⟨false, 0, 1, decide (width - (totG l).w = 0)⟩ := by
  have e : decide (width - (totG l).w < 0) = false := decide_eq_false (by omega)
  have hn : ¬ width - (totG l).w < 0 := by omega
  simp only [share, if_neg hn, if_pos hs, e, Bool.and_true]
theorem share2 {l : List G} {width : Int} (h : 0 ≤ width - (totG l).w) (hs : ¬ (totG l).st = 0) : share l width = ⟨false, width - (totG l).w, (totG l).st, true⟩ := by
  have e : decide (width - (totG l).w < 0) = false := decide_eq_false (by omega)
  have hn : ¬ width - (totG l).w < 0 := by omega
  simp only [share, if_neg hn, if_neg hs, e]
theorem share3 {l : List G} {width : Int} (h : width - (totG l).w < 0) (hs : -(width - (totG l).w) ≤ (totG l).sh) : share l width = ⟨true, -(width - (totG l).w), (totG l).sh, true⟩ := by
  have e : decide (width - (totG l).w < 0) = true := decide_eq_true h
  have e2 : decide (-(width - (totG l).w) ≤ (totG l).sh) = true := decide_eq_true hs
  have hz : ¬ (totG l).sh = 0 := by omega
  simp only [share, if_pos h, if_pos hs, if_neg hz, e, e2]
theorem share4 {l : List G} {width : Int} (h : width - (totG l).w < 0) (hs : (totG l).sh < -(width - (totG l).w)) (hz : ¬ (totG l).sh = 0) : share l width = ⟨true, (totG l).sh, (totG l).sh, false⟩ := by
  have e : decide (width - (totG l).w < 0) = true := decide_eq_true h
  have e2 : decide (-(width - (totG l).w) ≤ (totG l).sh) = false := decide_eq_false (by omega)
  have hn : ¬ -(width - (totG l).w) ≤ (totG l).sh := by omega
  simp only [share, if_pos h, if_neg hz, if_neg hn, e, e2]
theorem share5 {l : List G} {width : Int} (h : width - (totG l).w < 0) (hz : (totG l).sh = 0) : share l width = ⟨true, 0, 1, false⟩ := by
  have e : decide (width - (totG l).w < 0) = true := decide_eq_true h
  have e2 : decide (-(width - (totG l).w) ≤ (totG l).sh) = false := decide_eq_false (by omega)
  simp only [share, if_pos h, if_pos hz, e, e2, Bool.and_false]
theorem share_bd {l : List G} {width : Int} (hok : okA l) (hl : l.length ≤ 60) (h0 : 0 ≤ width) (h1 : width ≤ 60000) :
    0 ≤ (share l width).q ∧ (share l width).q ≤ 60000 ∧ 1 ≤ (share l width).all ∧ (share l width).all ≤ 60000 := by
  obtain ⟨⟨a1, a2⟩, ⟨b1, b2⟩, ⟨c1, c2⟩, _⟩ := totG_bd hok
  have hl' : (1000 : Int) * l.length ≤ 60000 := by omega
  by_cases hm : width - (totG l).w < 0
  · by_cases hz : (totG l).sh = 0
    · rw [share5 hm hz]; dsimp only; omega
    · by_cases hs : -(width - (totG l).w) ≤ (totG l).sh
      · rw [share3 hm hs]; dsimp only; omega
      · rw [share4 hm (by omega) hz]; dsimp only; omega
  · by_cases hz : (totG l).st = 0
    · rw [share1 (by omega) hz]; dsimp only; omega
    · rw [share2 (by omega) hz]; dsimp only; omega
theorem prod_bd {q s : Int} (h0 : 0 ≤ q) (h1 : q ≤ 60000) (s0 : 0 ≤ s) (s1 : s ≤ 100000) : 0 ≤ q * s ∧ q * s ≤ 6000000000 := by
  constructor
  · exact Int.mul_nonneg h0 s0
  · have := Int.mul_le_mul h1 s1 s0 (by omega)
    omega
theorem quot_bd {a b : Int} (h0 : 0 ≤ a) (h1 : a ≤ 6000000000) (hb : 1 ≤ b) : 0 ≤ a / b ∧ a / b ≤ 6000000000 :=
  ⟨Int.ediv_nonneg h0 (by omega), by have := Int.ediv_le_self b h0; omega⟩
end Go.Proofs.Ytoiacijjbehioaa
