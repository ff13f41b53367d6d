/- Plain arithmetic of badness: the cube law, that it never passes its bounds, and how it grows. No condition beyond those each lemma states. -/
import Derived.Test.YtoiacijjbehioaaShape
namespace Go.Proofs.Ytoiacijjbehioaa
set_option linter.unusedVariables false
set_option linter.unusedSimpArgs false

theorem cube_mono {a b : Int} (h0 : 0 ≤ a) (h : a ≤ b) : a * a * a ≤ b * b * b := by
  have h1 : a * a ≤ b * b := Int.mul_le_mul h h h0 (by omega)
  exact Int.mul_le_mul h1 h h0 (Int.mul_nonneg (by omega) (by omega))
theorem cube_nonneg {a : Int} (h0 : 0 ≤ a) : 0 ≤ a * a * a := Int.mul_nonneg (Int.mul_nonneg h0 h0) h0
theorem cube_pos {a : Int} (h0 : 0 < a) : 0 < a * a * a := Int.mul_pos (Int.mul_pos h0 h0) h0
theorem cube_scale (k a : Int) : (k * a) * (k * a) * (k * a) = (k * k * k) * (a * a * a) := by
  simp only [Int.mul_assoc, Int.mul_left_comm, Int.mul_comm]
theorem hund (n : Int) : 100 * n * n * n = 100 * (n * n * n) := by
  simp only [Int.mul_assoc]

/-- How bad it is: the third power of what is needed over that of the room. -/
def bad (n r : Int) : Int := if n = 0 then 0 else if r = 0 then 10000 else min 10000 (100 * n * n * n / (r * r * r))

theorem big_quot {n r : Int} (hr : 0 < r) (h : 5 * r < n) : 10000 ≤ 100 * n * n * n / (r * r * r) := by
  have hc := cube_pos hr
  have h1 : (5 * r) * (5 * r) * (5 * r) ≤ n * n * n := cube_mono (by omega) (by omega)
  rw [cube_scale] at h1
  rw [hund]
  refine Int.le_ediv_of_mul_le hc ?_
  generalize r * r * r = c at *
  generalize n * n * n = d at *
  omega

theorem bad_of_big {n r : Int} (hr : 0 < r) (h : 5 * r < n) : bad n r = 10000 := by
  have := big_quot hr h
  unfold bad
  rw [if_neg (by omega), if_neg (by omega)]
  omega

theorem quot_nonneg {n r : Int} (h0 : 0 ≤ n) (hr : 0 < r) : 0 ≤ 100 * n * n * n / (r * r * r) := by
  rw [hund]
  exact Int.ediv_nonneg (by have := cube_nonneg h0; omega) (by have := cube_pos hr; omega)

theorem bad_bounds {n r : Int} (h0 : 0 ≤ n) (hr : 0 ≤ r) : 0 ≤ bad n r ∧ bad n r ≤ 10000 := by
  unfold bad
  split
  · omega
  · split
    · omega
    · have := quot_nonneg h0 (show 0 < r by omega)
      omega

theorem cube_le {n : Int} (h0 : 0 ≤ n) (h1 : n ≤ 100000) : n * n * n ≤ 1000000000000000 := by
  have := cube_mono h0 h1
  omega

theorem sq_le {n m : Int} (h0 : 0 ≤ n) (h1 : n ≤ m) : n * n ≤ m * m := Int.mul_le_mul h1 h1 h0 (by omega)

/-- The bounds that the walk through the quotient needs. -/
theorem bad_parts {n r : Int} (h0 : 0 ≤ n) (h1 : n ≤ 100000) (h2 : 0 < r) (h3 : r ≤ 100000) :
    (0 ≤ 100 * n * n ∧ 100 * n * n ≤ 1000000000000) ∧ (0 ≤ 100 * n * n * n ∧ 100 * n * n * n ≤ 100000000000000000) ∧ (0 ≤ r * r ∧ r * r ≤ 10000000000) ∧ (1 ≤ r * r * r ∧ r * r * r ≤ 1000000000000000) ∧
    (0 ≤ 100 * n * n * n / (r * r * r) ∧ 100 * n * n * n / (r * r * r) ≤ 100000000000000000) := by
  have e1 : 100 * n * n = 100 * (n * n) := by simp only [Int.mul_assoc]
  have hn2 := sq_le h0 h1
  have hn0 : 0 ≤ n * n := Int.mul_nonneg h0 h0
  have hn3 := cube_le h0 h1
  have hn30 := cube_nonneg h0
  have hr2 := sq_le (show 0 ≤ r by omega) h3
  have hr0 : 0 ≤ r * r := Int.mul_nonneg (by omega) (by omega)
  have hr3 := cube_le (show 0 ≤ r by omega) h3
  have hr30 := cube_pos h2
  have hq := quot_nonneg h0 h2
  have hq2 : 100 * n * n * n / (r * r * r) ≤ 100 * n * n * n := Int.ediv_le_self _ (by rw [hund]; omega)
  rw [hund] at *
  rw [e1]
  refine ⟨by omega, by omega, by omega, by omega, hq, by omega⟩

theorem ediv_le_of_le {a b c d : Int} (h0 : 0 ≤ a) (hab : a ≤ b) (hd : 0 < d) (hdc : d ≤ c) : a / c ≤ b / d := by
  have h1 : a / c ≤ a / d := by
    refine Int.le_ediv_of_mul_le hd ?_
    have hq : 0 ≤ a / c := Int.ediv_nonneg h0 (by omega)
    exact Int.le_trans (Int.mul_le_mul_of_nonneg_left hdc hq) (Int.ediv_mul_le a (by omega))
  exact Int.le_trans h1 (Int.ediv_le_ediv hd hab)

theorem bad_more {n n' r : Int} (h0 : 0 ≤ n) (h : n ≤ n') (hr : 0 ≤ r) : bad n r ≤ bad n' r := by
  by_cases hn : n = 0
  · have := (bad_bounds (show 0 ≤ n' by omega) hr).1
    have e : bad n r = 0 := by unfold bad; rw [if_pos hn]
    omega
  · unfold bad
    rw [if_neg hn, if_neg (show ¬ n' = 0 by omega)]
    split
    · omega
    · have hc := cube_pos (show 0 < r by omega)
      have := ediv_le_of_le (a := 100 * n * n * n) (b := 100 * n' * n' * n') (c := r * r * r) (d := r * r * r) (by rw [hund]; have := cube_nonneg h0; omega) (by rw [hund, hund]; have := cube_mono h0 h; omega) hc (by omega)
      omega

theorem bad_wide {n r r' : Int} (h0 : 0 ≤ n) (hr : 0 ≤ r) (h : r ≤ r') : bad n r' ≤ bad n r := by
  by_cases hn : n = 0
  · unfold bad
    rw [if_pos hn, if_pos hn]
    omega
  · by_cases hr0 : r = 0
    · have := (bad_bounds h0 (show 0 ≤ r' by omega)).2
      have e : bad n r = 10000 := by unfold bad; rw [if_neg hn, if_pos hr0]
      omega
    · unfold bad
      rw [if_neg hn, if_neg hn, if_neg hr0, if_neg (show ¬ r' = 0 by omega)]
      have hc := cube_pos (show 0 < r by omega)
      have := ediv_le_of_le (a := 100 * n * n * n) (b := 100 * n * n * n) (c := r' * r' * r') (d := r * r * r) (by rw [hund]; have := cube_nonneg h0; omega) (by omega) hc (cube_mono (by omega) h)
      omega

theorem bad_self {n : Int} (h0 : 0 < n) : bad n n = 100 := by
  have hc := cube_pos h0
  unfold bad
  rw [if_neg (by omega), if_neg (by omega), hund, Int.mul_ediv_cancel _ (by omega)]
  omega

theorem bad_double (n r : Int) : bad (2 * n) (2 * r) = bad n r := by
  unfold bad
  by_cases hn : n = 0
  · rw [if_pos (by omega), if_pos hn]
  · rw [if_neg (by omega), if_neg hn]
    by_cases hr : r = 0
    · rw [if_pos (by omega), if_pos hr]
    · rw [if_neg (by omega), if_neg hr, hund, hund, cube_scale, cube_scale 2 r]
      rw [show 100 * (2 * 2 * 2 * (n * n * n)) = (2 * 2 * 2) * (100 * (n * n * n)) from by omega, Int.mul_ediv_mul_of_pos _ _ (by omega)]
def BadOf (n r : Int) : Int := if (0 ≤ n ∧ n ≤ 100000) ∧ (0 ≤ r ∧ r ≤ 100000) then bad n r else -1
def Looks (s : Bool) (b : Int) : Int := if 0 ≤ b ∧ b ≤ 10000 then (if b ≤ 12 then 1 else if s = false then 0 else if b < 100 then 2 else 3) else -1
def Cost (b c : Int) : Int := if (0 ≤ b ∧ b ≤ 10000) ∧ ((0 ≤ c ∧ c ≤ 10000) ∨ c = -10000) then (10 + b) * (10 + b) + (if c = -10000 then 0 else c * c) else -1
theorem Cost_forced {b : Int} (h : 0 ≤ b ∧ b ≤ 10000) : Cost b (-10000) = (10 + b) * (10 + b) := by
  unfold Cost
  rw [if_pos ⟨h, .inr rfl⟩, if_pos rfl]
  omega
end Go.Proofs.Ytoiacijjbehioaa
