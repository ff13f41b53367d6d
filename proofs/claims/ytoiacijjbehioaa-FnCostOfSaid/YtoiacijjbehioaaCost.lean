/- The walks through looks and costs: the program's and the reference's functions compute 'Looks' and 'Cost'. No condition. -/
import Derived.Test.YtoiacijjbehioaaIn
import Derived.Test.YtoiacijjbehioaaBadMath
namespace Go.Proofs.Ytoiacijjbehioaa
open Go.RowKit
set_option linter.unusedVariables false
set_option linter.unusedSimpArgs false

theorem isBad_any (b : Int) (w : World) :
    Calls Try.prog 61 #[.int .i64 b] w fun e w' => e = .returned (.bool (inB b 0 10000)) ∧ w = w' := by
  go_enter Try.func61, Try.ntmps61
  go_wp2_with (go_at_call 50; refine (in_any _ _ _ _).mono ?_; rintro e w' ⟨rfl, rfl⟩)
  go_ret
  exact ⟨rfl, rfl⟩

theorem implLooks_any (s : Bool) (b : Int) (w : World) :
    Calls Try.prog 43 #[.bool s, .int .i64 b] w fun e w' => e = .returned (.int .i64 (Looks s b)) ∧ w = w' := by
  by_cases h : 0 ≤ b ∧ b ≤ 10000
  · have i := inB_mk (n := b) (lo := 0) (hi := 10000) h
    by_cases h1 : b ≤ 12
    · have e : Looks s b = 1 := by simp [Looks, h, h1]
      rw [e]; clear e
      have hd : decide (b ≤ 12) = true := by simpa using h1
      go_enter Try.func43, Try.ntmps43
      go_wp2_with (go_at_call 61; refine (isBad_any _ _).mono ?_; rintro e w' ⟨rfl, rfl⟩)
      go_ret
      exact ⟨rfl, rfl⟩
    · have hd : decide (b ≤ 12) = false := by simpa using h1
      cases s
      · have e : Looks false b = 0 := by simp [Looks, h, h1]
        rw [e]; clear e
        go_enter Try.func43, Try.ntmps43
        go_wp2_with (go_at_call 61; refine (isBad_any _ _).mono ?_; rintro e w' ⟨rfl, rfl⟩)
        go_ret
        exact ⟨rfl, rfl⟩
      · by_cases h2 : b < 100
        · have e : Looks true b = 2 := by simp [Looks, h, h1, h2]
          rw [e]; clear e
          have hd2 : decide (b < 100) = true := by simpa using h2
          go_enter Try.func43, Try.ntmps43
          go_wp2_with (go_at_call 61; refine (isBad_any _ _).mono ?_; rintro e w' ⟨rfl, rfl⟩)
          go_ret
          exact ⟨rfl, rfl⟩
        · have e : Looks true b = 3 := by simp [Looks, h, h1, h2]
          rw [e]; clear e
          have hd2 : decide (b < 100) = false := by simpa using h2
          go_enter Try.func43, Try.ntmps43
          go_wp2_with (go_at_call 61; refine (isBad_any _ _).mono ?_; rintro e w' ⟨rfl, rfl⟩)
          go_ret
          exact ⟨rfl, rfl⟩
  · have i := inB_no (n := b) (lo := 0) (hi := 10000) (by omega)
    have e : Looks s b = -1 := by simp only [Looks]; rw [if_neg h]
    rw [e]; clear e h
    go_enter Try.func43, Try.ntmps43
    go_wp2_with (go_at_call 61; refine (isBad_any _ _).mono ?_; rintro e w' ⟨rfl, rfl⟩)
    go_ret
    exact ⟨rfl, rfl⟩

theorem specLooks_any (s : Bool) (b : Int) (w : World) :
    Calls Try.prog 42 #[.bool s, .int .i64 b] w fun e w' => e = .returned (.int .i64 (Looks s b)) ∧ w = w' := by
  by_cases h : 0 ≤ b ∧ b ≤ 10000
  · have i := inB_mk (n := b) (lo := 0) (hi := 10000) h
    by_cases h1 : b ≤ 12
    · have e : Looks s b = 1 := by simp [Looks, h, h1]
      rw [e]; clear e
      have hd : decide (b ≤ 12) = true := by simpa using h1
      go_enter Try.func42, Try.ntmps42
      go_wp2_with (go_at_call 49; refine (l1In_any _ _ _ _).mono ?_; rintro e w' ⟨rfl, rfl⟩)
      go_ret
      exact ⟨rfl, rfl⟩
    · have hd : decide (b ≤ 12) = false := by simpa using h1
      cases s
      · have e : Looks false b = 0 := by simp [Looks, h, h1]
        rw [e]; clear e
        go_enter Try.func42, Try.ntmps42
        go_wp2_with (go_at_call 49; refine (l1In_any _ _ _ _).mono ?_; rintro e w' ⟨rfl, rfl⟩)
        go_ret
        exact ⟨rfl, rfl⟩
      · by_cases h2 : b < 100
        · have e : Looks true b = 2 := by simp [Looks, h, h1, h2]
          rw [e]; clear e
          have hd2 : decide (b < 100) = true := by simpa using h2
          go_enter Try.func42, Try.ntmps42
          go_wp2_with (go_at_call 49; refine (l1In_any _ _ _ _).mono ?_; rintro e w' ⟨rfl, rfl⟩)
          go_ret
          exact ⟨rfl, rfl⟩
        · have e : Looks true b = 3 := by simp [Looks, h, h1, h2]
          rw [e]; clear e
          have hd2 : decide (b < 100) = false := by simpa using h2
          go_enter Try.func42, Try.ntmps42
          go_wp2_with (go_at_call 49; refine (l1In_any _ _ _ _).mono ?_; rintro e w' ⟨rfl, rfl⟩)
          go_ret
          exact ⟨rfl, rfl⟩
  · have i := inB_no (n := b) (lo := 0) (hi := 10000) (by omega)
    have e : Looks s b = -1 := by simp only [Looks]; rw [if_neg h]
    rw [e]; clear e h
    go_enter Try.func42, Try.ntmps42
    go_wp2_with (go_at_call 49; refine (l1In_any _ _ _ _).mono ?_; rintro e w' ⟨rfl, rfl⟩)
    go_ret
    exact ⟨rfl, rfl⟩

def costB (c : Int) : Bool := decide ((0 ≤ c ∧ c ≤ 10000) ∨ c = -10000)
theorem costB_true {c : Int} (h : costB c = true) : (0 ≤ c ∧ c ≤ 10000) ∨ c = -10000 := by simpa [costB] using h
theorem costB_false {c : Int} (h : costB c = false) : ¬ ((0 ≤ c ∧ c ≤ 10000) ∨ c = -10000) := by
  intro k; simp [costB, k] at h

theorem isCost_any (c : Int) (w : World) :
    Calls Try.prog 62 #[.int .i64 c] w fun e w' => e = .returned (.bool (costB c)) ∧ w = w' := by
  by_cases h : 0 ≤ c ∧ c ≤ 10000
  · have i := inB_mk (n := c) (lo := 0) (hi := 10000) h
    have e : costB c = true := by simp [costB, h]
    rw [e]; clear e
    go_enter Try.func62, Try.ntmps62
    go_wp2_with (go_at_call 61; refine (isBad_any _ _).mono ?_; rintro e w' ⟨rfl, rfl⟩)
    go_ret
    exact ⟨rfl, rfl⟩
  · have i := inB_no (n := c) (lo := 0) (hi := 10000) (by omega)
    have e : costB c = (c == -10000) := by
      simp only [costB]
      rw [Bool.eq_iff_iff]
      simp
      omega
    rw [e]; clear e h
    go_enter Try.func62, Try.ntmps62
    go_wp2_with (go_at_call 61; refine (isBad_any _ _).mono ?_; rintro e w' ⟨rfl, rfl⟩)
    go_ret
    exact ⟨rfl, rfl⟩

theorem cost_bd {b c : Int} (h : 0 ≤ b ∧ b ≤ 10000) (hc : 0 ≤ c ∧ c ≤ 10000) : (0 ≤ (10 + b) * (10 + b) ∧ (10 + b) * (10 + b) ≤ 100200100) ∧ (0 ≤ c * c ∧ c * c ≤ 100000000) := by
  have h1 := sq_le (n := 10 + b) (m := 10010) (by omega) (by omega)
  have h2 := sq_le (n := c) (m := 10000) (by omega) (by omega)
  exact ⟨⟨Int.mul_nonneg (by omega) (by omega), by omega⟩, ⟨Int.mul_nonneg (by omega) (by omega), by omega⟩⟩

theorem implCost_any (b c : Int) (w : World) :
    Calls Try.prog 45 #[.int .i64 b, .int .i64 c] w fun e w' => e = .returned (.int .i64 (Cost b c)) ∧ w = w' := by
  by_cases h : 0 ≤ b ∧ b ≤ 10000
  · have i := inB_mk (n := b) (lo := 0) (hi := 10000) h
    by_cases h1 : 0 ≤ c ∧ c ≤ 10000
    · have e : Cost b c = (10 + b) * (10 + b) + c * c := by
        simp only [Cost]; rw [if_pos ⟨h, .inl h1⟩, if_neg (by omega)]
      rw [e]; clear e
      obtain ⟨⟨m1, m2⟩, m3, m4⟩ := cost_bd h h1
      have j : costB c = true := by simp [costB, h1]
      have hne : (c == -10000) = false := by simp; omega
      have hne' : (c != -10000) = true := by simp; omega
      go_enter Try.func45, Try.ntmps45
      go_wp2_with (first | (go_at_call 61; refine (isBad_any _ _).mono ?_; rintro e w' ⟨rfl, rfl⟩) | (go_at_call 62; refine (isCost_any _ _).mono ?_; rintro e w' ⟨rfl, rfl⟩))
      go_ret
      exact ⟨rfl, rfl⟩
    · by_cases h2 : c = -10000
      · subst h2
        have e := Cost_forced h
        rw [e]; clear e
        obtain ⟨⟨m1, m2⟩, _, _⟩ := cost_bd h (c := 0) (by omega)
        have j : costB (-10000) = true := by simp [costB]
        go_enter Try.func45, Try.ntmps45
        go_wp2_with (first | (go_at_call 61; refine (isBad_any _ _).mono ?_; rintro e w' ⟨rfl, rfl⟩) | (go_at_call 62; refine (isCost_any _ _).mono ?_; rintro e w' ⟨rfl, rfl⟩))
        go_ret
        exact ⟨rfl, rfl⟩
      · have e : Cost b c = -1 := by
          simp only [Cost]; rw [if_neg (by omega)]
        rw [e]; clear e
        have j : costB c = false := by simp only [costB, decide_eq_false_iff_not]; omega
        clear h h1 h2
        go_enter Try.func45, Try.ntmps45
        go_wp2_with (first | (go_at_call 61; refine (isBad_any _ _).mono ?_; rintro e w' ⟨rfl, rfl⟩) | (go_at_call 62; refine (isCost_any _ _).mono ?_; rintro e w' ⟨rfl, rfl⟩))
        go_ret
        exact ⟨rfl, rfl⟩
  · have i := inB_no (n := b) (lo := 0) (hi := 10000) (by omega)
    have e : Cost b c = -1 := by simp only [Cost]; rw [if_neg (fun k => h k.1)]
    rw [e]; clear e h
    go_enter Try.func45, Try.ntmps45
    go_wp2_with (first | (go_at_call 61; refine (isBad_any _ _).mono ?_; rintro e w' ⟨rfl, rfl⟩) | (go_at_call 62; refine (isCost_any _ _).mono ?_; rintro e w' ⟨rfl, rfl⟩))
    go_ret
    exact ⟨rfl, rfl⟩

theorem specCost_any (b c : Int) (w : World) :
    Calls Try.prog 44 #[.int .i64 b, .int .i64 c] w fun e w' => e = .returned (.int .i64 (Cost b c)) ∧ w = w' := by
  by_cases h : 0 ≤ b ∧ b ≤ 10000
  · have i := inB_mk (n := b) (lo := 0) (hi := 10000) h
    by_cases h1 : 0 ≤ c ∧ c ≤ 10000
    · have e : Cost b c = (10 + b) * (10 + b) + c * c := by
        simp only [Cost]; rw [if_pos ⟨h, .inl h1⟩, if_neg (by omega)]
      obtain ⟨⟨m1, m2⟩, m3, m4⟩ := cost_bd h h1
      have j := inB_mk (n := c) (lo := 0) (hi := 10000) h1
      by_cases h3 : 0 < c
      · rw [e]; clear e
        go_enter Try.func44, Try.ntmps44
        go_wp2_with (go_at_call 49; refine (l1In_any _ _ _ _).mono ?_; rintro e w' ⟨rfl, rfl⟩)
        go_ret
        exact ⟨rfl, rfl⟩
      · obtain rfl : c = 0 := by omega
        have e2 : Cost b 0 = (10 + b) * (10 + b) := by rw [e]; omega
        rw [e2]; clear e e2
        go_enter Try.func44, Try.ntmps44
        go_wp2_with (go_at_call 49; refine (l1In_any _ _ _ _).mono ?_; rintro e w' ⟨rfl, rfl⟩)
        go_ret
        exact ⟨rfl, rfl⟩
    · by_cases h2 : c = -10000
      · subst h2
        have e := Cost_forced h
        rw [e]; clear e
        obtain ⟨⟨m1, m2⟩, _, _⟩ := cost_bd h (c := 0) (by omega)
        have j := inB_no (n := -10000) (lo := 0) (hi := 10000) (by omega)
        go_enter Try.func44, Try.ntmps44
        go_wp2_with (go_at_call 49; refine (l1In_any _ _ _ _).mono ?_; rintro e w' ⟨rfl, rfl⟩)
        go_ret
        exact ⟨rfl, rfl⟩
      · have e : Cost b c = -1 := by
          simp only [Cost]; rw [if_neg (by omega)]
        rw [e]; clear e
        have j := inB_no (n := c) (lo := 0) (hi := 10000) (by omega)
        have hne : (c == -10000) = false := by simp; omega
        have hne' : (c != -10000) = true := by simp; omega
        clear h h1 h2
        go_enter Try.func44, Try.ntmps44
        go_wp2_with (go_at_call 49; refine (l1In_any _ _ _ _).mono ?_; rintro e w' ⟨rfl, rfl⟩)
        go_ret
        exact ⟨rfl, rfl⟩
  · have i := inB_no (n := b) (lo := 0) (hi := 10000) (by omega)
    have e : Cost b c = -1 := by simp only [Cost]; rw [if_neg (fun k => h k.1)]
    rw [e]; clear e h
    go_enter Try.func44, Try.ntmps44
    go_wp2_with (go_at_call 49; refine (l1In_any _ _ _ _).mono ?_; rintro e w' ⟨rfl, rfl⟩)
    go_ret
    exact ⟨rfl, rfl⟩
end Go.Proofs.Ytoiacijjbehioaa
