/- The walks through the laws of looks and of costs. No condition. -/
import Derived.Test.YtoiacijjbehioaaArgs
import Derived.Test.YtoiacijjbehioaaCost
import Derived.Test.YtoiacijjbehioaaGlue
import Derived.Test.YtoiacijjbehioaaDrLooks
namespace Go.Proofs.Ytoiacijjbehioaa
open Go.RowKit
set_option linter.unusedVariables false
set_option linter.unusedSimpArgs false
theorem cost_in {b c : Int} (hb : 0 ≤ b ∧ b ≤ 10000) (hc : (0 ≤ c ∧ c ≤ 10000) ∨ c = -10000) : Cost b c = (10 + b) * (10 + b) + (if c = -10000 then 0 else c * c) := by
  unfold Cost; rw [if_pos ⟨hb, hc⟩]
theorem cost_facts {b c : Int} (hb : 0 ≤ b ∧ b ≤ 10000) (hc : (0 ≤ c ∧ c ≤ 10000) ∨ c = -10000) :
    0 ≤ Cost b c ∧ Cost b 0 ≤ Cost b c ∧ (0 < c → Cost b 0 < Cost b c) ∧ (¬ 0 < c → Cost b c = Cost b 0) ∧ Cost b (-10000) = Cost b 0 ∧ (b < 10000 → Cost b c < Cost (b + 1) c) := by
  have e0 : Cost b 0 = (10 + b) * (10 + b) := by rw [cost_in hb (.inl ⟨by omega, by omega⟩)]; simp
  have eF : Cost b (-10000) = (10 + b) * (10 + b) := by rw [cost_in hb (.inr rfl)]; simp
  have hsq : 0 ≤ (10 + b) * (10 + b) := Int.mul_nonneg (by omega) (by omega)
  rw [e0, eF]
  rcases hc with hc | rfl
  · have e1 : Cost b c = (10 + b) * (10 + b) + c * c := by rw [cost_in hb (.inl hc), if_neg (by omega)]
    have hcc : 0 ≤ c * c := Int.mul_nonneg hc.1 hc.1
    rw [e1]
    refine ⟨by omega, by omega, fun h => ?_, fun h => ?_, rfl, fun h => ?_⟩
    · have := Int.mul_pos h h; omega
    · have : c = 0 := by omega
      subst this; simp
    · rw [cost_in ⟨by omega, by omega⟩ (.inl hc), if_neg (by omega)]
      have : (10 + (b + 1)) * (10 + (b + 1)) = (10 + b) * (10 + b) + 2 * (10 + b) + 1 := by
        rw [show 10 + (b + 1) = (10 + b) + 1 by omega, Int.mul_add, Int.add_mul]; omega
      omega
  · refine ⟨by omega, by omega, fun h => by omega, fun h => by omega, rfl, fun h => ?_⟩
    rw [eF, cost_in ⟨by omega, by omega⟩ (.inr rfl)]
    have : (10 + (b + 1)) * (10 + (b + 1)) = (10 + b) * (10 + b) + 2 * (10 + b) + 1 := by
      rw [show 10 + (b + 1) = (10 + b) + 1 by omega, Int.mul_add, Int.add_mul]; omega
    simp; omega
set_option maxRecDepth 100000 in
theorem walkFnLooksOf (A0 : Option Addr) (n0 c0 : Nat) (l0 : List Int) (w : World) (w0a : n0 ≤ c0) (w0b : c0 ≤ maxLen) (w0c : List.length l0 = n0) (w0d : Rd w 1 A0 n0 (cellsB l0)) (w0e : ∀ z ∈ l0, 0 ≤ z ∧ z ≤ 255) :
    Calls Try.prog 16 #[.slice A0 n0 c0] w fun e w' => e = .returned (.bool true) ∧ Below w.heap.size w w' := by
  by_cases hbig : 1048576 < n0
  · have hd : decide (1048576 < (n0 : Int)) = true := by simp; omega
    clear w0a w0b w0c w0d w0e hbig
    go_enter Try.func16, Try.ntmps16
    go_wp2
    go_ret
    exact ⟨rfl, Below.refl _ _⟩
  · have hd : decide (1048576 < (n0 : Int)) = false := by simp; omega
    have hdraw := hide (drawLooks_any w A0 n0 c0 l0 w0c w0a (by omega) w0d w0e)
    clear w0a w0b w0c w0d w0e hbig
    go_enter Try.func16, Try.ntmps16
    go_wp2_with (fail)
    go_at_call 47
    refine hdraw.out.mono ?_
    rintro e w1 ⟨s, b, rfl, b0, b1, hb1⟩
    clear hdraw
    go_wp2_with (fail)
    go_at_call 43
    refine (implLooks_any s b w1).mono ?_
    rintro e w2 ⟨rfl, rfl⟩
    go_wp2_with (fail)
    go_at_call 42
    refine (specLooks_any s b w1).mono ?_
    rintro e w2 ⟨rfl, rfl⟩
    by_cases hin : 0 ≤ b ∧ b ≤ 10000
    · by_cases h12 : b ≤ 12
      · have hL : Looks s b = 1 := by simp [Looks, hin, h12]
        have d1 : decide (b ≤ 12) = true := by simpa using h12
        rw [hL]
        cases s
        · go_wp2
          all_goals (go_ret; exact ⟨rfl, hb1⟩)
        · go_wp2
          all_goals (go_ret; exact ⟨rfl, hb1⟩)
      · have d1 : decide (b ≤ 12) = false := by simp; omega
        cases s
        · have hL : Looks false b = 0 := by simp [Looks, hin, h12]
          rw [hL]
          go_wp2
          all_goals (go_ret; exact ⟨rfl, hb1⟩)
        · by_cases h100 : b < 100
          · have hL : Looks true b = 2 := by simp [Looks, hin, h12, h100]
            rw [hL]
            go_wp2
            all_goals (go_ret; exact ⟨rfl, hb1⟩)
          · have hL : Looks true b = 3 := by simp [Looks, hin, h12, h100]
            rw [hL]
            go_wp2
            all_goals (go_ret; exact ⟨rfl, hb1⟩)
    · have hL : Looks s b = -1 := by simp [Looks, hin]
      rw [hL]
      by_cases hneg : b < 0
      · have d1 : decide (b < 0) = true := by simpa using hneg
        go_wp2_with (fail)
        go_at_call 23
        refine (alive_any w1).mono ?_
        rintro e w3 ⟨rfl, hb3⟩
        go_wp2
        go_ret
        exact ⟨rfl, hb1.trans (hb3.mono hb1.size)⟩
      · have d1 : decide (b < 0) = false := by simp; omega
        have d2 : decide (10000 < b) = true := by simp; omega
        go_wp2_with (fail)
        go_at_call 23
        refine (alive_any w1).mono ?_
        rintro e w3 ⟨rfl, hb3⟩
        go_wp2
        go_ret
        exact ⟨rfl, hb1.trans (hb3.mono hb1.size)⟩
set_option maxRecDepth 100000 in
theorem walkFnCostOf (A0 : Option Addr) (n0 c0 : Nat) (l0 : List Int) (w : World) (w0a : n0 ≤ c0) (w0b : c0 ≤ maxLen) (w0c : List.length l0 = n0) (w0d : Rd w 1 A0 n0 (cellsB l0)) (w0e : ∀ z ∈ l0, 0 ≤ z ∧ z ≤ 255) :
    Calls Try.prog 17 #[.slice A0 n0 c0] w fun e w' => e = .returned (.bool true) ∧ Below w.heap.size w w' := by
  by_cases hbig : 1048576 < n0
  · have hd : decide (1048576 < (n0 : Int)) = true := by simp; omega
    clear w0a w0b w0c w0d w0e hbig
    go_enter Try.func17, Try.ntmps17
    go_wp2
    go_ret
    exact ⟨rfl, Below.refl _ _⟩
  · have hd : decide (1048576 < (n0 : Int)) = false := by simp; omega
    have hdraw := hide (drawCost_any w A0 n0 c0 l0 w0c w0a (by omega) w0d w0e)
    clear w0a w0b w0c w0d w0e hbig
    go_enter Try.func17, Try.ntmps17
    go_wp2_with (fail)
    go_at_call 48
    refine hdraw.out.mono ?_
    rintro e w1 ⟨b, c, rfl, b0, b1, c1, c2, hb1⟩
    clear hdraw
    go_wp2_with (fail)
    go_at_call 45
    refine (implCost_any b c w1).mono ?_
    rintro e w2 ⟨rfl, rfl⟩
    go_wp2_with (fail)
    go_at_call 44
    refine (specCost_any b c w1).mono ?_
    rintro e w2 ⟨rfl, rfl⟩
    by_cases hin : (0 ≤ b ∧ b ≤ 10000) ∧ ((0 ≤ c ∧ c ≤ 10000) ∨ c = -10000)
    · obtain ⟨f1, f2, f3, f4, f5, f6⟩ := cost_facts hin.1 hin.2
      have hd1 : decide (Cost b c < 0) = false := by simp; omega
      have hP := hide (implCost_any b 0 w1)
      have hF := hide (implCost_any b (-10000) w1)
      have hX := hide (implCost_any (b + 1) c w1)
      rw [f5] at hF
      generalize Cost b 0 = P at f2 f3 f4 hP hF
      generalize Cost (b + 1) c = X at f6 hX
      generalize Cost b c = M at f1 f2 f3 f4 f6 hd1 ⊢
      have d1 : decide (P ≤ M) = true := by simpa using f2
      have hbb := hin.1
      clear hin f5
      have dc : (decide (0 < c) = true ∧ decide (P < M) = true) ∨ (decide (0 < c) = false ∧ decide (P < M) = false) := by
        by_cases h : 0 < c
        · exact .inl ⟨by simpa using h, by simpa using f3 h⟩
        · have := f4 h
          exact .inr ⟨by simpa using h, by simp; omega⟩
      clear f3 f4
      by_cases hb : b = 10000
      · subst hb
        rcases dc with ⟨d2, d3⟩ | ⟨d2, d3⟩
        · go_wp2_with (fail)
          go_at_call 45
          refine hP.out.mono ?_
          rintro e w3 ⟨rfl, rfl⟩
          go_wp2_with (fail)
          go_at_call 45
          refine hF.out.mono ?_
          rintro e w3 ⟨rfl, rfl⟩
          go_wp2
          go_ret
          exact ⟨by first | rfl | simp, hb1⟩
        · go_wp2_with (fail)
          go_at_call 45
          refine hP.out.mono ?_
          rintro e w3 ⟨rfl, rfl⟩
          go_wp2_with (fail)
          go_at_call 45
          refine hF.out.mono ?_
          rintro e w3 ⟨rfl, rfl⟩
          go_wp2
          go_ret
          exact ⟨by first | rfl | simp, hb1⟩
      · have d4 : decide (M < X) = true := by simpa using f6 (by omega)
        have w4 : IntKind.i64.wrap (b + 1) = b + 1 := IntWalk.i64_in _ (by omega)
        rcases dc with ⟨d2, d3⟩ | ⟨d2, d3⟩
        · go_wp2_with (fail)
          go_at_call 45
          refine hP.out.mono ?_
          rintro e w3 ⟨rfl, rfl⟩
          go_wp2_with (fail)
          go_at_call 45
          refine hX.out.mono ?_
          rintro e w3 ⟨rfl, rfl⟩
          go_wp2_with (fail)
          go_at_call 45
          refine hF.out.mono ?_
          rintro e w3 ⟨rfl, rfl⟩
          go_wp2
          go_ret
          exact ⟨by first | rfl | simp, hb1⟩
        · go_wp2_with (fail)
          go_at_call 45
          refine hP.out.mono ?_
          rintro e w3 ⟨rfl, rfl⟩
          go_wp2_with (fail)
          go_at_call 45
          refine hX.out.mono ?_
          rintro e w3 ⟨rfl, rfl⟩
          go_wp2_with (fail)
          go_at_call 45
          refine hF.out.mono ?_
          rintro e w3 ⟨rfl, rfl⟩
          go_wp2
          go_ret
          exact ⟨by first | rfl | simp, hb1⟩
    · have hL : Cost b c = -1 := by simp [Cost, hin]
      rw [hL]
      clear hin
      go_wp2_with (fail)
      go_at_call 23
      refine (alive_any w1).mono ?_
      rintro e w3 ⟨rfl, hb3⟩
      go_wp2
      go_ret
      exact ⟨rfl, hb1.trans (hb3.mono hb1.size)⟩
end Go.Proofs.Ytoiacijjbehioaa
