/- The walks through the laws of badness. No condition. -/
import Derived.Test.YtoiacijjbehioaaArgs
import Derived.Test.YtoiacijjbehioaaBad
import Derived.Test.YtoiacijjbehioaaGlue
import Derived.Test.YtoiacijjbehioaaDrBad
namespace Go.Proofs.Ytoiacijjbehioaa
open Go.RowKit
set_option linter.unusedVariables false
set_option linter.unusedSimpArgs false
set_option maxRecDepth 100000 in
theorem walkFnBadnessOf (A0 : Option Addr) (n0 c0 : Nat) (l0 : List Int) (w : World) (w0a : n0 ≤ c0) (w0b : c0 ≤ maxLen) (w0c : List.length l0 = n0) (w0d : Rd w 1 A0 n0 (cellsB l0)) (w0e : ∀ z ∈ l0, 0 ≤ z ∧ z ≤ 255) :
    Calls Try.prog 15 #[.slice A0 n0 c0] w fun e w' => e = .returned (.bool true) ∧ Below w.heap.size w w' := by
  by_cases hbig : 1048576 < n0
  · have hd : decide (1048576 < (n0 : Int)) = true := by simp; omega
    clear w0a w0b w0c w0d w0e hbig
    go_enter Try.func15, Try.ntmps15
    go_wp2
    go_ret
    exact ⟨rfl, Below.refl _ _⟩
  · have hd : decide (1048576 < (n0 : Int)) = false := by simp; omega
    have hdraw := hide (drawBad_any w A0 n0 c0 l0 w0c w0a (by omega) w0d w0e)
    clear w0a w0b w0c w0d w0e hbig
    go_enter Try.func15, Try.ntmps15
    go_wp2_with (fail)
    go_at_call 46
    refine hdraw.out.mono ?_
    rintro e w1 ⟨a, b, rfl, a0, a1, b0, b1, hb1⟩
    clear hdraw
    go_wp2_with (fail)
    go_at_call 41
    refine (implBad_any a b w1).mono ?_
    rintro e w2 ⟨rfl, rfl⟩
    go_wp2_with (fail)
    go_at_call 40
    refine (specBad_any a b w1).mono ?_
    rintro e w2 ⟨rfl, rfl⟩
    by_cases hin : (0 ≤ a ∧ a ≤ 100000) ∧ (0 ≤ b ∧ b ≤ 100000)
    · have hB : BadOf a b = bad a b := by simp [BadOf, hin]
      have hbd := bad_bounds hin.1.1 hin.2.1
      have hself : a ≠ b ∨ a = 0 ∨ bad a b = 100 := by
        by_cases h1 : a = b
        · by_cases h2 : a = 0
          · exact .inr (.inl h2)
          · subst h1; exact .inr (.inr (bad_self (by omega)))
        · exact .inl h1
      have hm0 : ∀ m, a ≤ m → m ≤ 100000 → bad a b ≤ BadOf m b := fun m h1 h2 => by
        have : BadOf m b = bad m b := by unfold BadOf; rw [if_pos ⟨⟨by omega, h2⟩, hin.2⟩]
        rw [this]; exact bad_more hin.1.1 h1 hin.2.1
      have hw0 : ∀ m, b ≤ m → m ≤ 100000 → BadOf a m ≤ bad a b := fun m h1 h2 => by
        have : BadOf a m = bad a m := by unfold BadOf; rw [if_pos ⟨hin.1, ⟨by omega, h2⟩⟩]
        rw [this]; exact bad_wide hin.1.1 hin.2.1 h1
      rw [hB]
      have hlt : decide (bad a b < 0) = false := by simp; omega
      clear hB
      by_cases ha : 100000 ≤ a + 1
      · have hm := hm0 100000 (by omega) (by omega)
        clear hm0
        by_cases hb' : 100000 ≤ b + 1
        · have hw := hw0 100000 (by omega) (by omega)
          clear hw0
          clear hin hd
          go_wp2_with (fail)
          go_at_call 41
          refine (implBad_any 100000 b w1).mono ?_
          rintro e w3 ⟨rfl, rfl⟩
          go_wp2_with (fail)
          go_at_call 41
          refine (implBad_any a 100000 w1).mono ?_
          rintro e w3 ⟨rfl, rfl⟩
          generalize BadOf 100000 b = X at hm ⊢
          generalize BadOf a 100000 = Y at hw ⊢
          generalize bad a b = n at hm hw hbd hlt hself ⊢
          have d1 : decide (n ≤ 10000) = true := by simp; omega
          have d2 : decide (n ≤ X) = true := by simp; omega
          have d3 : decide (Y ≤ n) = true := by simp; omega
          go_wp2
          all_goals (go_ret; refine ⟨?_, hb1⟩; first | rfl | (simp; omega) | (exfalso; simp at *; omega))
        · have hw := hw0 (b + 1) (by omega) (by omega)
          clear hw0
          clear hin hd
          go_wp2_with (fail)
          go_at_call 41
          refine (implBad_any 100000 b w1).mono ?_
          rintro e w3 ⟨rfl, rfl⟩
          go_wp2_with (fail)
          go_at_call 41
          refine (implBad_any a (b + 1) w1).mono ?_
          rintro e w3 ⟨rfl, rfl⟩
          generalize BadOf 100000 b = X at hm ⊢
          generalize BadOf a (b + 1) = Y at hw ⊢
          generalize bad a b = n at hm hw hbd hlt hself ⊢
          have d1 : decide (n ≤ 10000) = true := by simp; omega
          have d2 : decide (n ≤ X) = true := by simp; omega
          have d3 : decide (Y ≤ n) = true := by simp; omega
          go_wp2
          all_goals (go_ret; refine ⟨?_, hb1⟩; first | rfl | (simp; omega) | (exfalso; simp at *; omega))
      · have hm := hm0 (a + 1) (by omega) (by omega)
        clear hm0
        by_cases hb' : 100000 ≤ b + 1
        · have hw := hw0 100000 (by omega) (by omega)
          clear hw0
          clear hin hd
          go_wp2_with (fail)
          go_at_call 41
          refine (implBad_any (a + 1) b w1).mono ?_
          rintro e w3 ⟨rfl, rfl⟩
          go_wp2_with (fail)
          go_at_call 41
          refine (implBad_any a 100000 w1).mono ?_
          rintro e w3 ⟨rfl, rfl⟩
          generalize BadOf (a + 1) b = X at hm ⊢
          generalize BadOf a 100000 = Y at hw ⊢
          generalize bad a b = n at hm hw hbd hlt hself ⊢
          have d1 : decide (n ≤ 10000) = true := by simp; omega
          have d2 : decide (n ≤ X) = true := by simp; omega
          have d3 : decide (Y ≤ n) = true := by simp; omega
          go_wp2
          all_goals (go_ret; refine ⟨?_, hb1⟩; first | rfl | (simp; omega) | (exfalso; simp at *; omega))
        · have hw := hw0 (b + 1) (by omega) (by omega)
          clear hw0
          clear hin hd
          go_wp2_with (fail)
          go_at_call 41
          refine (implBad_any (a + 1) b w1).mono ?_
          rintro e w3 ⟨rfl, rfl⟩
          go_wp2_with (fail)
          go_at_call 41
          refine (implBad_any a (b + 1) w1).mono ?_
          rintro e w3 ⟨rfl, rfl⟩
          generalize BadOf (a + 1) b = X at hm ⊢
          generalize BadOf a (b + 1) = Y at hw ⊢
          generalize bad a b = n at hm hw hbd hlt hself ⊢
          have d1 : decide (n ≤ 10000) = true := by simp; omega
          have d2 : decide (n ≤ X) = true := by simp; omega
          have d3 : decide (Y ≤ n) = true := by simp; omega
          go_wp2
          all_goals (go_ret; refine ⟨?_, hb1⟩; first | rfl | (simp; omega) | (exfalso; simp at *; omega))
    · have hB : BadOf a b = -1 := by simp [BadOf, hin]
      rw [hB]
      go_wp2_with (fail)
      go_at_call 23
      refine (alive_any w1).mono ?_
      rintro e w3 ⟨rfl, hb3⟩
      go_wp2
      go_ret
      exact ⟨rfl, hb1.trans (hb3.mono hb1.size)⟩
set_option maxRecDepth 100000 in
theorem walkFnBadnessScale (A0 : Option Addr) (n0 c0 : Nat) (l0 : List Int) (w : World) (w0a : n0 ≤ c0) (w0b : c0 ≤ maxLen) (w0c : List.length l0 = n0) (w0d : Rd w 1 A0 n0 (cellsB l0)) (w0e : ∀ z ∈ l0, 0 ≤ z ∧ z ≤ 255) :
    Calls Try.prog 18 #[.slice A0 n0 c0] w fun e w' => e = .returned (.bool true) ∧ Below w.heap.size w w' := by
  by_cases hbig : 1048576 < n0
  · have hd : decide (1048576 < (n0 : Int)) = true := by simp; omega
    clear w0a w0b w0c w0d w0e hbig
    go_enter Try.func18, Try.ntmps18
    go_wp2
    go_ret
    exact ⟨rfl, Below.refl _ _⟩
  · have hd : decide (1048576 < (n0 : Int)) = false := by simp; omega
    have hdraw := hide (drawBad_any w A0 n0 c0 l0 w0c w0a (by omega) w0d w0e)
    clear w0a w0b w0c w0d w0e hbig
    go_enter Try.func18, Try.ntmps18
    go_wp2_with (fail)
    go_at_call 46
    refine hdraw.out.mono ?_
    rintro e w1 ⟨a, b, rfl, a0, a1, b0, b1, hb1⟩
    clear hdraw
    go_wp2_with (fail)
    go_at_call 41
    refine (implBad_any a b w1).mono ?_
    rintro e w2 ⟨rfl, rfl⟩
    go_wp2_with (fail)
    go_at_call 40
    refine (specBad_any a b w1).mono ?_
    rintro e w2 ⟨rfl, rfl⟩
    have hs : BadOf a b < 0 ∨ 50000 < a ∨ 50000 < b ∨ (0 ≤ BadOf a b ∧ a ≤ 50000 ∧ b ≤ 50000 ∧ BadOf (2 * a) (2 * b) = BadOf a b) := by
      by_cases h1 : BadOf a b < 0
      · exact .inl h1
      · by_cases h2 : 50000 < a
        · exact .inr (.inl h2)
        · by_cases h3 : 50000 < b
          · exact .inr (.inr (.inl h3))
          · refine .inr (.inr (.inr ⟨by omega, by omega, by omega, ?_⟩))
            unfold BadOf at h1 ⊢
            by_cases hin : (0 ≤ a ∧ a ≤ 100000) ∧ (0 ≤ b ∧ b ≤ 100000)
            · rw [if_pos hin, if_pos ⟨⟨by omega, by omega⟩, ⟨by omega, by omega⟩⟩, bad_double]
            · rw [if_neg hin] at h1; omega
    have hD := hide (implBad_any (2 * a) (2 * b) w1)
    generalize BadOf a b = n at hs ⊢
    generalize BadOf (2 * a) (2 * b) = X at hs hD ⊢
    have w4 : IntKind.i64.wrap (2 * a) = 2 * a := IntWalk.i64_in _ (by omega)
    have w5 : IntKind.i64.wrap (2 * b) = 2 * b := IntWalk.i64_in _ (by omega)
    rcases hs with h | h | h | ⟨h1, h2, h3, h4⟩
    · have d1 : decide (n < 0) = true := by simpa using h
      go_wp2
      go_ret
      exact ⟨rfl, hb1⟩
    · have d2 : decide (50000 < a) = true := by simpa using h
      go_wp2
      all_goals (go_ret; exact ⟨rfl, hb1⟩)
    · have d3 : decide (50000 < b) = true := by simpa using h
      go_wp2
      all_goals (go_ret; exact ⟨rfl, hb1⟩)
    · have d1 : decide (n < 0) = false := by simp; omega
      have d2 : decide (50000 < a) = false := by simp; omega
      have d3 : decide (50000 < b) = false := by simp; omega
      go_wp2_with (fail)
      go_at_call 41
      refine hD.out.mono ?_
      rintro e w3 ⟨rfl, rfl⟩
      subst h4
      go_wp2
      go_ret
      refine ⟨?_, hb1⟩
      first | rfl | simp
end Go.Proofs.Ytoiacijjbehioaa
