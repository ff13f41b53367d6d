/- The walks through the laws of letters. No condition. -/
import Derived.Test.YtgcbibabmfncmaaArgs
import Derived.Test.YtgcbibabmfncmaaDrLet
import Derived.Test.YtgcbibabmfncmaaNear
import Derived.Test.YtgcbibabmfncmaaLW
namespace Go.Proofs.Ytgcbibabmfncmaa
open Go.RowKit
set_option linter.unusedVariables false
set_option linter.unusedSimpArgs false

theorem join_e (b : Int) : joinB 101 b = false := by simp [joinB]
theorem join_fi : joinB 102 105 = true := by decide
theorem join_f {a b : Int} (h : joinB a b = true) : (a == 102) = true := by
  simp only [joinB, Bool.and_eq_true] at h
  exact h.1
theorem near_sp (a : Int) : nearI a 32 = 0 := by simp [nearI, nearB, amB]
theorem near_ps (b : Int) : nearI 32 b = 0 := by simp [nearI, nearB, amB]
theorem near_01 (a b : Int) : nearI a b = 0 ∨ nearI a b = 1 := by
  have := nearI_bd a b
  omega
set_option maxRecDepth 100000 in
theorem walkFnJoinsWith (A0 : Option Addr) (n0 c0 : Nat) (l0 : List Int) (w : World) (w0a : n0 ≤ c0) (w0b : c0 ≤ maxLen) (w0c : List.length l0 = n0) (w0d : Rd w 1 A0 n0 (cellsB l0)) (w0e : ∀ z ∈ l0, 0 ≤ z ∧ z ≤ 255) :
    Calls Try.prog 9 #[.slice A0 n0 c0] w fun e w' => e = .returned (.bool true) ∧ Below w.heap.size w w' := by
  by_cases hbig : 1048576 < n0
  · have hd : decide (1048576 < (n0 : Int)) = true := by simp; omega
    clear w0a w0b w0c w0d w0e hbig
    go_enter Try.func9, Try.ntmps9
    go_wp2
    go_ret
    exact ⟨rfl, Below.refl _ _⟩
  · have hd : decide (1048576 < (n0 : Int)) = false := by simp; omega
    have hdraw := hide (drawJoins w A0 n0 c0 l0 w0c w0a (by omega) w0d w0e)
    clear w0a w0b w0c w0d w0e hbig
    go_enter Try.func9, Try.ntmps9
    go_wp2_with (fail)
    refine hdraw.out.mono ?_
    rintro e w1 ⟨a, b, rfl, haa, hbb, hb1⟩
    have hb1' := hide hb1
    have hz1 := hb1.size
    clear hdraw hb1
    have f1 := join_e b
    have f2 := join_fi
    have f3 : (0 : Int) ≤ 105 ∧ (105 : Int) ≤ 255 := by omega
    cases hj : joinB a b with
    | false =>
      go_wp2_with (first | (go_at_call 32; refine (implJoins _ _ _ (by first | assumption | omega)).mono ?_; rintro e w' ⟨rfl, rfl⟩) | (go_at_call 31; refine (specJoins _ _ _).mono ?_; rintro e w' ⟨rfl, rfl⟩) | (go_at_call 47; refine (alive_any _).mono ?_; rintro e w6 ⟨rfl, hb6⟩))
      go_ret
      exact ⟨rfl, hb1'.out.trans (hb6.mono hz1)⟩
    | true =>
      have f4 := join_f hj
      go_wp2_with (first | (go_at_call 32; refine (implJoins _ _ _ (by first | assumption | omega)).mono ?_; rintro e w' ⟨rfl, rfl⟩) | (go_at_call 31; refine (specJoins _ _ _).mono ?_; rintro e w' ⟨rfl, rfl⟩) | (go_at_call 47; refine (alive_any _).mono ?_; rintro e w6 ⟨rfl, hb6⟩))
      go_ret
      exact ⟨rfl, hb1'.out.trans (hb6.mono hz1)⟩
set_option maxRecDepth 100000 in
theorem walkFnNearBy (A0 : Option Addr) (n0 c0 : Nat) (l0 : List Int) (w : World) (w0a : n0 ≤ c0) (w0b : c0 ≤ maxLen) (w0c : List.length l0 = n0) (w0d : Rd w 1 A0 n0 (cellsB l0)) (w0e : ∀ z ∈ l0, 0 ≤ z ∧ z ≤ 255) :
    Calls Try.prog 10 #[.slice A0 n0 c0] w fun e w' => e = .returned (.bool true) ∧ Below w.heap.size w w' := by
  by_cases hbig : 1048576 < n0
  · have hd : decide (1048576 < (n0 : Int)) = true := by simp; omega
    clear w0a w0b w0c w0d w0e hbig
    go_enter Try.func10, Try.ntmps10
    go_wp2
    go_ret
    exact ⟨rfl, Below.refl _ _⟩
  · have hd : decide (1048576 < (n0 : Int)) = false := by simp; omega
    have hdraw := hide (drawNear w A0 n0 c0 l0 w0c w0a (by omega) w0d w0e)
    clear w0a w0b w0c w0d w0e hbig
    go_enter Try.func10, Try.ntmps10
    go_wp2_with (fail)
    refine hdraw.out.mono ?_
    rintro e w1 ⟨a, b, rfl, haa, hbb, hb1⟩
    have hb1' := hide hb1
    have hz1 := hb1.size
    clear hdraw hb1
    have f1 := near_sp a
    have f2 := near_ps b
    have f3 : (0 : Int) ≤ 32 ∧ (32 : Int) ≤ 255 := by omega
    rcases near_01 a b with hj | hj
    all_goals
      go_wp2_with (first | (go_at_call 34; refine (implNear _ _ _ (by first | assumption | omega) (by first | assumption | omega)).mono ?_; rintro e w' ⟨rfl, rfl⟩) | (go_at_call 33; refine (specNear _ _ _).mono ?_; rintro e w' ⟨rfl, rfl⟩) | (go_at_call 47; refine (alive_any _).mono ?_; rintro e w6 ⟨rfl, hb6⟩))
      go_ret
      exact ⟨rfl, hb1'.out.trans (hb6.mono hz1)⟩
theorem lw_sm {c : Int} (h : isSm c = true) : 3 ≤ lw c ∧ lw c ≤ 8 := by
  unfold lw; rw [if_pos h]; repeat' split
  all_goals omega
theorem lw_no {c : Int} (h : isSm c = false) : lw c = 0 := by
  unfold lw; rw [if_neg (by rw [h]; exact Bool.false_ne_true)]
set_option maxRecDepth 100000 in
theorem walkFnLetterWidth (A0 : Option Addr) (n0 c0 : Nat) (l0 : List Int) (w : World) (w0a : n0 ≤ c0) (w0b : c0 ≤ maxLen) (w0c : List.length l0 = n0) (w0d : Rd w 1 A0 n0 (cellsB l0)) (w0e : ∀ z ∈ l0, 0 ≤ z ∧ z ≤ 255) :
    Calls Try.prog 12 #[.slice A0 n0 c0] w fun e w' => e = .returned (.bool true) ∧ Below w.heap.size w w' := by
  by_cases hbig : 1048576 < n0
  · have hd : decide (1048576 < (n0 : Int)) = true := by simp; omega
    clear w0a w0b w0c w0d w0e hbig
    go_enter Try.func12, Try.ntmps12
    go_wp2
    go_ret
    exact ⟨rfl, Below.refl _ _⟩
  · have hd : decide (1048576 < (n0 : Int)) = false := by simp; omega
    have hdraw := hide (drawLetter w A0 n0 c0 l0 w0c w0a (by omega) w0d w0e)
    clear w0a w0b w0c w0d w0e hbig
    go_enter Try.func12, Try.ntmps12
    go_wp2_with (fail)
    refine hdraw.out.mono ?_
    rintro e w1 ⟨b, rfl, hbb, hb1⟩
    have hb1' := hide hb1
    have hz1 := hb1.size
    clear hdraw hb1
    have hi := hide (fun W => implLW b W hbb)
    have hs := hide (fun W => specLW b W)
    by_cases h1 : b < 97
    · have e := lw_no (c := b) (by simp [isSm]; omega)
      rw [e] at hi hs
      have d1 : decide (97 ≤ b) = false := decide_eq_false (by omega)
      clear e h1
      go_wp2_with (first | (go_at_call 38; refine (hi.out _).mono ?_; rintro e w' ⟨rfl, rfl⟩) | (go_at_call 37; refine (hs.out _).mono ?_; rintro e w' ⟨rfl, rfl⟩) | (go_at_call 47; refine (alive_any _).mono ?_; rintro e w6 ⟨rfl, hb6⟩))
      go_ret
      exact ⟨rfl, hb1'.out.trans (hb6.mono hz1)⟩
    · by_cases h2 : 122 < b
      · have e := lw_no (c := b) (by simp [isSm]; omega)
        rw [e] at hi hs
        have d1 : 97 ≤ b := by omega
        have d2 : decide (b ≤ 122) = false := decide_eq_false (by omega)
        clear e h1 h2
        go_wp2_with (first | (go_at_call 38; refine (hi.out _).mono ?_; rintro e w' ⟨rfl, rfl⟩) | (go_at_call 37; refine (hs.out _).mono ?_; rintro e w' ⟨rfl, rfl⟩) | (go_at_call 47; refine (alive_any _).mono ?_; rintro e w6 ⟨rfl, hb6⟩))
        go_ret
        exact ⟨rfl, hb1'.out.trans (hb6.mono hz1)⟩
      · have d1 : 97 ≤ b := by omega
        have d2 : b ≤ 122 := by omega
        have e := lw_sm (c := b) (by simp [isSm]; omega)
        generalize lw b = x at *
        have x0 : (x == 0) = false := by simp; omega
        have x1 : 0 < x := by omega
        clear h1 h2
        go_wp2_with (first | (go_at_call 38; refine (hi.out _).mono ?_; rintro e w' ⟨rfl, rfl⟩) | (go_at_call 37; refine (hs.out _).mono ?_; rintro e w' ⟨rfl, rfl⟩) | (go_at_call 47; refine (alive_any _).mono ?_; rintro e w6 ⟨rfl, hb6⟩))
        go_ret
        exact ⟨rfl, hb1'.out.trans (hb6.mono hz1)⟩
end Go.Proofs.Ytgcbibabmfncmaa
