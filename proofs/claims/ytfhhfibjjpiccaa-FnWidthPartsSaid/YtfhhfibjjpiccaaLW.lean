/- The walks through the width of a letter. Condition: the letter is a byte. -/
import Derived.Test.YtfhhfibjjpiccaaLet2
namespace Go.Proofs.Ytfhhfibjjpiccaa
open Go.RowKit
set_option linter.unusedVariables false
set_option linter.unusedSimpArgs false

theorem specLW (c : Int) (w : World) :
    Calls Try.prog 21 #[.int .u8 c] w fun e w' => e = .returned (.int .i64 (lw c)) ∧ w = w' := by
  by_cases hc105 : c = 105
  · subst hc105
    have e : lw 105 = 3 := by decide
    rw [e]; clear e
    go_enter Try.func21, Try.ntmps21
    go_wp2
    go_ret
    exact ⟨rfl, rfl⟩
  · have dc105 : (c == 105) = false := by simpa using hc105
    by_cases hc106 : c = 106
    · subst hc106
      have e : lw 106 = 3 := by decide
      rw [e]; clear e
      clear hc105
      go_enter Try.func21, Try.ntmps21
      go_wp2
      go_ret
      exact ⟨rfl, rfl⟩
    · have dc106 : (c == 106) = false := by simpa using hc106
      by_cases hc108 : c = 108
      · subst hc108
        have e : lw 108 = 3 := by decide
        rw [e]; clear e
        clear hc105 hc106
        go_enter Try.func21, Try.ntmps21
        go_wp2
        go_ret
        exact ⟨rfl, rfl⟩
      · have dc108 : (c == 108) = false := by simpa using hc108
        by_cases hc102 : c = 102
        · subst hc102
          have e : lw 102 = 4 := by decide
          rw [e]; clear e
          clear hc105 hc106 hc108
          go_enter Try.func21, Try.ntmps21
          go_wp2
          go_ret
          exact ⟨rfl, rfl⟩
        · have dc102 : (c == 102) = false := by simpa using hc102
          by_cases hc114 : c = 114
          · subst hc114
            have e : lw 114 = 4 := by decide
            rw [e]; clear e
            clear hc105 hc106 hc108 hc102
            go_enter Try.func21, Try.ntmps21
            go_wp2
            go_ret
            exact ⟨rfl, rfl⟩
          · have dc114 : (c == 114) = false := by simpa using hc114
            by_cases hc116 : c = 116
            · subst hc116
              have e : lw 116 = 4 := by decide
              rw [e]; clear e
              clear hc105 hc106 hc108 hc102 hc114
              go_enter Try.func21, Try.ntmps21
              go_wp2
              go_ret
              exact ⟨rfl, rfl⟩
            · have dc116 : (c == 116) = false := by simpa using hc116
              by_cases hc109 : c = 109
              · subst hc109
                have e : lw 109 = 8 := by decide
                rw [e]; clear e
                clear hc105 hc106 hc108 hc102 hc114 hc116
                go_enter Try.func21, Try.ntmps21
                go_wp2
                go_ret
                exact ⟨rfl, rfl⟩
              · have dc109 : (c == 109) = false := by simpa using hc109
                by_cases hc119 : c = 119
                · subst hc119
                  have e : lw 119 = 8 := by decide
                  rw [e]; clear e
                  clear hc105 hc106 hc108 hc102 hc114 hc116 hc109
                  go_enter Try.func21, Try.ntmps21
                  go_wp2
                  go_ret
                  exact ⟨rfl, rfl⟩
                · have dc119 : (c == 119) = false := by simpa using hc119
                  by_cases h1 : c < 97
                  · have e : lw c = 0 := by unfold lw; rw [if_neg (by simp [isSm]; omega)]
                    rw [e]; clear e
                    clear hc105 hc106 hc108 hc102 hc114 hc116 hc109 hc119
                    go_enter Try.func21, Try.ntmps21
                    go_wp2
                    go_ret
                    exact ⟨rfl, rfl⟩
                  · have d1 : decide (c < 97) = false := by simpa using h1
                    by_cases h2 : 122 < c
                    · have e : lw c = 0 := by unfold lw; rw [if_neg (by simp [isSm]; omega)]
                      rw [e]; clear e
                      clear h1 hc105 hc106 hc108 hc102 hc114 hc116 hc109 hc119
                      go_enter Try.func21, Try.ntmps21
                      go_wp2
                      go_ret
                      exact ⟨rfl, rfl⟩
                    · have d2 : decide (122 < c) = false := by simpa using h2
                      have hs : isSm c = true := by simp [isSm]; omega
                      have e : lw c = 5 := by simp [lw, hs, amB, Ne.symm hc105, Ne.symm hc106, Ne.symm hc108, Ne.symm hc102, Ne.symm hc114, Ne.symm hc116, Ne.symm hc109, Ne.symm hc119]
                      rw [e]; clear e hs
                      clear h1 h2 hc105 hc106 hc108 hc102 hc114 hc116 hc109 hc119
                      go_enter Try.func21, Try.ntmps21
                      go_wp2
                      go_ret
                      exact ⟨rfl, rfl⟩
theorem implLW (c : Int) (w : World) (hc : 0 ≤ c ∧ c ≤ 255) :
    Calls Try.prog 20 #[.int .u8 c] w fun e w' => e = .returned (.int .i64 (lw c)) ∧ w = w' := by
  have e1 : bl ⟨#[105, 106, 108]⟩ = [105, 106, 108] := by decide
  have e2 : bl ⟨#[102, 114, 116]⟩ = [102, 114, 116] := by decide
  have e3 : bl ⟨#[109, 119]⟩ = [109, 119] := by decide
  have hn : lw c = (if isSm c = true then (if amB (bl ⟨#[105, 106, 108]⟩) c = true then 3 else if amB (bl ⟨#[102, 114, 116]⟩) c = true then 4 else if amB (bl ⟨#[109, 119]⟩) c = true then 8 else 5) else 0) := by rw [e1, e2, e3]; rfl
  rw [hn]; clear hn e1 e2 e3
  go_enter Try.func20, Try.ntmps20
  cases h0 : isSm c <;> cases h1 : amB (bl ⟨#[105, 106, 108]⟩) c <;> cases h2 : amB (bl ⟨#[102, 114, 116]⟩) c <;> cases h3 : amB (bl ⟨#[109, 119]⟩) c
  all_goals
    go_wp2_with (first | (go_at_call 51; refine (among_any _ _ _ (by assumption)).mono ?_; rintro e w' ⟨rfl, rfl⟩) | (go_at_call 53; refine (isSmall_any _ _).mono ?_; rintro e w' ⟨rfl, rfl⟩))
    go_ret
    exact ⟨by simp_all, rfl⟩
end Go.Proofs.Ytfhhfibjjpiccaa
