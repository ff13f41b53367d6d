/- The walks through how near two letters stand. Condition: the letters are bytes. -/
import Derived.Test.YtfhhfibjjpiccaaLet2
namespace Go.Proofs.Ytfhhfibjjpiccaa
open Go.RowKit
set_option linter.unusedVariables false
set_option linter.unusedSimpArgs false

theorem specNear (a b : Int) (w : World) :
    Calls Try.prog 18 #[.int .u8 a, .int .u8 b] w fun e w' => e = .returned (.int .i64 (nearI a b)) ∧ w = w' := by
  by_cases ha118 : a = 118
  · subst ha118
    by_cases hb97 : b = 97
    · subst hb97
      have e : nearI 118 97 = 1 := by decide
      rw [e]; clear e
      go_enter Try.func18, Try.ntmps18
      go_wp2
      go_ret
      all_goals exact ⟨rfl, rfl⟩
    · have db97 : (b == 97) = false := by simpa using hb97
      by_cases hb101 : b = 101
      · subst hb101
        have e : nearI 118 101 = 1 := by decide
        rw [e]; clear e
        clear hb97
        go_enter Try.func18, Try.ntmps18
        go_wp2
        go_ret
        all_goals exact ⟨rfl, rfl⟩
      · have db101 : (b == 101) = false := by simpa using hb101
        by_cases hb111 : b = 111
        · subst hb111
          have e : nearI 118 111 = 1 := by decide
          rw [e]; clear e
          clear hb97 hb101
          go_enter Try.func18, Try.ntmps18
          go_wp2
          go_ret
          all_goals exact ⟨rfl, rfl⟩
        · have db111 : (b == 111) = false := by simpa using hb111
          by_cases hb110 : b = 110
          · subst hb110
            have e : nearI 118 110 = 0 := by decide
            rw [e]; clear e
            clear hb97 hb101 hb111
            go_enter Try.func18, Try.ntmps18
            go_wp2
            go_ret
            all_goals exact ⟨rfl, rfl⟩
          · have db110 : (b == 110) = false := by simpa using hb110
            by_cases hb109 : b = 109
            · subst hb109
              have e : nearI 118 109 = 0 := by decide
              rw [e]; clear e
              clear hb97 hb101 hb111 hb110
              go_enter Try.func18, Try.ntmps18
              go_wp2
              go_ret
              all_goals exact ⟨rfl, rfl⟩
            · have db109 : (b == 109) = false := by simpa using hb109
              have e : nearI 118 b = 0 := by simp [nearI, nearB, amB, Ne.symm hb97, Ne.symm hb101, Ne.symm hb111, Ne.symm hb110, Ne.symm hb109, hb97, hb101, hb111, hb110, hb109]
              rw [e]; clear e
              clear hb97 hb101 hb111 hb110 hb109
              go_enter Try.func18, Try.ntmps18
              go_wp2
              go_ret
              all_goals exact ⟨rfl, rfl⟩
  · have da118 : (a == 118) = false := by simpa using ha118
    by_cases ha119 : a = 119
    · subst ha119
      by_cases hb97 : b = 97
      · subst hb97
        have e : nearI 119 97 = 1 := by decide
        rw [e]; clear e
        clear ha118
        go_enter Try.func18, Try.ntmps18
        go_wp2
        go_ret
        all_goals exact ⟨rfl, rfl⟩
      · have db97 : (b == 97) = false := by simpa using hb97
        by_cases hb101 : b = 101
        · subst hb101
          have e : nearI 119 101 = 1 := by decide
          rw [e]; clear e
          clear ha118 hb97
          go_enter Try.func18, Try.ntmps18
          go_wp2
          go_ret
          all_goals exact ⟨rfl, rfl⟩
        · have db101 : (b == 101) = false := by simpa using hb101
          by_cases hb111 : b = 111
          · subst hb111
            have e : nearI 119 111 = 1 := by decide
            rw [e]; clear e
            clear ha118 hb97 hb101
            go_enter Try.func18, Try.ntmps18
            go_wp2
            go_ret
            all_goals exact ⟨rfl, rfl⟩
          · have db111 : (b == 111) = false := by simpa using hb111
            by_cases hb110 : b = 110
            · subst hb110
              have e : nearI 119 110 = 0 := by decide
              rw [e]; clear e
              clear ha118 hb97 hb101 hb111
              go_enter Try.func18, Try.ntmps18
              go_wp2
              go_ret
              all_goals exact ⟨rfl, rfl⟩
            · have db110 : (b == 110) = false := by simpa using hb110
              by_cases hb109 : b = 109
              · subst hb109
                have e : nearI 119 109 = 0 := by decide
                rw [e]; clear e
                clear ha118 hb97 hb101 hb111 hb110
                go_enter Try.func18, Try.ntmps18
                go_wp2
                go_ret
                all_goals exact ⟨rfl, rfl⟩
              · have db109 : (b == 109) = false := by simpa using hb109
                have e : nearI 119 b = 0 := by simp [nearI, nearB, amB, Ne.symm hb97, Ne.symm hb101, Ne.symm hb111, Ne.symm hb110, Ne.symm hb109, hb97, hb101, hb111, hb110, hb109]
                rw [e]; clear e
                clear ha118 hb97 hb101 hb111 hb110 hb109
                go_enter Try.func18, Try.ntmps18
                go_wp2
                go_ret
                all_goals exact ⟨rfl, rfl⟩
    · have da119 : (a == 119) = false := by simpa using ha119
      by_cases ha121 : a = 121
      · subst ha121
        by_cases hb97 : b = 97
        · subst hb97
          have e : nearI 121 97 = 1 := by decide
          rw [e]; clear e
          clear ha118 ha119
          go_enter Try.func18, Try.ntmps18
          go_wp2
          go_ret
          all_goals exact ⟨rfl, rfl⟩
        · have db97 : (b == 97) = false := by simpa using hb97
          by_cases hb101 : b = 101
          · subst hb101
            have e : nearI 121 101 = 1 := by decide
            rw [e]; clear e
            clear ha118 ha119 hb97
            go_enter Try.func18, Try.ntmps18
            go_wp2
            go_ret
            all_goals exact ⟨rfl, rfl⟩
          · have db101 : (b == 101) = false := by simpa using hb101
            by_cases hb111 : b = 111
            · subst hb111
              have e : nearI 121 111 = 1 := by decide
              rw [e]; clear e
              clear ha118 ha119 hb97 hb101
              go_enter Try.func18, Try.ntmps18
              go_wp2
              go_ret
              all_goals exact ⟨rfl, rfl⟩
            · have db111 : (b == 111) = false := by simpa using hb111
              by_cases hb110 : b = 110
              · subst hb110
                have e : nearI 121 110 = 0 := by decide
                rw [e]; clear e
                clear ha118 ha119 hb97 hb101 hb111
                go_enter Try.func18, Try.ntmps18
                go_wp2
                go_ret
                all_goals exact ⟨rfl, rfl⟩
              · have db110 : (b == 110) = false := by simpa using hb110
                by_cases hb109 : b = 109
                · subst hb109
                  have e : nearI 121 109 = 0 := by decide
                  rw [e]; clear e
                  clear ha118 ha119 hb97 hb101 hb111 hb110
                  go_enter Try.func18, Try.ntmps18
                  go_wp2
                  go_ret
                  all_goals exact ⟨rfl, rfl⟩
                · have db109 : (b == 109) = false := by simpa using hb109
                  have e : nearI 121 b = 0 := by simp [nearI, nearB, amB, Ne.symm hb97, Ne.symm hb101, Ne.symm hb111, Ne.symm hb110, Ne.symm hb109, hb97, hb101, hb111, hb110, hb109]
                  rw [e]; clear e
                  clear ha118 ha119 hb97 hb101 hb111 hb110 hb109
                  go_enter Try.func18, Try.ntmps18
                  go_wp2
                  go_ret
                  all_goals exact ⟨rfl, rfl⟩
      · have da121 : (a == 121) = false := by simpa using ha121
        by_cases ha114 : a = 114
        · subst ha114
          by_cases hb97 : b = 97
          · subst hb97
            have e : nearI 114 97 = 0 := by decide
            rw [e]; clear e
            clear ha118 ha119 ha121
            go_enter Try.func18, Try.ntmps18
            go_wp2
            go_ret
            all_goals exact ⟨rfl, rfl⟩
          · have db97 : (b == 97) = false := by simpa using hb97
            by_cases hb101 : b = 101
            · subst hb101
              have e : nearI 114 101 = 0 := by decide
              rw [e]; clear e
              clear ha118 ha119 ha121 hb97
              go_enter Try.func18, Try.ntmps18
              go_wp2
              go_ret
              all_goals exact ⟨rfl, rfl⟩
            · have db101 : (b == 101) = false := by simpa using hb101
              by_cases hb111 : b = 111
              · subst hb111
                have e : nearI 114 111 = 0 := by decide
                rw [e]; clear e
                clear ha118 ha119 ha121 hb97 hb101
                go_enter Try.func18, Try.ntmps18
                go_wp2
                go_ret
                all_goals exact ⟨rfl, rfl⟩
              · have db111 : (b == 111) = false := by simpa using hb111
                by_cases hb110 : b = 110
                · subst hb110
                  have e : nearI 114 110 = 1 := by decide
                  rw [e]; clear e
                  clear ha118 ha119 ha121 hb97 hb101 hb111
                  go_enter Try.func18, Try.ntmps18
                  go_wp2
                  go_ret
                  all_goals exact ⟨rfl, rfl⟩
                · have db110 : (b == 110) = false := by simpa using hb110
                  by_cases hb109 : b = 109
                  · subst hb109
                    have e : nearI 114 109 = 1 := by decide
                    rw [e]; clear e
                    clear ha118 ha119 ha121 hb97 hb101 hb111 hb110
                    go_enter Try.func18, Try.ntmps18
                    go_wp2
                    go_ret
                    all_goals exact ⟨rfl, rfl⟩
                  · have db109 : (b == 109) = false := by simpa using hb109
                    have e : nearI 114 b = 0 := by simp [nearI, nearB, amB, Ne.symm hb97, Ne.symm hb101, Ne.symm hb111, Ne.symm hb110, Ne.symm hb109, hb97, hb101, hb111, hb110, hb109]
                    rw [e]; clear e
                    clear ha118 ha119 ha121 hb97 hb101 hb111 hb110 hb109
                    go_enter Try.func18, Try.ntmps18
                    go_wp2
                    go_ret
                    all_goals exact ⟨rfl, rfl⟩
        · have da114 : (a == 114) = false := by simpa using ha114
          have e : nearI a b = 0 := by simp [nearI, nearB, amB, Ne.symm ha118, Ne.symm ha119, Ne.symm ha121, Ne.symm ha114, ha118, ha119, ha121, ha114]
          rw [e]; clear e
          clear ha118 ha119 ha121 ha114
          go_enter Try.func18, Try.ntmps18
          go_wp2
          all_goals go_ret
          all_goals exact ⟨rfl, rfl⟩
theorem implNear (a b : Int) (w : World) (ha : 0 ≤ a ∧ a ≤ 255) (hb : 0 ≤ b ∧ b ≤ 255) :
    Calls Try.prog 17 #[.int .u8 a, .int .u8 b] w fun e w' => e = .returned (.int .i64 (nearI a b)) ∧ w = w' := by
  have e1 : bl ⟨#[118, 119, 121]⟩ = [118, 119, 121] := by decide
  have e2 : bl ⟨#[97, 101, 111]⟩ = [97, 101, 111] := by decide
  have e3 : bl ⟨#[110, 109]⟩ = [110, 109] := by decide
  have hn : nearI a b = (if ((amB (bl ⟨#[118, 119, 121]⟩) a && amB (bl ⟨#[97, 101, 111]⟩) b) || (a == 114 && amB (bl ⟨#[110, 109]⟩) b)) = true then 1 else 0) := by rw [e1, e2, e3]; rfl
  replace hn := hide hn
  clear e1 e2 e3
  go_enter Try.func17, Try.ntmps17
  have go1 : (a == 114) = true ∨ (a == 114) = false := by cases (a == 114) <;> simp
  cases h1 : amB (bl ⟨#[118, 119, 121]⟩) a <;> cases h2 : amB (bl ⟨#[97, 101, 111]⟩) b <;> cases h3 : amB (bl ⟨#[110, 109]⟩) b <;> rcases go1 with h4 | h4
  all_goals
    go_wp2_with (go_at_call 51; refine (among_any _ _ _ (by assumption)).mono ?_; rintro e w' ⟨rfl, rfl⟩)
    go_ret
    exact ⟨ret_int (by rw [hn.out]; simp [h1, h2, h3, h4]), rfl⟩
end Go.Proofs.Ytfhhfibjjpiccaa
