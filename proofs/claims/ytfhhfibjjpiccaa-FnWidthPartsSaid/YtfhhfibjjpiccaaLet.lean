/- The walks through the tests of one and of two letters. No condition. -/
import Derived.Test.YtfhhfibjjpiccaaIn
import Derived.Test.YtfhhfibjjpiccaaStr
namespace Go.Proofs.Ytfhhfibjjpiccaa
open Go.RowKit
set_option linter.unusedVariables false
set_option linter.unusedSimpArgs false

theorem isSmall_any (c : Int) (w : World) :
    Calls Try.prog 53 #[.int .u8 c] w fun e w' => e = .returned (.bool (isSm c)) ∧ w = w' := by
  by_cases h : 97 ≤ c
  · go_enter Try.func53, Try.ntmps53
    go_wp2
    go_ret
    exact ⟨by simp [isSm, h], rfl⟩
  · have hd : decide (97 ≤ c) = false := by simpa using h
    have e : isSm c = false := by simp [isSm]; omega
    rw [e]; clear e
    go_enter Try.func53, Try.ntmps53
    go_wp2
    go_ret
    exact ⟨rfl, rfl⟩
theorem isDigit_any (c : Int) (w : World) :
    Calls Try.prog 87 #[.int .u8 c] w fun e w' => e = .returned (.bool (isDg c)) ∧ w = w' := by
  by_cases h : 48 ≤ c
  · go_enter Try.func87, Try.ntmps87
    go_wp2
    go_ret
    exact ⟨by simp [isDg, h], rfl⟩
  · have hd : decide (48 ≤ c) = false := by simpa using h
    have e : isDg c = false := by simp [isDg]; omega
    rw [e]; clear e
    go_enter Try.func87, Try.ntmps87
    go_wp2
    go_ret
    exact ⟨rfl, rfl⟩
end Go.Proofs.Ytfhhfibjjpiccaa
