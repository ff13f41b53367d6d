/- The two range tests of the program and of the reference: both compute 'lo at most n and n at most hi'. No condition. -/
import Derived.Test.YtocaonlmlafjmaaBase
import Derived.Test.YtocaonlmlafjmaaShape
namespace Go.Proofs.Ytocaonlmlafjmaa
open Go.RowKit
set_option linter.unusedVariables false
set_option linter.unusedSimpArgs false

theorem in_any (n lo hi : Int) (w : World) :
    Calls Try.prog 82 #[.int .i64 n, .int .i64 lo, .int .i64 hi] w fun e w' => e = .returned (.bool (inB n lo hi)) ∧ w = w' := by
  by_cases h : lo ≤ n
  · go_enter Try.func82, Try.ntmps82
    go_wp2
    go_ret
    exact ⟨by simp [inB, h], rfl⟩
  · have hd : decide (lo ≤ n) = false := by simpa using h
    have e : inB n lo hi = false := inB_no (by omega)
    rw [e]; clear e
    go_enter Try.func82, Try.ntmps82
    go_wp2
    go_ret
    exact ⟨rfl, rfl⟩
theorem l1In_any (n lo hi : Int) (w : World) :
    Calls Try.prog 70 #[.int .i64 n, .int .i64 lo, .int .i64 hi] w fun e w' => e = .returned (.bool (inB n lo hi)) ∧ w = w' := by
  by_cases h : lo ≤ n
  · go_enter Try.func70, Try.ntmps70
    go_wp2
    go_ret
    exact ⟨by simp [inB, h], rfl⟩
  · have hd : decide (lo ≤ n) = false := by simpa using h
    have e : inB n lo hi = false := inB_no (by omega)
    rw [e]; clear e
    go_enter Try.func70, Try.ntmps70
    go_wp2
    go_ret
    exact ⟨rfl, rfl⟩
end Go.Proofs.Ytocaonlmlafjmaa
