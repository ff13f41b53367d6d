/- The two range tests of the program and of the reference: both compute 'lo at most n and n at most hi'. No condition. -/
import Derived.Test.YtfhhfibjjpiccaaBase
import Derived.Test.YtfhhfibjjpiccaaShape
namespace Go.Proofs.Ytfhhfibjjpiccaa
open Go.RowKit
set_option linter.unusedVariables false
set_option linter.unusedSimpArgs false

theorem in_any (n lo hi : Int) (w : World) :
    Calls Try.prog 55 #[.int .i64 n, .int .i64 lo, .int .i64 hi] w fun e w' => e = .returned (.bool (inB n lo hi)) ∧ w = w' := by
  by_cases h : lo ≤ n
  · go_enter Try.func55, Try.ntmps55
    go_wp2
    go_ret
    exact ⟨by simp [inB, h], rfl⟩
  · have hd : decide (lo ≤ n) = false := by simpa using h
    have e : inB n lo hi = false := inB_no (by omega)
    rw [e]; clear e
    go_enter Try.func55, Try.ntmps55
    go_wp2
    go_ret
    exact ⟨rfl, rfl⟩
theorem l1In_any (n lo hi : Int) (w : World) :
    Calls Try.prog 56 #[.int .i64 n, .int .i64 lo, .int .i64 hi] w fun e w' => e = .returned (.bool (inB n lo hi)) ∧ w = w' := by
  by_cases h : lo ≤ n
  · go_enter Try.func56, Try.ntmps56
    go_wp2
    go_ret
    exact ⟨by simp [inB, h], rfl⟩
  · have hd : decide (lo ≤ n) = false := by simpa using h
    have e : inB n lo hi = false := inB_no (by omega)
    rw [e]; clear e
    go_enter Try.func56, Try.ntmps56
    go_wp2
    go_ret
    exact ⟨rfl, rfl⟩
end Go.Proofs.Ytfhhfibjjpiccaa
