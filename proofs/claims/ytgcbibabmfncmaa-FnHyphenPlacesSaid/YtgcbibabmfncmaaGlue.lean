/- The walks through the validity of one glue. No condition. -/
import Derived.Test.YtgcbibabmfncmaaIn
import Derived.Test.YtgcbibabmfncmaaOpen
namespace Go.Proofs.Ytgcbibabmfncmaa
open Go.RowKit
set_option linter.unusedVariables false
set_option linter.unusedSimpArgs false

theorem implGlueValid (g : G) (w : World) :
    Calls Try.prog 91 #[.agg #[.int .i64 g.w, .int .i64 g.st, .int .i64 g.sh, .int .i64 g.o]] w fun e w' => e = .returned (.bool (glueOk g)) ∧ Below w.heap.size w w' := by
  obtain ⟨a, b, c, d⟩ := g
  dsimp only
  go_enter Try.func91, Try.ntmps91
  cases h1 : inB a 0 1000 with
  | false =>
    go_wp2_with (go_at_call 85; refine (in_any _ _ _ _).mono ?_; rintro e w' ⟨rfl, rfl⟩)
    go_ret
    exact ⟨ret_bool (by simp [glueOk, h1]), (Below.refl _ _).alloc (Nat.le_refl _) _⟩
  | true =>
    cases h2 : inB b 0 1000 with
    | false =>
      go_wp2_with (go_at_call 85; refine (in_any _ _ _ _).mono ?_; rintro e w' ⟨rfl, rfl⟩)
      go_ret
      exact ⟨ret_bool (by simp [glueOk, h1, h2]), (Below.refl _ _).alloc (Nat.le_refl _) _⟩
    | true =>
      cases h3 : inB c 0 a with
      | false =>
        go_wp2_with (go_at_call 85; refine (in_any _ _ _ _).mono ?_; rintro e w' ⟨rfl, rfl⟩)
        go_ret
        exact ⟨ret_bool (by simp [glueOk, h1, h2, h3]), (Below.refl _ _).alloc (Nat.le_refl _) _⟩
      | true =>
        go_wp2_with (go_at_call 85; refine (in_any _ _ _ _).mono ?_; rintro e w' ⟨rfl, rfl⟩)
        go_ret
        exact ⟨ret_bool (by simp [glueOk, h1, h2, h3]), (Below.refl _ _).alloc (Nat.le_refl _) _⟩

theorem alive_any (w : World) :
    Calls Try.prog 47 #[] w fun e w' => e = .returned (.bool true) ∧ Below w.heap.size w w' := by
  have h4 := implGlueValid ⟨4, 0, 0, 0⟩
  have e4 : glueOk ⟨4, 0, 0, 0⟩ = true := by decide
  go_enter Try.func47, Try.ntmps47
  go_wp2_with (go_at_call 91; refine (h4 _).mono ?_; rintro e w' ⟨rfl, hb⟩)
  go_ret
  exact ⟨ret_bool e4, by assumption⟩
end Go.Proofs.Ytgcbibabmfncmaa
