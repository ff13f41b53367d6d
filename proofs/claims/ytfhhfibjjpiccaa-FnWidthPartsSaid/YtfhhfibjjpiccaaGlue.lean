/- The walks through the validity of one glue. No condition. -/
import Derived.Test.YtfhhfibjjpiccaaIn
import Derived.Test.YtfhhfibjjpiccaaOpen
namespace Go.Proofs.Ytfhhfibjjpiccaa
open Go.RowKit
set_option linter.unusedVariables false
set_option linter.unusedSimpArgs false

theorem implGlueValid (g : G) (w : World) :
    Calls Try.prog 52 #[.agg #[.int .i64 g.w, .int .i64 g.st, .int .i64 g.sh, .int .i64 g.o]] w fun e w' => e = .returned (.bool (glueOk g)) ∧ Below w.heap.size w w' := by
  obtain ⟨a, b, c, d⟩ := g
  dsimp only
  go_enter Try.func52, Try.ntmps52
  cases h1 : inB a 0 1000 with
  | false =>
    go_wp2_with (go_at_call 55; refine (in_any _ _ _ _).mono ?_; rintro e w' ⟨rfl, rfl⟩)
    go_ret
    exact ⟨ret_bool (by simp [glueOk, h1]), (Below.refl _ _).alloc (Nat.le_refl _) _⟩
  | true =>
    cases h2 : inB b 0 1000 with
    | false =>
      go_wp2_with (go_at_call 55; refine (in_any _ _ _ _).mono ?_; rintro e w' ⟨rfl, rfl⟩)
      go_ret
      exact ⟨ret_bool (by simp [glueOk, h1, h2]), (Below.refl _ _).alloc (Nat.le_refl _) _⟩
    | true =>
      cases h3 : inB c 0 a with
      | false =>
        go_wp2_with (go_at_call 55; refine (in_any _ _ _ _).mono ?_; rintro e w' ⟨rfl, rfl⟩)
        go_ret
        exact ⟨ret_bool (by simp [glueOk, h1, h2, h3]), (Below.refl _ _).alloc (Nat.le_refl _) _⟩
      | true =>
        go_wp2_with (go_at_call 55; refine (in_any _ _ _ _).mono ?_; rintro e w' ⟨rfl, rfl⟩)
        go_ret
        exact ⟨ret_bool (by simp [glueOk, h1, h2, h3]), (Below.refl _ _).alloc (Nat.le_refl _) _⟩

theorem specGlueValid (g : G) (w : World) :
    Calls Try.prog 79 #[.agg #[.int .i64 g.w, .int .i64 g.st, .int .i64 g.sh, .int .i64 g.o]] w fun e w' => e = .returned (.bool (glueOk g)) ∧ Below w.heap.size w w' := by
  obtain ⟨a, b, c, d⟩ := g
  dsimp only
  go_enter Try.func79, Try.ntmps79
  cases h1 : inB a 0 1000 with
  | false =>
    go_wp2_with (go_at_call 56; refine (l1In_any _ _ _ _).mono ?_; rintro e w' ⟨rfl, rfl⟩)
    go_ret
    exact ⟨ret_bool (by simp [glueOk, h1]), (Below.refl _ _).alloc (Nat.le_refl _) _⟩
  | true =>
    cases h2 : inB b 0 1000 with
    | false =>
      go_wp2_with (go_at_call 56; refine (l1In_any _ _ _ _).mono ?_; rintro e w' ⟨rfl, rfl⟩)
      go_ret
      exact ⟨ret_bool (by simp [glueOk, h1, h2]), (Below.refl _ _).alloc (Nat.le_refl _) _⟩
    | true =>
      cases h3 : inB c 0 a with
      | false =>
        go_wp2_with (go_at_call 56; refine (l1In_any _ _ _ _).mono ?_; rintro e w' ⟨rfl, rfl⟩)
        go_ret
        exact ⟨ret_bool (by simp [glueOk, h1, h2, h3]), (Below.refl _ _).alloc (Nat.le_refl _) _⟩
      | true =>
        go_wp2_with (go_at_call 56; refine (l1In_any _ _ _ _).mono ?_; rintro e w' ⟨rfl, rfl⟩)
        go_ret
        exact ⟨ret_bool (by simp [glueOk, h1, h2, h3]), (Below.refl _ _).alloc (Nat.le_refl _) _⟩

theorem alive_any (w : World) :
    Calls Try.prog 15 #[] w fun e w' => e = .returned (.bool true) ∧ Below w.heap.size w w' := by
  have h4 := implGlueValid ⟨4, 0, 0, 0⟩
  have e4 : glueOk ⟨4, 0, 0, 0⟩ = true := by decide
  go_enter Try.func15, Try.ntmps15
  go_wp2_with (go_at_call 52; refine (h4 _).mono ?_; rintro e w' ⟨rfl, hb⟩)
  go_ret
  exact ⟨ret_bool e4, by assumption⟩
theorem toGlue_any (g : G) (w : World) :
    Calls Try.prog 70 #[.agg #[.int .i64 g.w, .int .i64 g.st, .int .i64 g.sh, .int .i64 g.o]] w fun e w' => e = .returned (.agg #[.int .i64 g.w, .int .i64 g.st, .int .i64 g.sh, .int .i64 g.o]) ∧ Below w.heap.size w w' := by
  go_enter Try.func70, Try.ntmps70
  go_wp2
  refine bodyPost_ret (v := .agg #[.int .i64 g.w, .int .i64 g.st, .int .i64 g.sh, .int .i64 g.o]) (by simp [results, Try.results70, go_sem]) rfl ⟨rfl, ?_⟩
  (repeat (first | exact Below.refl _ _ | assumption | refine Below.alloc ?_ (by first | assumption | omega | (simp; done) | (simp; omega)) _ | refine Below.setCell ?_ (by first | assumption | omega | (simp; done) | (simp; omega)) _ | refine below_drewN ?_ _ | refine Below.drew ?_))
end Go.Proofs.Ytfhhfibjjpiccaa
