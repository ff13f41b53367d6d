/- The walk through the sum of two glues. Condition: the numbers are small and the orders 0 or 1. -/
import Derived.Test.YtoiacijjbehioaaOpen
namespace Go.Proofs.Ytoiacijjbehioaa
open Go.RowKit
set_option linter.unusedVariables false
set_option linter.unusedSimpArgs false

def smallG (g : G) : Prop := (0 ≤ g.w ∧ g.w ≤ 1000000000) ∧ (0 ≤ g.st ∧ g.st ≤ 1000000000) ∧ (0 ≤ g.sh ∧ g.sh ≤ 1000000000) ∧ (g.o = 0 ∨ g.o = 1)
def SumG (a b : G) (w : World) (e : Ending) (w' : World) : Prop := e = .returned (.agg #[.int .i64 (addG a b).w, .int .i64 (addG a b).st, .int .i64 (addG a b).sh, .int .i64 (addG a b).o]) ∧ Below w.heap.size w w'
theorem ret_agg4 {a b c d a' b' c' d' : Int} (h1 : a = a') (h2 : b = b') (h3 : c = c') (h4 : d = d') : Ending.returned (.agg #[.int .i64 a, .int .i64 b, .int .i64 c, .int .i64 d]) = .returned (.agg #[.int .i64 a', .int .i64 b', .int .i64 c', .int .i64 d']) := by rw [h1, h2, h3, h4]

set_option maxHeartbeats 1600000 in
theorem l1Add_any (a b : G) (w : World) (ha : smallG a) (hb : smallG b) :
    Calls Try.prog 54 #[.agg #[.int .i64 a.w, .int .i64 a.st, .int .i64 a.sh, .int .i64 a.o], .agg #[.int .i64 b.w, .int .i64 b.st, .int .i64 b.sh, .int .i64 b.o]] w (SumG a b w) := by
  obtain ⟨aw, ast, ash, ao⟩ := a
  obtain ⟨bw, bst, bsh, bo⟩ := b
  obtain ⟨⟨a1, a2⟩, ⟨a3, a4⟩, ⟨a5, a6⟩, a7⟩ := ha
  obtain ⟨⟨b1, b2⟩, ⟨b3, b4⟩, ⟨b5, b6⟩, b7⟩ := hb
  dsimp only at *
  rcases a7 with rfl | rfl <;> rcases b7 with rfl | rfl
  all_goals
    by_cases ea : ast = 0 <;> by_cases eb : bst = 0
    all_goals
      go_enter Try.func54, Try.ntmps54
      go_wp2
      refine bodyPost_ret (by simp [results, Try.results54, go_sem]; rfl) rfl ⟨?_, ?_⟩
      · refine ret_agg4 ?_ ?_ ?_ ?_ <;> simp [addG, ea, eb] <;> omega
      · (repeat (first | exact Below.refl _ _ | assumption | refine Below.alloc ?_ (by first | assumption | omega | (simp; done) | (simp; omega)) _ | refine Below.setCell ?_ (by first | assumption | omega | (simp; done) | (simp; omega)) _ | refine below_drewN ?_ _ | refine Below.drew ?_))
end Go.Proofs.Ytoiacijjbehioaa
