/- What the draws of two numbers give: numbers in range. Condition: the code's bytes can be read. -/
import Derived.Test.YtoiacijjbehioaaDraw
namespace Go.Proofs.Ytoiacijjbehioaa
open Go.RowKit
set_option linter.unusedVariables false
set_option linter.unusedSimpArgs false
def TwoP (lo hi lo' hi' : Int) (w : World) (e : Ending) (w' : World) : Prop := ∃ a b : Int, e = .returned (.tuple #[.int .i64 a, .int .i64 b]) ∧ lo ≤ a ∧ a ≤ hi ∧ lo' ≤ b ∧ b ≤ hi' ∧ Below w.heap.size w w'
set_option maxRecDepth 100000 in
set_option maxHeartbeats 1000000 in
theorem drawBad_any (w : World) (A : Option Addr) (n c : Nat) (l : List Int) (hl : List.length l = n) (hc : n ≤ c) (hn63 : n < 4611686018427387904) (h : Rd w 1 A n (cellsB l)) (h5 : ∀ z ∈ l, 0 ≤ z ∧ z ≤ 255) :
    Calls Try.prog 46 #[.slice A n c] w (TwoP (-1) 100001 (-1) 100001 w) := by
  go_enter Try.func46, Try.ntmps46
  go_wp2_with (fail)
  go_at_call 52
  refine (l20Open_any w A n c l hl hc hn63 h h5).mono ?_
  rintro e w1 ⟨rfl, hr, hb⟩
  go_wp2_with (fail)
  refine wp_draw [TPtr w.heap.size, TInt 0 (60 - 1), TPtr w.heap.size, TInt 0 (256 - 1), TInt 0 99450, TRow w.heap.size 6 (-1) 100001, TRow w.heap.size 9 0 5, TPtr w.heap.size, TInt 0 (9 - 1), TAt w.heap.size 0 5, TInt 0 5, TAt w.heap.size (-1) 100001, TInt (-1) 100001,
    TPtr w.heap.size, TInt 0 (40 - 1), TPtr w.heap.size, TInt 0 (256 - 1), TInt 0 99450, TRow w.heap.size 6 (-1) 100001, TRow w.heap.size 9 0 5, TPtr w.heap.size, TInt 0 (9 - 1), TAt w.heap.size 0 5, TInt 0 5, TAt w.heap.size (-1) 100001, TInt (-1) 100001, TInt (-1) 100001, TInt (-1) 100001]
    w.heap.size 0 w.heap.size w1 (by kernel_rfl) (by kernel_rfl) hr hb.size ?_ (fun hN1 => ?_) ?_
  · (repeat (first | exact trivial | refine ⟨keeps_int, ?_⟩ | refine ⟨keeps_ptr, ?_⟩ | refine ⟨keeps_row, ?_⟩ | refine ⟨keeps_at, ?_⟩ | refine ⟨keeps_bool, ?_⟩))
  · (repeat (first | exact trivial | refine ⟨step_move _ rfl rfl (by kernel_rfl) rfl, ?_⟩ | refine ⟨step_assign _ rfl (by kernel_rfl) rfl, ?_⟩ | refine ⟨step_pick _ _ _ rfl (by kernel_rfl) rfl rfl (by omega) (by omega) (by omega) (by simp), ?_⟩ | refine ⟨step_eqC _ _ _ _ rfl (by kernel_rfl) rfl rfl, ?_⟩ | refine ⟨step_moveI _ _ _ _ rfl rfl (by kernel_rfl) rfl (by omega), ?_⟩ | refine ⟨step_load _ _ _ rfl (by kernel_rfl) rfl rfl, ?_⟩ | refine ⟨step_index _ _ _ _ _ _ rfl (by kernel_rfl) rfl (by kernel_rfl) rfl (by omega) rfl, ?_⟩ | refine ⟨step_mulC _ _ _ _ _ _ rfl (by kernel_rfl) rfl rfl (by intro x h1 h2; omega) (by omega), ?_⟩ | refine ⟨step_list _ _ _ _ rfl rfl rfl rfl (by omega) (by omega) (by simp only [List.map_cons, List.map_nil, List.toList_toArray]; repeat (first | exact trivial | refine ⟨.inl ⟨_, rfl, by omega, by omega⟩, ?_⟩ | refine ⟨.inr ⟨_, _, _, rfl, by kernel_rfl, rfl, by omega, by omega⟩, ?_⟩)), ?_⟩))
  · intro vs w2 q hq hr2 hb2 hT
    obtain ⟨x, hx, x0, x1⟩ := hT 26 _ rfl
    obtain ⟨y, hy, y0, y1⟩ := hT 27 _ rfl
    clear hT hq
    simp only [endTmps, Nat.reduceAdd, List.setIfInBounds_toArray, List.set_cons_succ, List.set_cons_zero]
    rw [hx, hy]
    go_wp2
    go_ret2
    exact ⟨x, y, rfl, x0, x1, y0, y1, hb.trans hb2⟩
end Go.Proofs.Ytoiacijjbehioaa
