/- What the draws of a badness, and of a badness and a cost, give: numbers in range. Condition: the code's bytes can be read. -/
import Derived.Test.YtoiacijjbehioaaDrBad
namespace Go.Proofs.Ytoiacijjbehioaa
open Go.RowKit
set_option linter.unusedVariables false
set_option linter.unusedSimpArgs false
def LooksP (w : World) (e : Ending) (w' : World) : Prop := ∃ (a : Bool) (b : Int), e = .returned (.tuple #[.bool a, .int .i64 b]) ∧ -1 ≤ b ∧ b ≤ 10001 ∧ Below w.heap.size w w'
set_option maxRecDepth 100000 in
set_option maxHeartbeats 1000000 in
theorem drawLooks_any (w : World) (A : Option Addr) (n c : Nat) (l : List Int) (hl : List.length l = n) (hc : n ≤ c) (hn63 : n < 4611686018427387904) (h : Rd w 1 A n (cellsB l)) (h5 : ∀ z ∈ l, 0 ≤ z ∧ z ≤ 255) :
    Calls Try.prog 47 #[.slice A n c] w (LooksP w) := by
  go_enter Try.func47, Try.ntmps47
  go_wp2_with (fail)
  go_at_call 52
  refine (l20Open_any w A n c l hl hc hn63 h h5).mono ?_
  rintro e w1 ⟨rfl, hr, hb⟩
  go_wp2_with (fail)
  refine wp_draw [TPtr w.heap.size, TInt 0 (2 - 1), TBool, TPtr w.heap.size, TInt 0 (30 - 1), TPtr w.heap.size, TInt 0 (256 - 1), TRow w.heap.size 9 (-1) 10001, TRow w.heap.size 11 0 8, TPtr w.heap.size, TInt 0 (11 - 1), TAt w.heap.size 0 8, TInt 0 8, TAt w.heap.size (-1) 10001, TInt (-1) 10001, TBool, TInt (-1) 10001]
    w.heap.size 0 w.heap.size w1 (by kernel_rfl) (by kernel_rfl) hr hb.size ?_ (fun hN1 => ?_) ?_
  · (repeat (first | exact trivial | refine ⟨keeps_int, ?_⟩ | refine ⟨keeps_ptr, ?_⟩ | refine ⟨keeps_row, ?_⟩ | refine ⟨keeps_at, ?_⟩ | refine ⟨keeps_bool, ?_⟩))
  · (repeat (first | exact trivial | refine ⟨step_move _ rfl rfl (by kernel_rfl) rfl, ?_⟩ | refine ⟨step_assign _ rfl (by kernel_rfl) rfl, ?_⟩ | refine ⟨step_pick _ _ _ rfl (by kernel_rfl) rfl rfl (by omega) (by omega) (by omega) (by simp), ?_⟩ | refine ⟨step_eqC _ _ _ _ rfl (by kernel_rfl) rfl rfl, ?_⟩ | refine ⟨step_moveI _ _ _ _ rfl rfl (by kernel_rfl) rfl (by omega), ?_⟩ | refine ⟨step_load _ _ _ rfl (by kernel_rfl) rfl rfl, ?_⟩ | refine ⟨step_index _ _ _ _ _ _ rfl (by kernel_rfl) rfl (by kernel_rfl) rfl (by omega) rfl, ?_⟩ | refine ⟨step_mulC _ _ _ _ _ _ rfl (by kernel_rfl) rfl rfl (by intro x h1 h2; omega) (by omega), ?_⟩ | refine ⟨step_list _ _ _ _ rfl rfl rfl rfl (by omega) (by omega) (by simp only [List.map_cons, List.map_nil, List.toList_toArray]; repeat (first | exact trivial | refine ⟨.inl ⟨_, rfl, by omega, by omega⟩, ?_⟩ | refine ⟨.inr ⟨_, _, _, rfl, by kernel_rfl, rfl, by omega, by omega⟩, ?_⟩)), ?_⟩))
  · intro vs w2 q hq hr2 hb2 hT
    obtain ⟨x, hx⟩ := hT 15 _ rfl
    obtain ⟨y, hy, y0, y1⟩ := hT 16 _ rfl
    clear hT hq
    simp only [endTmps, Nat.reduceAdd, List.setIfInBounds_toArray, List.set_cons_succ, List.set_cons_zero]
    rw [hx, hy]
    go_wp2
    go_ret2
    exact ⟨x, y, rfl, y0, y1, hb.trans hb2⟩
set_option maxRecDepth 100000 in
set_option maxHeartbeats 1000000 in
theorem drawCost_any (w : World) (A : Option Addr) (n c : Nat) (l : List Int) (hl : List.length l = n) (hc : n ≤ c) (hn63 : n < 4611686018427387904) (h : Rd w 1 A n (cellsB l)) (h5 : ∀ z ∈ l, 0 ≤ z ∧ z ≤ 255) :
    Calls Try.prog 48 #[.slice A n c] w (TwoP (-1) 10001 (-10000) 10001 w) := by
  go_enter Try.func48, Try.ntmps48
  go_wp2_with (fail)
  go_at_call 52
  refine (l20Open_any w A n c l hl hc hn63 h h5).mono ?_
  rintro e w1 ⟨rfl, hr, hb⟩
  go_wp2_with (fail)
  go_at_call 47
  refine (drawLooks_any w1 A n c l hl hc hn63 (h.below hb) h5).mono ?_
  rintro e w2 ⟨a, b, rfl, b0, b1, hb2⟩
  have hr2 := hr.below hb2
  go_wp2_with (fail)
  have hN2 : w.heap.size ≤ w2.heap.size := Nat.le_trans hb.size hb2.size
  refine wp_draw [TInt (-1) 10001, TPtr w.heap.size, TInt 0 (256 - 1), TRow w.heap.size 7 (-10000) 10001, TRow w.heap.size 9 0 6, TPtr w.heap.size, TInt 0 (9 - 1), TAt w.heap.size 0 6, TInt 0 6, TAt w.heap.size (-10000) 10001, TInt (-10000) 10001, TInt (-1) 10001, TInt (-10000) 10001]
    w.heap.size 0 w.heap.size w2 (by kernel_rfl) (by kernel_rfl) hr2 hN2 ?_ (fun hN1 => ?_) ?_
  · (repeat (first | exact trivial | refine ⟨keeps_int, ?_⟩ | refine ⟨keeps_ptr, ?_⟩ | refine ⟨keeps_row, ?_⟩ | refine ⟨keeps_at, ?_⟩ | refine ⟨keeps_bool, ?_⟩))
  · (repeat (first | exact trivial | refine ⟨step_move _ rfl rfl (by kernel_rfl) rfl, ?_⟩ | refine ⟨step_assign _ rfl (by kernel_rfl) rfl, ?_⟩ | refine ⟨step_pick _ _ _ rfl (by kernel_rfl) rfl rfl (by omega) (by omega) (by omega) (by simp), ?_⟩ | refine ⟨step_eqC _ _ _ _ rfl (by kernel_rfl) rfl rfl, ?_⟩ | refine ⟨step_moveI _ _ _ _ rfl rfl (by kernel_rfl) rfl (by omega), ?_⟩ | refine ⟨step_load _ _ _ rfl (by kernel_rfl) rfl rfl, ?_⟩ | refine ⟨step_index _ _ _ _ _ _ rfl (by kernel_rfl) rfl (by kernel_rfl) rfl (by omega) rfl, ?_⟩ | refine ⟨step_mulC _ _ _ _ _ _ rfl (by kernel_rfl) rfl rfl (by intro x h1 h2; omega) (by omega), ?_⟩ | refine ⟨step_list _ _ _ _ rfl rfl rfl rfl (by omega) (by omega) (by simp only [List.map_cons, List.map_nil, List.toList_toArray]; repeat (first | exact trivial | refine ⟨.inl ⟨_, rfl, by omega, by omega⟩, ?_⟩ | refine ⟨.inr ⟨_, _, _, rfl, by kernel_rfl, rfl, by omega, by omega⟩, ?_⟩)), ?_⟩))
  · intro vs w3 q hq hr3 hb3 hT
    obtain ⟨x, hx, x0, x1⟩ := hT 11 _ rfl
    obtain ⟨y, hy, y0, y1⟩ := hT 12 _ rfl
    clear hT hq
    simp only [endTmps, Nat.reduceAdd, List.setIfInBounds_toArray, List.set_cons_succ, List.set_cons_zero]
    rw [hx, hy]
    go_wp2
    go_ret2
    exact ⟨x, y, rfl, x0, x1, y0, y1, (hb.trans (hb2.mono hb.size)).trans hb3⟩
end Go.Proofs.Ytoiacijjbehioaa
