/- The walks through badness: the program's and the reference's BadnessOf both compute 'BadOf'. No condition but that the numbers are of the kind int. -/
import Derived.Test.YtocaonlmlafjmaaKCore
import Derived.Test.YtocaonlmlafjmaaKPlain
namespace Go.Proofs.Ytocaonlmlafjmaa
open Go.RowKit
set_option linter.unusedVariables false
set_option linter.unusedSimpArgs false

theorem badness_any (n r : Int) (w : World) (h0 : 0 ≤ n) (h1 : n ≤ 100000) (h2 : 0 ≤ r) (h3 : r ≤ 100000) :
    Calls Try.prog 100 #[.int .i64 n, .int .i64 r] w fun e w' => e = .returned (.int .i64 (bad n r)) ∧ w = w' := by
  by_cases hn : n = 0
  · subst hn
    go_enter Try.func100, Try.ntmps100
    go_wp2
    go_ret
    exact ⟨ret_int (by simp [bad]), rfl⟩
  · by_cases hr : r = 0
    · subst hr
      go_enter Try.func100, Try.ntmps100
      go_wp2
      go_ret
      exact ⟨ret_int (by simp [bad, hn]), rfl⟩
    · by_cases hb : n > 10 * r
      · have e := bad_of_big (n := n) (r := r) (by omega) (by omega)
        have E := hide e
        clear e
        go_enter Try.func100, Try.ntmps100
        go_wp2
        go_ret
        exact ⟨ret_int (by rw [E.out]), rfl⟩
      · obtain ⟨⟨a1, a2⟩, ⟨b1, b2⟩, ⟨c1, c2⟩, ⟨d1, d2⟩, q1, q2⟩ := bad_parts (n := n) (r := r) h0 h1 (by omega) h3
        have e : bad n r = min 10000 (100 * n * n * n / (r * r * r)) := by unfold bad; rw [if_neg hn, if_neg hr]
        have E := hide e
        clear e
        by_cases hm : 100 * n * n * n / (r * r * r) < 10000
        all_goals
          go_enter Try.func100, Try.ntmps100
          go_wp2
          go_ret
          exact ⟨ret_int (by rw [E.out]; omega), rfl⟩

theorem specBad_in (n r : Int) (w : World) (h0 : 0 ≤ n) (h1 : n ≤ 100000) (h2 : 0 ≤ r) (h3 : r ≤ 100000) :
    Calls Try.prog 116 #[.int .i64 n, .int .i64 r] w fun e w' => e = .returned (.int .i64 (bad n r)) ∧ w = w' := by
  have i1 := inB_mk (n := n) (lo := 0) (hi := 100000) ⟨h0, h1⟩
  have i2 := inB_mk (n := r) (lo := 0) (hi := 100000) ⟨h2, h3⟩
  by_cases hn : n = 0
  · subst hn
    go_enter Try.func116, Try.ntmps116
    go_wp2_with (go_at_call 70; refine (l1In_any _ _ _ _).mono ?_; rintro e w' ⟨rfl, rfl⟩)
    go_ret
    exact ⟨ret_int (by simp [bad]), rfl⟩
  · by_cases hr : r = 0
    · subst hr
      go_enter Try.func116, Try.ntmps116
      go_wp2_with (go_at_call 70; refine (l1In_any _ _ _ _).mono ?_; rintro e w' ⟨rfl, rfl⟩)
      go_ret
      exact ⟨ret_int (by simp [bad, hn]), rfl⟩
    · by_cases hb : n > 5 * r
      · have e := bad_of_big (n := n) (r := r) (by omega) (by omega)
        have E := hide e
        clear e
        have hz : (r == 0) = false := by simpa using hr
        go_enter Try.func116, Try.ntmps116
        go_wp2_with (go_at_call 70; refine (l1In_any _ _ _ _).mono ?_; rintro e w' ⟨rfl, rfl⟩)
        go_ret
        exact ⟨ret_int (by rw [E.out]), rfl⟩
      · obtain ⟨⟨a1, a2⟩, ⟨b1, b2⟩, ⟨c1, c2⟩, ⟨d1, d2⟩, q1, q2⟩ := bad_parts (n := n) (r := r) h0 h1 (by omega) h3
        have e : bad n r = min 10000 (100 * n * n * n / (r * r * r)) := by unfold bad; rw [if_neg hn, if_neg hr]
        have E := hide e
        clear e
        have hz : (r == 0) = false := by simpa using hr
        by_cases hm : 100 * n * n * n / (r * r * r) < 10000
        all_goals
          go_enter Try.func116, Try.ntmps116
          go_wp2_with (go_at_call 70; refine (l1In_any _ _ _ _).mono ?_; rintro e w' ⟨rfl, rfl⟩)
          go_ret
          exact ⟨ret_int (by rw [E.out]; omega), rfl⟩

theorem specBad_any (n r : Int) (w : World) :
    Calls Try.prog 116 #[.int .i64 n, .int .i64 r] w fun e w' => e = .returned (.int .i64 (BadOf n r)) ∧ w = w' := by
  by_cases h1 : 0 ≤ n ∧ n ≤ 100000
  · by_cases h2 : 0 ≤ r ∧ r ≤ 100000
    · have e : BadOf n r = bad n r := if_pos ⟨h1, h2⟩
      rw [e]
      exact specBad_in n r w h1.1 h1.2 h2.1 h2.2
    · have e : BadOf n r = -1 := if_neg (fun h => h2 h.2)
      rw [e]
      have i1 := inB_mk (n := n) (lo := 0) (hi := 100000) h1
      have i2 := inB_no (n := r) (lo := 0) (hi := 100000) (by omega)
      clear h1 h2 e
      go_enter Try.func116, Try.ntmps116
      go_wp2_with (go_at_call 70; refine (l1In_any _ _ _ _).mono ?_; rintro e w' ⟨rfl, rfl⟩)
      go_ret
      exact ⟨rfl, rfl⟩
  · have e : BadOf n r = -1 := if_neg (fun h => h1 h.1)
    rw [e]
    have i1 := inB_no (n := n) (lo := 0) (hi := 100000) (by omega)
    clear h1 e
    go_enter Try.func116, Try.ntmps116
    go_wp2_with (go_at_call 70; refine (l1In_any _ _ _ _).mono ?_; rintro e w' ⟨rfl, rfl⟩)
    go_ret
    exact ⟨rfl, rfl⟩

end Go.Proofs.Ytocaonlmlafjmaa
