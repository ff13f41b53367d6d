/- The walk of the program through the validity of one item. No condition. -/
import Derived.Test.YtocaonlmlafjmaaGlue
import Derived.Test.YtocaonlmlafjmaaItem
namespace Go.Proofs.Ytocaonlmlafjmaa
open Go.RowKit
set_option linter.unusedVariables false
set_option linter.unusedSimpArgs false

set_option maxRecDepth 100000 in
set_option maxHeartbeats 4000000 in
theorem implItem (i : I) (w : World) :
    Calls Try.prog 24 #[.agg #[.int .i64 i.k, .int .i64 i.g.w, .int .i64 i.g.st, .int .i64 i.g.sh, .int .i64 i.g.o, .int .i64 i.c, .bool i.m]] w (ItemAns i w) := by
  obtain ⟨k, ⟨a, b, c, d⟩, co, m⟩ := i
  dsimp only
  unfold ItemAns
  have gv0 := fun W => implGlueValid ⟨a, b, c, d⟩ W
  dsimp only at gv0
  have gv := hide gv0
  clear gv0
  cases hg : glueOk ⟨a, b, c, d⟩ with
  | false =>
    rw [hg] at gv
    cases r1 : (b == 0) with
    | false =>
      by_cases k1 : k = 1
      · subst k1
        cases p1 : (co == 0) with
        | false =>
          have e := hide (show itemOk ⟨1, ⟨a, b, c, d⟩, co, m⟩ = false by simp [itemOk, rigidB, plainB, costB, hg])
          clear hg
          go_enter Try.func24, Try.ntmps24
          go_wp2_with (go_at_call 72; refine (gv.out _).mono ?_; rintro e w' ⟨rfl, hb⟩; obtain ⟨hcc, hff⟩ := bcell hb)
          go_ret
          exact ⟨by rw [e.out]; rfl, by first | (exact ((Below.refl w.heap.size w).alloc (Nat.le_refl _) _).trans (hb.mono (by simp))) | (exact (Below.refl w.heap.size w).alloc (Nat.le_refl _) _)⟩
        | true =>
          cases m with
          | true =>
            have e := hide (show itemOk ⟨1, ⟨a, b, c, d⟩, co, true⟩ = false by simp [itemOk, rigidB, plainB, costB, hg])
            clear hg
            go_enter Try.func24, Try.ntmps24
            go_wp2_with (go_at_call 72; refine (gv.out _).mono ?_; rintro e w' ⟨rfl, hb⟩; obtain ⟨hcc, hff⟩ := bcell hb)
            go_ret
            exact ⟨by rw [e.out]; rfl, by first | (exact ((Below.refl w.heap.size w).alloc (Nat.le_refl _) _).trans (hb.mono (by simp))) | (exact (Below.refl w.heap.size w).alloc (Nat.le_refl _) _)⟩
          | false =>
            have e := hide (show itemOk ⟨1, ⟨a, b, c, d⟩, co, false⟩ = false by simp [itemOk, rigidB, plainB, costB, hg])
            clear hg
            go_enter Try.func24, Try.ntmps24
            go_wp2_with (go_at_call 72; refine (gv.out _).mono ?_; rintro e w' ⟨rfl, hb⟩; obtain ⟨hcc, hff⟩ := bcell hb)
            go_ret
            exact ⟨by rw [e.out]; rfl, by first | (exact ((Below.refl w.heap.size w).alloc (Nat.le_refl _) _).trans (hb.mono (by simp))) | (exact (Below.refl w.heap.size w).alloc (Nat.le_refl _) _)⟩
      · by_cases k2 : k = 2
        · subst k2
          cases p1 : (co == 0) with
          | false =>
            have e := hide (show itemOk ⟨2, ⟨a, b, c, d⟩, co, m⟩ = false by simp [itemOk, rigidB, plainB, costB, hg, k1])
            clear hg
            go_enter Try.func24, Try.ntmps24
            go_wp2_with (go_at_call 72; refine (gv.out _).mono ?_; rintro e w' ⟨rfl, hb⟩; obtain ⟨hcc, hff⟩ := bcell hb)
            go_ret
            exact ⟨by rw [e.out]; rfl, by first | (exact ((Below.refl w.heap.size w).alloc (Nat.le_refl _) _).trans (hb.mono (by simp))) | (exact (Below.refl w.heap.size w).alloc (Nat.le_refl _) _)⟩
          | true =>
            cases m with
            | true =>
              have e := hide (show itemOk ⟨2, ⟨a, b, c, d⟩, co, true⟩ = false by simp [itemOk, rigidB, plainB, costB, hg, k1])
              clear hg
              go_enter Try.func24, Try.ntmps24
              go_wp2_with (go_at_call 72; refine (gv.out _).mono ?_; rintro e w' ⟨rfl, hb⟩; obtain ⟨hcc, hff⟩ := bcell hb)
              go_ret
              exact ⟨by rw [e.out]; rfl, by first | (exact ((Below.refl w.heap.size w).alloc (Nat.le_refl _) _).trans (hb.mono (by simp))) | (exact (Below.refl w.heap.size w).alloc (Nat.le_refl _) _)⟩
            | false =>
              have e := hide (show itemOk ⟨2, ⟨a, b, c, d⟩, co, false⟩ = false by simp [itemOk, rigidB, plainB, costB, hg, k1])
              clear hg
              go_enter Try.func24, Try.ntmps24
              go_wp2_with (go_at_call 72; refine (gv.out _).mono ?_; rintro e w' ⟨rfl, hb⟩; obtain ⟨hcc, hff⟩ := bcell hb)
              go_ret
              exact ⟨by rw [e.out]; rfl, by first | (exact ((Below.refl w.heap.size w).alloc (Nat.le_refl _) _).trans (hb.mono (by simp))) | (exact (Below.refl w.heap.size w).alloc (Nat.le_refl _) _)⟩
        · by_cases k3 : k = 3
          · subst k3
            cases p1 : (co == 0) with
            | false =>
              have e := hide (show itemOk ⟨3, ⟨a, b, c, d⟩, co, m⟩ = false by simp [itemOk, rigidB, plainB, costB, hg, k1, k2])
              clear hg
              go_enter Try.func24, Try.ntmps24
              go_wp2_with (go_at_call 72; refine (gv.out _).mono ?_; rintro e w' ⟨rfl, hb⟩; obtain ⟨hcc, hff⟩ := bcell hb)
              go_ret
              exact ⟨by rw [e.out]; rfl, by first | (exact ((Below.refl w.heap.size w).alloc (Nat.le_refl _) _).trans (hb.mono (by simp))) | (exact (Below.refl w.heap.size w).alloc (Nat.le_refl _) _)⟩
            | true =>
              cases m with
              | true =>
                have e := hide (show itemOk ⟨3, ⟨a, b, c, d⟩, co, true⟩ = false by simp [itemOk, rigidB, plainB, costB, hg, k1, k2])
                clear hg
                go_enter Try.func24, Try.ntmps24
                go_wp2_with (go_at_call 72; refine (gv.out _).mono ?_; rintro e w' ⟨rfl, hb⟩; obtain ⟨hcc, hff⟩ := bcell hb)
                go_ret
                exact ⟨by rw [e.out]; rfl, by first | (exact ((Below.refl w.heap.size w).alloc (Nat.le_refl _) _).trans (hb.mono (by simp))) | (exact (Below.refl w.heap.size w).alloc (Nat.le_refl _) _)⟩
              | false =>
                have e := hide (show itemOk ⟨3, ⟨a, b, c, d⟩, co, false⟩ = false by simp [itemOk, rigidB, plainB, costB, hg, k1, k2])
                clear hg
                go_enter Try.func24, Try.ntmps24
                go_wp2_with (go_at_call 72; refine (gv.out _).mono ?_; rintro e w' ⟨rfl, hb⟩; obtain ⟨hcc, hff⟩ := bcell hb)
                go_ret
                exact ⟨by rw [e.out]; rfl, by first | (exact ((Below.refl w.heap.size w).alloc (Nat.le_refl _) _).trans (hb.mono (by simp))) | (exact (Below.refl w.heap.size w).alloc (Nat.le_refl _) _)⟩
          · have d1 : (k == 1) = false := by simpa using k1
            have d2 : (k == 2) = false := by simpa using k2
            have d3 : (k == 3) = false := by simpa using k3
            cases p1 : (co == 0) with
            | false =>
              have e := hide (show itemOk ⟨k, ⟨a, b, c, d⟩, co, m⟩ = false by simp [itemOk, rigidB, plainB, costB, hg, k1, k2, k3])
              clear hg
              go_enter Try.func24, Try.ntmps24
              go_wp2_with (go_at_call 72; refine (gv.out _).mono ?_; rintro e w' ⟨rfl, hb⟩; obtain ⟨hcc, hff⟩ := bcell hb)
              go_ret
              exact ⟨by rw [e.out]; rfl, by first | (exact ((Below.refl w.heap.size w).alloc (Nat.le_refl _) _).trans (hb.mono (by simp))) | (exact (Below.refl w.heap.size w).alloc (Nat.le_refl _) _)⟩
            | true =>
              cases m with
              | true =>
                have e := hide (show itemOk ⟨k, ⟨a, b, c, d⟩, co, true⟩ = false by simp [itemOk, rigidB, plainB, costB, hg, k1, k2, k3])
                clear hg
                go_enter Try.func24, Try.ntmps24
                go_wp2_with (go_at_call 72; refine (gv.out _).mono ?_; rintro e w' ⟨rfl, hb⟩; obtain ⟨hcc, hff⟩ := bcell hb)
                go_ret
                exact ⟨by rw [e.out]; rfl, by first | (exact ((Below.refl w.heap.size w).alloc (Nat.le_refl _) _).trans (hb.mono (by simp))) | (exact (Below.refl w.heap.size w).alloc (Nat.le_refl _) _)⟩
              | false =>
                have e := hide (show itemOk ⟨k, ⟨a, b, c, d⟩, co, false⟩ = false by simp [itemOk, rigidB, plainB, costB, hg, k1, k2, k3])
                clear hg
                go_enter Try.func24, Try.ntmps24
                go_wp2_with (go_at_call 72; refine (gv.out _).mono ?_; rintro e w' ⟨rfl, hb⟩; obtain ⟨hcc, hff⟩ := bcell hb)
                go_ret
                exact ⟨by rw [e.out]; rfl, by first | (exact ((Below.refl w.heap.size w).alloc (Nat.le_refl _) _).trans (hb.mono (by simp))) | (exact (Below.refl w.heap.size w).alloc (Nat.le_refl _) _)⟩
    | true =>
      cases r2 : (c == 0) with
      | false =>
        by_cases k1 : k = 1
        · subst k1
          cases p1 : (co == 0) with
          | false =>
            have e := hide (show itemOk ⟨1, ⟨a, b, c, d⟩, co, m⟩ = false by simp [itemOk, rigidB, plainB, costB, hg])
            clear hg
            go_enter Try.func24, Try.ntmps24
            go_wp2_with (go_at_call 72; refine (gv.out _).mono ?_; rintro e w' ⟨rfl, hb⟩; obtain ⟨hcc, hff⟩ := bcell hb)
            go_ret
            exact ⟨by rw [e.out]; rfl, by first | (exact ((Below.refl w.heap.size w).alloc (Nat.le_refl _) _).trans (hb.mono (by simp))) | (exact (Below.refl w.heap.size w).alloc (Nat.le_refl _) _)⟩
          | true =>
            cases m with
            | true =>
              have e := hide (show itemOk ⟨1, ⟨a, b, c, d⟩, co, true⟩ = false by simp [itemOk, rigidB, plainB, costB, hg])
              clear hg
              go_enter Try.func24, Try.ntmps24
              go_wp2_with (go_at_call 72; refine (gv.out _).mono ?_; rintro e w' ⟨rfl, hb⟩; obtain ⟨hcc, hff⟩ := bcell hb)
              go_ret
              exact ⟨by rw [e.out]; rfl, by first | (exact ((Below.refl w.heap.size w).alloc (Nat.le_refl _) _).trans (hb.mono (by simp))) | (exact (Below.refl w.heap.size w).alloc (Nat.le_refl _) _)⟩
            | false =>
              have e := hide (show itemOk ⟨1, ⟨a, b, c, d⟩, co, false⟩ = false by simp [itemOk, rigidB, plainB, costB, hg])
              clear hg
              go_enter Try.func24, Try.ntmps24
              go_wp2_with (go_at_call 72; refine (gv.out _).mono ?_; rintro e w' ⟨rfl, hb⟩; obtain ⟨hcc, hff⟩ := bcell hb)
              go_ret
              exact ⟨by rw [e.out]; rfl, by first | (exact ((Below.refl w.heap.size w).alloc (Nat.le_refl _) _).trans (hb.mono (by simp))) | (exact (Below.refl w.heap.size w).alloc (Nat.le_refl _) _)⟩
        · by_cases k2 : k = 2
          · subst k2
            cases p1 : (co == 0) with
            | false =>
              have e := hide (show itemOk ⟨2, ⟨a, b, c, d⟩, co, m⟩ = false by simp [itemOk, rigidB, plainB, costB, hg, k1])
              clear hg
              go_enter Try.func24, Try.ntmps24
              go_wp2_with (go_at_call 72; refine (gv.out _).mono ?_; rintro e w' ⟨rfl, hb⟩; obtain ⟨hcc, hff⟩ := bcell hb)
              go_ret
              exact ⟨by rw [e.out]; rfl, by first | (exact ((Below.refl w.heap.size w).alloc (Nat.le_refl _) _).trans (hb.mono (by simp))) | (exact (Below.refl w.heap.size w).alloc (Nat.le_refl _) _)⟩
            | true =>
              cases m with
              | true =>
                have e := hide (show itemOk ⟨2, ⟨a, b, c, d⟩, co, true⟩ = false by simp [itemOk, rigidB, plainB, costB, hg, k1])
                clear hg
                go_enter Try.func24, Try.ntmps24
                go_wp2_with (go_at_call 72; refine (gv.out _).mono ?_; rintro e w' ⟨rfl, hb⟩; obtain ⟨hcc, hff⟩ := bcell hb)
                go_ret
                exact ⟨by rw [e.out]; rfl, by first | (exact ((Below.refl w.heap.size w).alloc (Nat.le_refl _) _).trans (hb.mono (by simp))) | (exact (Below.refl w.heap.size w).alloc (Nat.le_refl _) _)⟩
              | false =>
                have e := hide (show itemOk ⟨2, ⟨a, b, c, d⟩, co, false⟩ = false by simp [itemOk, rigidB, plainB, costB, hg, k1])
                clear hg
                go_enter Try.func24, Try.ntmps24
                go_wp2_with (go_at_call 72; refine (gv.out _).mono ?_; rintro e w' ⟨rfl, hb⟩; obtain ⟨hcc, hff⟩ := bcell hb)
                go_ret
                exact ⟨by rw [e.out]; rfl, by first | (exact ((Below.refl w.heap.size w).alloc (Nat.le_refl _) _).trans (hb.mono (by simp))) | (exact (Below.refl w.heap.size w).alloc (Nat.le_refl _) _)⟩
          · by_cases k3 : k = 3
            · subst k3
              cases p1 : (co == 0) with
              | false =>
                have e := hide (show itemOk ⟨3, ⟨a, b, c, d⟩, co, m⟩ = false by simp [itemOk, rigidB, plainB, costB, hg, k1, k2])
                clear hg
                go_enter Try.func24, Try.ntmps24
                go_wp2_with (go_at_call 72; refine (gv.out _).mono ?_; rintro e w' ⟨rfl, hb⟩; obtain ⟨hcc, hff⟩ := bcell hb)
                go_ret
                exact ⟨by rw [e.out]; rfl, by first | (exact ((Below.refl w.heap.size w).alloc (Nat.le_refl _) _).trans (hb.mono (by simp))) | (exact (Below.refl w.heap.size w).alloc (Nat.le_refl _) _)⟩
              | true =>
                cases m with
                | true =>
                  have e := hide (show itemOk ⟨3, ⟨a, b, c, d⟩, co, true⟩ = false by simp [itemOk, rigidB, plainB, costB, hg, k1, k2])
                  clear hg
                  go_enter Try.func24, Try.ntmps24
                  go_wp2_with (go_at_call 72; refine (gv.out _).mono ?_; rintro e w' ⟨rfl, hb⟩; obtain ⟨hcc, hff⟩ := bcell hb)
                  go_ret
                  exact ⟨by rw [e.out]; rfl, by first | (exact ((Below.refl w.heap.size w).alloc (Nat.le_refl _) _).trans (hb.mono (by simp))) | (exact (Below.refl w.heap.size w).alloc (Nat.le_refl _) _)⟩
                | false =>
                  have e := hide (show itemOk ⟨3, ⟨a, b, c, d⟩, co, false⟩ = false by simp [itemOk, rigidB, plainB, costB, hg, k1, k2])
                  clear hg
                  go_enter Try.func24, Try.ntmps24
                  go_wp2_with (go_at_call 72; refine (gv.out _).mono ?_; rintro e w' ⟨rfl, hb⟩; obtain ⟨hcc, hff⟩ := bcell hb)
                  go_ret
                  exact ⟨by rw [e.out]; rfl, by first | (exact ((Below.refl w.heap.size w).alloc (Nat.le_refl _) _).trans (hb.mono (by simp))) | (exact (Below.refl w.heap.size w).alloc (Nat.le_refl _) _)⟩
            · have d1 : (k == 1) = false := by simpa using k1
              have d2 : (k == 2) = false := by simpa using k2
              have d3 : (k == 3) = false := by simpa using k3
              cases p1 : (co == 0) with
              | false =>
                have e := hide (show itemOk ⟨k, ⟨a, b, c, d⟩, co, m⟩ = false by simp [itemOk, rigidB, plainB, costB, hg, k1, k2, k3])
                clear hg
                go_enter Try.func24, Try.ntmps24
                go_wp2_with (go_at_call 72; refine (gv.out _).mono ?_; rintro e w' ⟨rfl, hb⟩; obtain ⟨hcc, hff⟩ := bcell hb)
                go_ret
                exact ⟨by rw [e.out]; rfl, by first | (exact ((Below.refl w.heap.size w).alloc (Nat.le_refl _) _).trans (hb.mono (by simp))) | (exact (Below.refl w.heap.size w).alloc (Nat.le_refl _) _)⟩
              | true =>
                cases m with
                | true =>
                  have e := hide (show itemOk ⟨k, ⟨a, b, c, d⟩, co, true⟩ = false by simp [itemOk, rigidB, plainB, costB, hg, k1, k2, k3])
                  clear hg
                  go_enter Try.func24, Try.ntmps24
                  go_wp2_with (go_at_call 72; refine (gv.out _).mono ?_; rintro e w' ⟨rfl, hb⟩; obtain ⟨hcc, hff⟩ := bcell hb)
                  go_ret
                  exact ⟨by rw [e.out]; rfl, by first | (exact ((Below.refl w.heap.size w).alloc (Nat.le_refl _) _).trans (hb.mono (by simp))) | (exact (Below.refl w.heap.size w).alloc (Nat.le_refl _) _)⟩
                | false =>
                  have e := hide (show itemOk ⟨k, ⟨a, b, c, d⟩, co, false⟩ = false by simp [itemOk, rigidB, plainB, costB, hg, k1, k2, k3])
                  clear hg
                  go_enter Try.func24, Try.ntmps24
                  go_wp2_with (go_at_call 72; refine (gv.out _).mono ?_; rintro e w' ⟨rfl, hb⟩; obtain ⟨hcc, hff⟩ := bcell hb)
                  go_ret
                  exact ⟨by rw [e.out]; rfl, by first | (exact ((Below.refl w.heap.size w).alloc (Nat.le_refl _) _).trans (hb.mono (by simp))) | (exact (Below.refl w.heap.size w).alloc (Nat.le_refl _) _)⟩
      | true =>
        cases r3 : (d == 0) with
        | false =>
          by_cases k1 : k = 1
          · subst k1
            cases p1 : (co == 0) with
            | false =>
              have e := hide (show itemOk ⟨1, ⟨a, b, c, d⟩, co, m⟩ = false by simp [itemOk, rigidB, plainB, costB, hg])
              clear hg
              go_enter Try.func24, Try.ntmps24
              go_wp2_with (go_at_call 72; refine (gv.out _).mono ?_; rintro e w' ⟨rfl, hb⟩; obtain ⟨hcc, hff⟩ := bcell hb)
              go_ret
              exact ⟨by rw [e.out]; rfl, by first | (exact ((Below.refl w.heap.size w).alloc (Nat.le_refl _) _).trans (hb.mono (by simp))) | (exact (Below.refl w.heap.size w).alloc (Nat.le_refl _) _)⟩
            | true =>
              cases m with
              | true =>
                have e := hide (show itemOk ⟨1, ⟨a, b, c, d⟩, co, true⟩ = false by simp [itemOk, rigidB, plainB, costB, hg])
                clear hg
                go_enter Try.func24, Try.ntmps24
                go_wp2_with (go_at_call 72; refine (gv.out _).mono ?_; rintro e w' ⟨rfl, hb⟩; obtain ⟨hcc, hff⟩ := bcell hb)
                go_ret
                exact ⟨by rw [e.out]; rfl, by first | (exact ((Below.refl w.heap.size w).alloc (Nat.le_refl _) _).trans (hb.mono (by simp))) | (exact (Below.refl w.heap.size w).alloc (Nat.le_refl _) _)⟩
              | false =>
                have e := hide (show itemOk ⟨1, ⟨a, b, c, d⟩, co, false⟩ = false by simp [itemOk, rigidB, plainB, costB, hg])
                clear hg
                go_enter Try.func24, Try.ntmps24
                go_wp2_with (go_at_call 72; refine (gv.out _).mono ?_; rintro e w' ⟨rfl, hb⟩; obtain ⟨hcc, hff⟩ := bcell hb)
                go_ret
                exact ⟨by rw [e.out]; rfl, by first | (exact ((Below.refl w.heap.size w).alloc (Nat.le_refl _) _).trans (hb.mono (by simp))) | (exact (Below.refl w.heap.size w).alloc (Nat.le_refl _) _)⟩
          · by_cases k2 : k = 2
            · subst k2
              cases p1 : (co == 0) with
              | false =>
                have e := hide (show itemOk ⟨2, ⟨a, b, c, d⟩, co, m⟩ = false by simp [itemOk, rigidB, plainB, costB, hg, k1])
                clear hg
                go_enter Try.func24, Try.ntmps24
                go_wp2_with (go_at_call 72; refine (gv.out _).mono ?_; rintro e w' ⟨rfl, hb⟩; obtain ⟨hcc, hff⟩ := bcell hb)
                go_ret
                exact ⟨by rw [e.out]; rfl, by first | (exact ((Below.refl w.heap.size w).alloc (Nat.le_refl _) _).trans (hb.mono (by simp))) | (exact (Below.refl w.heap.size w).alloc (Nat.le_refl _) _)⟩
              | true =>
                cases m with
                | true =>
                  have e := hide (show itemOk ⟨2, ⟨a, b, c, d⟩, co, true⟩ = false by simp [itemOk, rigidB, plainB, costB, hg, k1])
                  clear hg
                  go_enter Try.func24, Try.ntmps24
                  go_wp2_with (go_at_call 72; refine (gv.out _).mono ?_; rintro e w' ⟨rfl, hb⟩; obtain ⟨hcc, hff⟩ := bcell hb)
                  go_ret
                  exact ⟨by rw [e.out]; rfl, by first | (exact ((Below.refl w.heap.size w).alloc (Nat.le_refl _) _).trans (hb.mono (by simp))) | (exact (Below.refl w.heap.size w).alloc (Nat.le_refl _) _)⟩
                | false =>
                  have e := hide (show itemOk ⟨2, ⟨a, b, c, d⟩, co, false⟩ = false by simp [itemOk, rigidB, plainB, costB, hg, k1])
                  clear hg
                  go_enter Try.func24, Try.ntmps24
                  go_wp2_with (go_at_call 72; refine (gv.out _).mono ?_; rintro e w' ⟨rfl, hb⟩; obtain ⟨hcc, hff⟩ := bcell hb)
                  go_ret
                  exact ⟨by rw [e.out]; rfl, by first | (exact ((Below.refl w.heap.size w).alloc (Nat.le_refl _) _).trans (hb.mono (by simp))) | (exact (Below.refl w.heap.size w).alloc (Nat.le_refl _) _)⟩
            · by_cases k3 : k = 3
              · subst k3
                cases p1 : (co == 0) with
                | false =>
                  have e := hide (show itemOk ⟨3, ⟨a, b, c, d⟩, co, m⟩ = false by simp [itemOk, rigidB, plainB, costB, hg, k1, k2])
                  clear hg
                  go_enter Try.func24, Try.ntmps24
                  go_wp2_with (go_at_call 72; refine (gv.out _).mono ?_; rintro e w' ⟨rfl, hb⟩; obtain ⟨hcc, hff⟩ := bcell hb)
                  go_ret
                  exact ⟨by rw [e.out]; rfl, by first | (exact ((Below.refl w.heap.size w).alloc (Nat.le_refl _) _).trans (hb.mono (by simp))) | (exact (Below.refl w.heap.size w).alloc (Nat.le_refl _) _)⟩
                | true =>
                  cases m with
                  | true =>
                    have e := hide (show itemOk ⟨3, ⟨a, b, c, d⟩, co, true⟩ = false by simp [itemOk, rigidB, plainB, costB, hg, k1, k2])
                    clear hg
                    go_enter Try.func24, Try.ntmps24
                    go_wp2_with (go_at_call 72; refine (gv.out _).mono ?_; rintro e w' ⟨rfl, hb⟩; obtain ⟨hcc, hff⟩ := bcell hb)
                    go_ret
                    exact ⟨by rw [e.out]; rfl, by first | (exact ((Below.refl w.heap.size w).alloc (Nat.le_refl _) _).trans (hb.mono (by simp))) | (exact (Below.refl w.heap.size w).alloc (Nat.le_refl _) _)⟩
                  | false =>
                    have e := hide (show itemOk ⟨3, ⟨a, b, c, d⟩, co, false⟩ = false by simp [itemOk, rigidB, plainB, costB, hg, k1, k2])
                    clear hg
                    go_enter Try.func24, Try.ntmps24
                    go_wp2_with (go_at_call 72; refine (gv.out _).mono ?_; rintro e w' ⟨rfl, hb⟩; obtain ⟨hcc, hff⟩ := bcell hb)
                    go_ret
                    exact ⟨by rw [e.out]; rfl, by first | (exact ((Below.refl w.heap.size w).alloc (Nat.le_refl _) _).trans (hb.mono (by simp))) | (exact (Below.refl w.heap.size w).alloc (Nat.le_refl _) _)⟩
              · have d1 : (k == 1) = false := by simpa using k1
                have d2 : (k == 2) = false := by simpa using k2
                have d3 : (k == 3) = false := by simpa using k3
                cases p1 : (co == 0) with
                | false =>
                  have e := hide (show itemOk ⟨k, ⟨a, b, c, d⟩, co, m⟩ = false by simp [itemOk, rigidB, plainB, costB, hg, k1, k2, k3])
                  clear hg
                  go_enter Try.func24, Try.ntmps24
                  go_wp2_with (go_at_call 72; refine (gv.out _).mono ?_; rintro e w' ⟨rfl, hb⟩; obtain ⟨hcc, hff⟩ := bcell hb)
                  go_ret
                  exact ⟨by rw [e.out]; rfl, by first | (exact ((Below.refl w.heap.size w).alloc (Nat.le_refl _) _).trans (hb.mono (by simp))) | (exact (Below.refl w.heap.size w).alloc (Nat.le_refl _) _)⟩
                | true =>
                  cases m with
                  | true =>
                    have e := hide (show itemOk ⟨k, ⟨a, b, c, d⟩, co, true⟩ = false by simp [itemOk, rigidB, plainB, costB, hg, k1, k2, k3])
                    clear hg
                    go_enter Try.func24, Try.ntmps24
                    go_wp2_with (go_at_call 72; refine (gv.out _).mono ?_; rintro e w' ⟨rfl, hb⟩; obtain ⟨hcc, hff⟩ := bcell hb)
                    go_ret
                    exact ⟨by rw [e.out]; rfl, by first | (exact ((Below.refl w.heap.size w).alloc (Nat.le_refl _) _).trans (hb.mono (by simp))) | (exact (Below.refl w.heap.size w).alloc (Nat.le_refl _) _)⟩
                  | false =>
                    have e := hide (show itemOk ⟨k, ⟨a, b, c, d⟩, co, false⟩ = false by simp [itemOk, rigidB, plainB, costB, hg, k1, k2, k3])
                    clear hg
                    go_enter Try.func24, Try.ntmps24
                    go_wp2_with (go_at_call 72; refine (gv.out _).mono ?_; rintro e w' ⟨rfl, hb⟩; obtain ⟨hcc, hff⟩ := bcell hb)
                    go_ret
                    exact ⟨by rw [e.out]; rfl, by first | (exact ((Below.refl w.heap.size w).alloc (Nat.le_refl _) _).trans (hb.mono (by simp))) | (exact (Below.refl w.heap.size w).alloc (Nat.le_refl _) _)⟩
        | true =>
          by_cases k1 : k = 1
          · subst k1
            cases p1 : (co == 0) with
            | false =>
              have e := hide (show itemOk ⟨1, ⟨a, b, c, d⟩, co, m⟩ = false by simp [itemOk, rigidB, plainB, costB, hg])
              clear hg
              go_enter Try.func24, Try.ntmps24
              go_wp2_with (go_at_call 72; refine (gv.out _).mono ?_; rintro e w' ⟨rfl, hb⟩; obtain ⟨hcc, hff⟩ := bcell hb)
              go_ret
              exact ⟨by rw [e.out]; rfl, by first | (exact ((Below.refl w.heap.size w).alloc (Nat.le_refl _) _).trans (hb.mono (by simp))) | (exact (Below.refl w.heap.size w).alloc (Nat.le_refl _) _)⟩
            | true =>
              cases m with
              | true =>
                have e := hide (show itemOk ⟨1, ⟨a, b, c, d⟩, co, true⟩ = false by simp [itemOk, rigidB, plainB, costB, hg])
                clear hg
                go_enter Try.func24, Try.ntmps24
                go_wp2_with (go_at_call 72; refine (gv.out _).mono ?_; rintro e w' ⟨rfl, hb⟩; obtain ⟨hcc, hff⟩ := bcell hb)
                go_ret
                exact ⟨by rw [e.out]; rfl, by first | (exact ((Below.refl w.heap.size w).alloc (Nat.le_refl _) _).trans (hb.mono (by simp))) | (exact (Below.refl w.heap.size w).alloc (Nat.le_refl _) _)⟩
              | false =>
                have e := hide (show itemOk ⟨1, ⟨a, b, c, d⟩, co, false⟩ = false by simp [itemOk, rigidB, plainB, costB, hg])
                clear hg
                go_enter Try.func24, Try.ntmps24
                go_wp2_with (go_at_call 72; refine (gv.out _).mono ?_; rintro e w' ⟨rfl, hb⟩; obtain ⟨hcc, hff⟩ := bcell hb)
                go_ret
                exact ⟨by rw [e.out]; rfl, by first | (exact ((Below.refl w.heap.size w).alloc (Nat.le_refl _) _).trans (hb.mono (by simp))) | (exact (Below.refl w.heap.size w).alloc (Nat.le_refl _) _)⟩
          · by_cases k2 : k = 2
            · subst k2
              cases p1 : (co == 0) with
              | false =>
                have e := hide (show itemOk ⟨2, ⟨a, b, c, d⟩, co, m⟩ = false by simp [itemOk, rigidB, plainB, costB, hg, k1])
                clear hg
                go_enter Try.func24, Try.ntmps24
                go_wp2_with (go_at_call 72; refine (gv.out _).mono ?_; rintro e w' ⟨rfl, hb⟩; obtain ⟨hcc, hff⟩ := bcell hb)
                go_ret
                exact ⟨by rw [e.out]; rfl, by first | (exact ((Below.refl w.heap.size w).alloc (Nat.le_refl _) _).trans (hb.mono (by simp))) | (exact (Below.refl w.heap.size w).alloc (Nat.le_refl _) _)⟩
              | true =>
                cases m with
                | true =>
                  have e := hide (show itemOk ⟨2, ⟨a, b, c, d⟩, co, true⟩ = false by simp [itemOk, rigidB, plainB, costB, hg, k1])
                  clear hg
                  go_enter Try.func24, Try.ntmps24
                  go_wp2_with (go_at_call 72; refine (gv.out _).mono ?_; rintro e w' ⟨rfl, hb⟩; obtain ⟨hcc, hff⟩ := bcell hb)
                  go_ret
                  exact ⟨by rw [e.out]; rfl, by first | (exact ((Below.refl w.heap.size w).alloc (Nat.le_refl _) _).trans (hb.mono (by simp))) | (exact (Below.refl w.heap.size w).alloc (Nat.le_refl _) _)⟩
                | false =>
                  have e := hide (show itemOk ⟨2, ⟨a, b, c, d⟩, co, false⟩ = false by simp [itemOk, rigidB, plainB, costB, hg, k1])
                  clear hg
                  go_enter Try.func24, Try.ntmps24
                  go_wp2_with (go_at_call 72; refine (gv.out _).mono ?_; rintro e w' ⟨rfl, hb⟩; obtain ⟨hcc, hff⟩ := bcell hb)
                  go_ret
                  exact ⟨by rw [e.out]; rfl, by first | (exact ((Below.refl w.heap.size w).alloc (Nat.le_refl _) _).trans (hb.mono (by simp))) | (exact (Below.refl w.heap.size w).alloc (Nat.le_refl _) _)⟩
            · by_cases k3 : k = 3
              · subst k3
                cases p1 : (co == 0) with
                | false =>
                  have e := hide (show itemOk ⟨3, ⟨a, b, c, d⟩, co, m⟩ = false by simp [itemOk, rigidB, plainB, costB, hg, k1, k2])
                  clear hg
                  go_enter Try.func24, Try.ntmps24
                  go_wp2_with (go_at_call 72; refine (gv.out _).mono ?_; rintro e w' ⟨rfl, hb⟩; obtain ⟨hcc, hff⟩ := bcell hb)
                  go_ret
                  exact ⟨by rw [e.out]; rfl, by first | (exact ((Below.refl w.heap.size w).alloc (Nat.le_refl _) _).trans (hb.mono (by simp))) | (exact (Below.refl w.heap.size w).alloc (Nat.le_refl _) _)⟩
                | true =>
                  cases m with
                  | true =>
                    have e := hide (show itemOk ⟨3, ⟨a, b, c, d⟩, co, true⟩ = false by simp [itemOk, rigidB, plainB, costB, hg, k1, k2])
                    clear hg
                    go_enter Try.func24, Try.ntmps24
                    go_wp2_with (go_at_call 72; refine (gv.out _).mono ?_; rintro e w' ⟨rfl, hb⟩; obtain ⟨hcc, hff⟩ := bcell hb)
                    go_ret
                    exact ⟨by rw [e.out]; rfl, by first | (exact ((Below.refl w.heap.size w).alloc (Nat.le_refl _) _).trans (hb.mono (by simp))) | (exact (Below.refl w.heap.size w).alloc (Nat.le_refl _) _)⟩
                  | false =>
                    have e := hide (show itemOk ⟨3, ⟨a, b, c, d⟩, co, false⟩ = false by simp [itemOk, rigidB, plainB, costB, hg, k1, k2])
                    clear hg
                    go_enter Try.func24, Try.ntmps24
                    go_wp2_with (go_at_call 72; refine (gv.out _).mono ?_; rintro e w' ⟨rfl, hb⟩; obtain ⟨hcc, hff⟩ := bcell hb)
                    go_ret
                    exact ⟨by rw [e.out]; rfl, by first | (exact ((Below.refl w.heap.size w).alloc (Nat.le_refl _) _).trans (hb.mono (by simp))) | (exact (Below.refl w.heap.size w).alloc (Nat.le_refl _) _)⟩
              · have d1 : (k == 1) = false := by simpa using k1
                have d2 : (k == 2) = false := by simpa using k2
                have d3 : (k == 3) = false := by simpa using k3
                cases p1 : (co == 0) with
                | false =>
                  have e := hide (show itemOk ⟨k, ⟨a, b, c, d⟩, co, m⟩ = false by simp [itemOk, rigidB, plainB, costB, hg, k1, k2, k3])
                  clear hg
                  go_enter Try.func24, Try.ntmps24
                  go_wp2_with (go_at_call 72; refine (gv.out _).mono ?_; rintro e w' ⟨rfl, hb⟩; obtain ⟨hcc, hff⟩ := bcell hb)
                  go_ret
                  exact ⟨by rw [e.out]; rfl, by first | (exact ((Below.refl w.heap.size w).alloc (Nat.le_refl _) _).trans (hb.mono (by simp))) | (exact (Below.refl w.heap.size w).alloc (Nat.le_refl _) _)⟩
                | true =>
                  cases m with
                  | true =>
                    have e := hide (show itemOk ⟨k, ⟨a, b, c, d⟩, co, true⟩ = false by simp [itemOk, rigidB, plainB, costB, hg, k1, k2, k3])
                    clear hg
                    go_enter Try.func24, Try.ntmps24
                    go_wp2_with (go_at_call 72; refine (gv.out _).mono ?_; rintro e w' ⟨rfl, hb⟩; obtain ⟨hcc, hff⟩ := bcell hb)
                    go_ret
                    exact ⟨by rw [e.out]; rfl, by first | (exact ((Below.refl w.heap.size w).alloc (Nat.le_refl _) _).trans (hb.mono (by simp))) | (exact (Below.refl w.heap.size w).alloc (Nat.le_refl _) _)⟩
                  | false =>
                    have e := hide (show itemOk ⟨k, ⟨a, b, c, d⟩, co, false⟩ = false by simp [itemOk, rigidB, plainB, costB, hg, k1, k2, k3])
                    clear hg
                    go_enter Try.func24, Try.ntmps24
                    go_wp2_with (go_at_call 72; refine (gv.out _).mono ?_; rintro e w' ⟨rfl, hb⟩; obtain ⟨hcc, hff⟩ := bcell hb)
                    go_ret
                    exact ⟨by rw [e.out]; rfl, by first | (exact ((Below.refl w.heap.size w).alloc (Nat.le_refl _) _).trans (hb.mono (by simp))) | (exact (Below.refl w.heap.size w).alloc (Nat.le_refl _) _)⟩
  | true =>
    rw [hg] at gv
    cases r1 : (b == 0) with
    | false =>
      by_cases k1 : k = 1
      · subst k1
        cases p1 : (co == 0) with
        | false =>
          have e := hide (show itemOk ⟨1, ⟨a, b, c, d⟩, co, m⟩ = false by simp [itemOk, rigidB, plainB, costB, hg, r1, p1])
          clear hg
          go_enter Try.func24, Try.ntmps24
          go_wp2_with (go_at_call 72; refine (gv.out _).mono ?_; rintro e w' ⟨rfl, hb⟩; obtain ⟨hcc, hff⟩ := bcell hb)
          go_ret
          exact ⟨by rw [e.out]; rfl, by first | (exact ((Below.refl w.heap.size w).alloc (Nat.le_refl _) _).trans (hb.mono (by simp))) | (exact (Below.refl w.heap.size w).alloc (Nat.le_refl _) _)⟩
        | true =>
          cases m with
          | true =>
            have e := hide (show itemOk ⟨1, ⟨a, b, c, d⟩, co, true⟩ = false by simp [itemOk, rigidB, plainB, costB, hg, r1, p1])
            clear hg
            go_enter Try.func24, Try.ntmps24
            go_wp2_with (go_at_call 72; refine (gv.out _).mono ?_; rintro e w' ⟨rfl, hb⟩; obtain ⟨hcc, hff⟩ := bcell hb)
            go_ret
            exact ⟨by rw [e.out]; rfl, by first | (exact ((Below.refl w.heap.size w).alloc (Nat.le_refl _) _).trans (hb.mono (by simp))) | (exact (Below.refl w.heap.size w).alloc (Nat.le_refl _) _)⟩
          | false =>
            have e := hide (show itemOk ⟨1, ⟨a, b, c, d⟩, co, false⟩ = false by simp [itemOk, rigidB, plainB, costB, hg, r1, p1])
            clear hg
            go_enter Try.func24, Try.ntmps24
            go_wp2_with (go_at_call 72; refine (gv.out _).mono ?_; rintro e w' ⟨rfl, hb⟩; obtain ⟨hcc, hff⟩ := bcell hb)
            go_ret
            exact ⟨by rw [e.out]; rfl, by first | (exact ((Below.refl w.heap.size w).alloc (Nat.le_refl _) _).trans (hb.mono (by simp))) | (exact (Below.refl w.heap.size w).alloc (Nat.le_refl _) _)⟩
      · by_cases k2 : k = 2
        · subst k2
          cases p1 : (co == 0) with
          | false =>
            have e := hide (show itemOk ⟨2, ⟨a, b, c, d⟩, co, m⟩ = false by simp [itemOk, rigidB, plainB, costB, hg, r1, p1])
            clear hg
            go_enter Try.func24, Try.ntmps24
            go_wp2_with (go_at_call 72; refine (gv.out _).mono ?_; rintro e w' ⟨rfl, hb⟩; obtain ⟨hcc, hff⟩ := bcell hb)
            go_ret
            exact ⟨by rw [e.out]; rfl, by first | (exact ((Below.refl w.heap.size w).alloc (Nat.le_refl _) _).trans (hb.mono (by simp))) | (exact (Below.refl w.heap.size w).alloc (Nat.le_refl _) _)⟩
          | true =>
            cases m with
            | true =>
              have e := hide (show itemOk ⟨2, ⟨a, b, c, d⟩, co, true⟩ = false by simp [itemOk, rigidB, plainB, costB, hg, r1, p1])
              clear hg
              go_enter Try.func24, Try.ntmps24
              go_wp2_with (go_at_call 72; refine (gv.out _).mono ?_; rintro e w' ⟨rfl, hb⟩; obtain ⟨hcc, hff⟩ := bcell hb)
              go_ret
              exact ⟨by rw [e.out]; rfl, by first | (exact ((Below.refl w.heap.size w).alloc (Nat.le_refl _) _).trans (hb.mono (by simp))) | (exact (Below.refl w.heap.size w).alloc (Nat.le_refl _) _)⟩
            | false =>
              have e := hide (show itemOk ⟨2, ⟨a, b, c, d⟩, co, false⟩ = true by simp [itemOk, rigidB, plainB, costB, hg, r1, p1])
              clear hg
              go_enter Try.func24, Try.ntmps24
              go_wp2_with (go_at_call 72; refine (gv.out _).mono ?_; rintro e w' ⟨rfl, hb⟩; obtain ⟨hcc, hff⟩ := bcell hb)
              go_ret
              exact ⟨by rw [e.out]; rfl, by first | (exact ((Below.refl w.heap.size w).alloc (Nat.le_refl _) _).trans (hb.mono (by simp))) | (exact (Below.refl w.heap.size w).alloc (Nat.le_refl _) _)⟩
        · by_cases k3 : k = 3
          · subst k3
            cases p1 : (co == 0) with
            | false =>
              have e := hide (show itemOk ⟨3, ⟨a, b, c, d⟩, co, m⟩ = false by simp [itemOk, rigidB, plainB, costB, hg, r1])
              clear hg
              go_enter Try.func24, Try.ntmps24
              go_wp2_with (go_at_call 72; refine (gv.out _).mono ?_; rintro e w' ⟨rfl, hb⟩; obtain ⟨hcc, hff⟩ := bcell hb)
              go_ret
              exact ⟨by rw [e.out]; rfl, by first | (exact ((Below.refl w.heap.size w).alloc (Nat.le_refl _) _).trans (hb.mono (by simp))) | (exact (Below.refl w.heap.size w).alloc (Nat.le_refl _) _)⟩
            | true =>
              cases m with
              | true =>
                have e := hide (show itemOk ⟨3, ⟨a, b, c, d⟩, co, true⟩ = false by simp [itemOk, rigidB, plainB, costB, hg, r1])
                clear hg
                go_enter Try.func24, Try.ntmps24
                go_wp2_with (go_at_call 72; refine (gv.out _).mono ?_; rintro e w' ⟨rfl, hb⟩; obtain ⟨hcc, hff⟩ := bcell hb)
                go_ret
                exact ⟨by rw [e.out]; rfl, by first | (exact ((Below.refl w.heap.size w).alloc (Nat.le_refl _) _).trans (hb.mono (by simp))) | (exact (Below.refl w.heap.size w).alloc (Nat.le_refl _) _)⟩
              | false =>
                have e := hide (show itemOk ⟨3, ⟨a, b, c, d⟩, co, false⟩ = false by simp [itemOk, rigidB, plainB, costB, hg, r1])
                clear hg
                go_enter Try.func24, Try.ntmps24
                go_wp2_with (go_at_call 72; refine (gv.out _).mono ?_; rintro e w' ⟨rfl, hb⟩; obtain ⟨hcc, hff⟩ := bcell hb)
                go_ret
                exact ⟨by rw [e.out]; rfl, by first | (exact ((Below.refl w.heap.size w).alloc (Nat.le_refl _) _).trans (hb.mono (by simp))) | (exact (Below.refl w.heap.size w).alloc (Nat.le_refl _) _)⟩
          · have d1 : (k == 1) = false := by simpa using k1
            have d2 : (k == 2) = false := by simpa using k2
            have d3 : (k == 3) = false := by simpa using k3
            cases p1 : (co == 0) with
            | false =>
              have e := hide (show itemOk ⟨k, ⟨a, b, c, d⟩, co, m⟩ = false by simp [itemOk, rigidB, plainB, costB, hg, r1, k1, k2, k3])
              clear hg
              go_enter Try.func24, Try.ntmps24
              go_wp2_with (go_at_call 72; refine (gv.out _).mono ?_; rintro e w' ⟨rfl, hb⟩; obtain ⟨hcc, hff⟩ := bcell hb)
              go_ret
              exact ⟨by rw [e.out]; rfl, by first | (exact ((Below.refl w.heap.size w).alloc (Nat.le_refl _) _).trans (hb.mono (by simp))) | (exact (Below.refl w.heap.size w).alloc (Nat.le_refl _) _)⟩
            | true =>
              cases m with
              | true =>
                have e := hide (show itemOk ⟨k, ⟨a, b, c, d⟩, co, true⟩ = false by simp [itemOk, rigidB, plainB, costB, hg, r1, k1, k2, k3])
                clear hg
                go_enter Try.func24, Try.ntmps24
                go_wp2_with (go_at_call 72; refine (gv.out _).mono ?_; rintro e w' ⟨rfl, hb⟩; obtain ⟨hcc, hff⟩ := bcell hb)
                go_ret
                exact ⟨by rw [e.out]; rfl, by first | (exact ((Below.refl w.heap.size w).alloc (Nat.le_refl _) _).trans (hb.mono (by simp))) | (exact (Below.refl w.heap.size w).alloc (Nat.le_refl _) _)⟩
              | false =>
                have e := hide (show itemOk ⟨k, ⟨a, b, c, d⟩, co, false⟩ = false by simp [itemOk, rigidB, plainB, costB, hg, r1, k1, k2, k3])
                clear hg
                go_enter Try.func24, Try.ntmps24
                go_wp2_with (go_at_call 72; refine (gv.out _).mono ?_; rintro e w' ⟨rfl, hb⟩; obtain ⟨hcc, hff⟩ := bcell hb)
                go_ret
                exact ⟨by rw [e.out]; rfl, by first | (exact ((Below.refl w.heap.size w).alloc (Nat.le_refl _) _).trans (hb.mono (by simp))) | (exact (Below.refl w.heap.size w).alloc (Nat.le_refl _) _)⟩
    | true =>
      cases r2 : (c == 0) with
      | false =>
        by_cases k1 : k = 1
        · subst k1
          cases p1 : (co == 0) with
          | false =>
            have e := hide (show itemOk ⟨1, ⟨a, b, c, d⟩, co, m⟩ = false by simp [itemOk, rigidB, plainB, costB, hg, r1, r2, p1])
            clear hg
            go_enter Try.func24, Try.ntmps24
            go_wp2_with (go_at_call 72; refine (gv.out _).mono ?_; rintro e w' ⟨rfl, hb⟩; obtain ⟨hcc, hff⟩ := bcell hb)
            go_ret
            exact ⟨by rw [e.out]; rfl, by first | (exact ((Below.refl w.heap.size w).alloc (Nat.le_refl _) _).trans (hb.mono (by simp))) | (exact (Below.refl w.heap.size w).alloc (Nat.le_refl _) _)⟩
          | true =>
            cases m with
            | true =>
              have e := hide (show itemOk ⟨1, ⟨a, b, c, d⟩, co, true⟩ = false by simp [itemOk, rigidB, plainB, costB, hg, r1, r2, p1])
              clear hg
              go_enter Try.func24, Try.ntmps24
              go_wp2_with (go_at_call 72; refine (gv.out _).mono ?_; rintro e w' ⟨rfl, hb⟩; obtain ⟨hcc, hff⟩ := bcell hb)
              go_ret
              exact ⟨by rw [e.out]; rfl, by first | (exact ((Below.refl w.heap.size w).alloc (Nat.le_refl _) _).trans (hb.mono (by simp))) | (exact (Below.refl w.heap.size w).alloc (Nat.le_refl _) _)⟩
            | false =>
              have e := hide (show itemOk ⟨1, ⟨a, b, c, d⟩, co, false⟩ = false by simp [itemOk, rigidB, plainB, costB, hg, r1, r2, p1])
              clear hg
              go_enter Try.func24, Try.ntmps24
              go_wp2_with (go_at_call 72; refine (gv.out _).mono ?_; rintro e w' ⟨rfl, hb⟩; obtain ⟨hcc, hff⟩ := bcell hb)
              go_ret
              exact ⟨by rw [e.out]; rfl, by first | (exact ((Below.refl w.heap.size w).alloc (Nat.le_refl _) _).trans (hb.mono (by simp))) | (exact (Below.refl w.heap.size w).alloc (Nat.le_refl _) _)⟩
        · by_cases k2 : k = 2
          · subst k2
            cases p1 : (co == 0) with
            | false =>
              have e := hide (show itemOk ⟨2, ⟨a, b, c, d⟩, co, m⟩ = false by simp [itemOk, rigidB, plainB, costB, hg, r1, r2, p1])
              clear hg
              go_enter Try.func24, Try.ntmps24
              go_wp2_with (go_at_call 72; refine (gv.out _).mono ?_; rintro e w' ⟨rfl, hb⟩; obtain ⟨hcc, hff⟩ := bcell hb)
              go_ret
              exact ⟨by rw [e.out]; rfl, by first | (exact ((Below.refl w.heap.size w).alloc (Nat.le_refl _) _).trans (hb.mono (by simp))) | (exact (Below.refl w.heap.size w).alloc (Nat.le_refl _) _)⟩
            | true =>
              cases m with
              | true =>
                have e := hide (show itemOk ⟨2, ⟨a, b, c, d⟩, co, true⟩ = false by simp [itemOk, rigidB, plainB, costB, hg, r1, r2, p1])
                clear hg
                go_enter Try.func24, Try.ntmps24
                go_wp2_with (go_at_call 72; refine (gv.out _).mono ?_; rintro e w' ⟨rfl, hb⟩; obtain ⟨hcc, hff⟩ := bcell hb)
                go_ret
                exact ⟨by rw [e.out]; rfl, by first | (exact ((Below.refl w.heap.size w).alloc (Nat.le_refl _) _).trans (hb.mono (by simp))) | (exact (Below.refl w.heap.size w).alloc (Nat.le_refl _) _)⟩
              | false =>
                have e := hide (show itemOk ⟨2, ⟨a, b, c, d⟩, co, false⟩ = true by simp [itemOk, rigidB, plainB, costB, hg, r1, r2, p1])
                clear hg
                go_enter Try.func24, Try.ntmps24
                go_wp2_with (go_at_call 72; refine (gv.out _).mono ?_; rintro e w' ⟨rfl, hb⟩; obtain ⟨hcc, hff⟩ := bcell hb)
                go_ret
                exact ⟨by rw [e.out]; rfl, by first | (exact ((Below.refl w.heap.size w).alloc (Nat.le_refl _) _).trans (hb.mono (by simp))) | (exact (Below.refl w.heap.size w).alloc (Nat.le_refl _) _)⟩
          · by_cases k3 : k = 3
            · subst k3
              cases p1 : (co == 0) with
              | false =>
                have e := hide (show itemOk ⟨3, ⟨a, b, c, d⟩, co, m⟩ = false by simp [itemOk, rigidB, plainB, costB, hg, r1, r2])
                clear hg
                go_enter Try.func24, Try.ntmps24
                go_wp2_with (go_at_call 72; refine (gv.out _).mono ?_; rintro e w' ⟨rfl, hb⟩; obtain ⟨hcc, hff⟩ := bcell hb)
                go_ret
                exact ⟨by rw [e.out]; rfl, by first | (exact ((Below.refl w.heap.size w).alloc (Nat.le_refl _) _).trans (hb.mono (by simp))) | (exact (Below.refl w.heap.size w).alloc (Nat.le_refl _) _)⟩
              | true =>
                cases m with
                | true =>
                  have e := hide (show itemOk ⟨3, ⟨a, b, c, d⟩, co, true⟩ = false by simp [itemOk, rigidB, plainB, costB, hg, r1, r2])
                  clear hg
                  go_enter Try.func24, Try.ntmps24
                  go_wp2_with (go_at_call 72; refine (gv.out _).mono ?_; rintro e w' ⟨rfl, hb⟩; obtain ⟨hcc, hff⟩ := bcell hb)
                  go_ret
                  exact ⟨by rw [e.out]; rfl, by first | (exact ((Below.refl w.heap.size w).alloc (Nat.le_refl _) _).trans (hb.mono (by simp))) | (exact (Below.refl w.heap.size w).alloc (Nat.le_refl _) _)⟩
                | false =>
                  have e := hide (show itemOk ⟨3, ⟨a, b, c, d⟩, co, false⟩ = false by simp [itemOk, rigidB, plainB, costB, hg, r1, r2])
                  clear hg
                  go_enter Try.func24, Try.ntmps24
                  go_wp2_with (go_at_call 72; refine (gv.out _).mono ?_; rintro e w' ⟨rfl, hb⟩; obtain ⟨hcc, hff⟩ := bcell hb)
                  go_ret
                  exact ⟨by rw [e.out]; rfl, by first | (exact ((Below.refl w.heap.size w).alloc (Nat.le_refl _) _).trans (hb.mono (by simp))) | (exact (Below.refl w.heap.size w).alloc (Nat.le_refl _) _)⟩
            · have d1 : (k == 1) = false := by simpa using k1
              have d2 : (k == 2) = false := by simpa using k2
              have d3 : (k == 3) = false := by simpa using k3
              cases p1 : (co == 0) with
              | false =>
                have e := hide (show itemOk ⟨k, ⟨a, b, c, d⟩, co, m⟩ = false by simp [itemOk, rigidB, plainB, costB, hg, r1, r2, k1, k2, k3])
                clear hg
                go_enter Try.func24, Try.ntmps24
                go_wp2_with (go_at_call 72; refine (gv.out _).mono ?_; rintro e w' ⟨rfl, hb⟩; obtain ⟨hcc, hff⟩ := bcell hb)
                go_ret
                exact ⟨by rw [e.out]; rfl, by first | (exact ((Below.refl w.heap.size w).alloc (Nat.le_refl _) _).trans (hb.mono (by simp))) | (exact (Below.refl w.heap.size w).alloc (Nat.le_refl _) _)⟩
              | true =>
                cases m with
                | true =>
                  have e := hide (show itemOk ⟨k, ⟨a, b, c, d⟩, co, true⟩ = false by simp [itemOk, rigidB, plainB, costB, hg, r1, r2, k1, k2, k3])
                  clear hg
                  go_enter Try.func24, Try.ntmps24
                  go_wp2_with (go_at_call 72; refine (gv.out _).mono ?_; rintro e w' ⟨rfl, hb⟩; obtain ⟨hcc, hff⟩ := bcell hb)
                  go_ret
                  exact ⟨by rw [e.out]; rfl, by first | (exact ((Below.refl w.heap.size w).alloc (Nat.le_refl _) _).trans (hb.mono (by simp))) | (exact (Below.refl w.heap.size w).alloc (Nat.le_refl _) _)⟩
                | false =>
                  have e := hide (show itemOk ⟨k, ⟨a, b, c, d⟩, co, false⟩ = false by simp [itemOk, rigidB, plainB, costB, hg, r1, r2, k1, k2, k3])
                  clear hg
                  go_enter Try.func24, Try.ntmps24
                  go_wp2_with (go_at_call 72; refine (gv.out _).mono ?_; rintro e w' ⟨rfl, hb⟩; obtain ⟨hcc, hff⟩ := bcell hb)
                  go_ret
                  exact ⟨by rw [e.out]; rfl, by first | (exact ((Below.refl w.heap.size w).alloc (Nat.le_refl _) _).trans (hb.mono (by simp))) | (exact (Below.refl w.heap.size w).alloc (Nat.le_refl _) _)⟩
      | true =>
        cases r3 : (d == 0) with
        | false =>
          by_cases k1 : k = 1
          · subst k1
            cases p1 : (co == 0) with
            | false =>
              have e := hide (show itemOk ⟨1, ⟨a, b, c, d⟩, co, m⟩ = false by simp [itemOk, rigidB, plainB, costB, hg, r1, r2, r3, p1])
              clear hg
              go_enter Try.func24, Try.ntmps24
              go_wp2_with (go_at_call 72; refine (gv.out _).mono ?_; rintro e w' ⟨rfl, hb⟩; obtain ⟨hcc, hff⟩ := bcell hb)
              go_ret
              exact ⟨by rw [e.out]; rfl, by first | (exact ((Below.refl w.heap.size w).alloc (Nat.le_refl _) _).trans (hb.mono (by simp))) | (exact (Below.refl w.heap.size w).alloc (Nat.le_refl _) _)⟩
            | true =>
              cases m with
              | true =>
                have e := hide (show itemOk ⟨1, ⟨a, b, c, d⟩, co, true⟩ = false by simp [itemOk, rigidB, plainB, costB, hg, r1, r2, r3, p1])
                clear hg
                go_enter Try.func24, Try.ntmps24
                go_wp2_with (go_at_call 72; refine (gv.out _).mono ?_; rintro e w' ⟨rfl, hb⟩; obtain ⟨hcc, hff⟩ := bcell hb)
                go_ret
                exact ⟨by rw [e.out]; rfl, by first | (exact ((Below.refl w.heap.size w).alloc (Nat.le_refl _) _).trans (hb.mono (by simp))) | (exact (Below.refl w.heap.size w).alloc (Nat.le_refl _) _)⟩
              | false =>
                have e := hide (show itemOk ⟨1, ⟨a, b, c, d⟩, co, false⟩ = false by simp [itemOk, rigidB, plainB, costB, hg, r1, r2, r3, p1])
                clear hg
                go_enter Try.func24, Try.ntmps24
                go_wp2_with (go_at_call 72; refine (gv.out _).mono ?_; rintro e w' ⟨rfl, hb⟩; obtain ⟨hcc, hff⟩ := bcell hb)
                go_ret
                exact ⟨by rw [e.out]; rfl, by first | (exact ((Below.refl w.heap.size w).alloc (Nat.le_refl _) _).trans (hb.mono (by simp))) | (exact (Below.refl w.heap.size w).alloc (Nat.le_refl _) _)⟩
          · by_cases k2 : k = 2
            · subst k2
              cases p1 : (co == 0) with
              | false =>
                have e := hide (show itemOk ⟨2, ⟨a, b, c, d⟩, co, m⟩ = false by simp [itemOk, rigidB, plainB, costB, hg, r1, r2, r3, p1])
                clear hg
                go_enter Try.func24, Try.ntmps24
                go_wp2_with (go_at_call 72; refine (gv.out _).mono ?_; rintro e w' ⟨rfl, hb⟩; obtain ⟨hcc, hff⟩ := bcell hb)
                go_ret
                exact ⟨by rw [e.out]; rfl, by first | (exact ((Below.refl w.heap.size w).alloc (Nat.le_refl _) _).trans (hb.mono (by simp))) | (exact (Below.refl w.heap.size w).alloc (Nat.le_refl _) _)⟩
              | true =>
                cases m with
                | true =>
                  have e := hide (show itemOk ⟨2, ⟨a, b, c, d⟩, co, true⟩ = false by simp [itemOk, rigidB, plainB, costB, hg, r1, r2, r3, p1])
                  clear hg
                  go_enter Try.func24, Try.ntmps24
                  go_wp2_with (go_at_call 72; refine (gv.out _).mono ?_; rintro e w' ⟨rfl, hb⟩; obtain ⟨hcc, hff⟩ := bcell hb)
                  go_ret
                  exact ⟨by rw [e.out]; rfl, by first | (exact ((Below.refl w.heap.size w).alloc (Nat.le_refl _) _).trans (hb.mono (by simp))) | (exact (Below.refl w.heap.size w).alloc (Nat.le_refl _) _)⟩
                | false =>
                  have e := hide (show itemOk ⟨2, ⟨a, b, c, d⟩, co, false⟩ = true by simp [itemOk, rigidB, plainB, costB, hg, r1, r2, r3, p1])
                  clear hg
                  go_enter Try.func24, Try.ntmps24
                  go_wp2_with (go_at_call 72; refine (gv.out _).mono ?_; rintro e w' ⟨rfl, hb⟩; obtain ⟨hcc, hff⟩ := bcell hb)
                  go_ret
                  exact ⟨by rw [e.out]; rfl, by first | (exact ((Below.refl w.heap.size w).alloc (Nat.le_refl _) _).trans (hb.mono (by simp))) | (exact (Below.refl w.heap.size w).alloc (Nat.le_refl _) _)⟩
            · by_cases k3 : k = 3
              · subst k3
                cases p1 : (co == 0) with
                | false =>
                  have e := hide (show itemOk ⟨3, ⟨a, b, c, d⟩, co, m⟩ = false by simp [itemOk, rigidB, plainB, costB, hg, r1, r2, r3])
                  clear hg
                  go_enter Try.func24, Try.ntmps24
                  go_wp2_with (go_at_call 72; refine (gv.out _).mono ?_; rintro e w' ⟨rfl, hb⟩; obtain ⟨hcc, hff⟩ := bcell hb)
                  go_ret
                  exact ⟨by rw [e.out]; rfl, by first | (exact ((Below.refl w.heap.size w).alloc (Nat.le_refl _) _).trans (hb.mono (by simp))) | (exact (Below.refl w.heap.size w).alloc (Nat.le_refl _) _)⟩
                | true =>
                  cases m with
                  | true =>
                    have e := hide (show itemOk ⟨3, ⟨a, b, c, d⟩, co, true⟩ = false by simp [itemOk, rigidB, plainB, costB, hg, r1, r2, r3])
                    clear hg
                    go_enter Try.func24, Try.ntmps24
                    go_wp2_with (go_at_call 72; refine (gv.out _).mono ?_; rintro e w' ⟨rfl, hb⟩; obtain ⟨hcc, hff⟩ := bcell hb)
                    go_ret
                    exact ⟨by rw [e.out]; rfl, by first | (exact ((Below.refl w.heap.size w).alloc (Nat.le_refl _) _).trans (hb.mono (by simp))) | (exact (Below.refl w.heap.size w).alloc (Nat.le_refl _) _)⟩
                  | false =>
                    have e := hide (show itemOk ⟨3, ⟨a, b, c, d⟩, co, false⟩ = false by simp [itemOk, rigidB, plainB, costB, hg, r1, r2, r3])
                    clear hg
                    go_enter Try.func24, Try.ntmps24
                    go_wp2_with (go_at_call 72; refine (gv.out _).mono ?_; rintro e w' ⟨rfl, hb⟩; obtain ⟨hcc, hff⟩ := bcell hb)
                    go_ret
                    exact ⟨by rw [e.out]; rfl, by first | (exact ((Below.refl w.heap.size w).alloc (Nat.le_refl _) _).trans (hb.mono (by simp))) | (exact (Below.refl w.heap.size w).alloc (Nat.le_refl _) _)⟩
              · have d1 : (k == 1) = false := by simpa using k1
                have d2 : (k == 2) = false := by simpa using k2
                have d3 : (k == 3) = false := by simpa using k3
                cases p1 : (co == 0) with
                | false =>
                  have e := hide (show itemOk ⟨k, ⟨a, b, c, d⟩, co, m⟩ = false by simp [itemOk, rigidB, plainB, costB, hg, r1, r2, r3, k1, k2, k3])
                  clear hg
                  go_enter Try.func24, Try.ntmps24
                  go_wp2_with (go_at_call 72; refine (gv.out _).mono ?_; rintro e w' ⟨rfl, hb⟩; obtain ⟨hcc, hff⟩ := bcell hb)
                  go_ret
                  exact ⟨by rw [e.out]; rfl, by first | (exact ((Below.refl w.heap.size w).alloc (Nat.le_refl _) _).trans (hb.mono (by simp))) | (exact (Below.refl w.heap.size w).alloc (Nat.le_refl _) _)⟩
                | true =>
                  cases m with
                  | true =>
                    have e := hide (show itemOk ⟨k, ⟨a, b, c, d⟩, co, true⟩ = false by simp [itemOk, rigidB, plainB, costB, hg, r1, r2, r3, k1, k2, k3])
                    clear hg
                    go_enter Try.func24, Try.ntmps24
                    go_wp2_with (go_at_call 72; refine (gv.out _).mono ?_; rintro e w' ⟨rfl, hb⟩; obtain ⟨hcc, hff⟩ := bcell hb)
                    go_ret
                    exact ⟨by rw [e.out]; rfl, by first | (exact ((Below.refl w.heap.size w).alloc (Nat.le_refl _) _).trans (hb.mono (by simp))) | (exact (Below.refl w.heap.size w).alloc (Nat.le_refl _) _)⟩
                  | false =>
                    have e := hide (show itemOk ⟨k, ⟨a, b, c, d⟩, co, false⟩ = false by simp [itemOk, rigidB, plainB, costB, hg, r1, r2, r3, k1, k2, k3])
                    clear hg
                    go_enter Try.func24, Try.ntmps24
                    go_wp2_with (go_at_call 72; refine (gv.out _).mono ?_; rintro e w' ⟨rfl, hb⟩; obtain ⟨hcc, hff⟩ := bcell hb)
                    go_ret
                    exact ⟨by rw [e.out]; rfl, by first | (exact ((Below.refl w.heap.size w).alloc (Nat.le_refl _) _).trans (hb.mono (by simp))) | (exact (Below.refl w.heap.size w).alloc (Nat.le_refl _) _)⟩
        | true =>
          by_cases k1 : k = 1
          · subst k1
            cases p1 : (co == 0) with
            | false =>
              have e := hide (show itemOk ⟨1, ⟨a, b, c, d⟩, co, m⟩ = false by simp [itemOk, rigidB, plainB, costB, hg, r1, r2, r3, p1])
              clear hg
              go_enter Try.func24, Try.ntmps24
              go_wp2_with (go_at_call 72; refine (gv.out _).mono ?_; rintro e w' ⟨rfl, hb⟩; obtain ⟨hcc, hff⟩ := bcell hb)
              go_ret
              exact ⟨by rw [e.out]; rfl, by first | (exact ((Below.refl w.heap.size w).alloc (Nat.le_refl _) _).trans (hb.mono (by simp))) | (exact (Below.refl w.heap.size w).alloc (Nat.le_refl _) _)⟩
            | true =>
              cases m with
              | true =>
                have e := hide (show itemOk ⟨1, ⟨a, b, c, d⟩, co, true⟩ = false by simp [itemOk, rigidB, plainB, costB, hg, r1, r2, r3, p1])
                clear hg
                go_enter Try.func24, Try.ntmps24
                go_wp2_with (go_at_call 72; refine (gv.out _).mono ?_; rintro e w' ⟨rfl, hb⟩; obtain ⟨hcc, hff⟩ := bcell hb)
                go_ret
                exact ⟨by rw [e.out]; rfl, by first | (exact ((Below.refl w.heap.size w).alloc (Nat.le_refl _) _).trans (hb.mono (by simp))) | (exact (Below.refl w.heap.size w).alloc (Nat.le_refl _) _)⟩
              | false =>
                have e := hide (show itemOk ⟨1, ⟨a, b, c, d⟩, co, false⟩ = true by simp [itemOk, rigidB, plainB, costB, hg, r1, r2, r3, p1])
                clear hg
                go_enter Try.func24, Try.ntmps24
                go_wp2_with (go_at_call 72; refine (gv.out _).mono ?_; rintro e w' ⟨rfl, hb⟩; obtain ⟨hcc, hff⟩ := bcell hb)
                go_ret
                exact ⟨by rw [e.out]; rfl, by first | (exact ((Below.refl w.heap.size w).alloc (Nat.le_refl _) _).trans (hb.mono (by simp))) | (exact (Below.refl w.heap.size w).alloc (Nat.le_refl _) _)⟩
          · by_cases k2 : k = 2
            · subst k2
              cases p1 : (co == 0) with
              | false =>
                have e := hide (show itemOk ⟨2, ⟨a, b, c, d⟩, co, m⟩ = false by simp [itemOk, rigidB, plainB, costB, hg, r1, r2, r3, p1])
                clear hg
                go_enter Try.func24, Try.ntmps24
                go_wp2_with (go_at_call 72; refine (gv.out _).mono ?_; rintro e w' ⟨rfl, hb⟩; obtain ⟨hcc, hff⟩ := bcell hb)
                go_ret
                exact ⟨by rw [e.out]; rfl, by first | (exact ((Below.refl w.heap.size w).alloc (Nat.le_refl _) _).trans (hb.mono (by simp))) | (exact (Below.refl w.heap.size w).alloc (Nat.le_refl _) _)⟩
              | true =>
                cases m with
                | true =>
                  have e := hide (show itemOk ⟨2, ⟨a, b, c, d⟩, co, true⟩ = false by simp [itemOk, rigidB, plainB, costB, hg, r1, r2, r3, p1])
                  clear hg
                  go_enter Try.func24, Try.ntmps24
                  go_wp2_with (go_at_call 72; refine (gv.out _).mono ?_; rintro e w' ⟨rfl, hb⟩; obtain ⟨hcc, hff⟩ := bcell hb)
                  go_ret
                  exact ⟨by rw [e.out]; rfl, by first | (exact ((Below.refl w.heap.size w).alloc (Nat.le_refl _) _).trans (hb.mono (by simp))) | (exact (Below.refl w.heap.size w).alloc (Nat.le_refl _) _)⟩
                | false =>
                  have e := hide (show itemOk ⟨2, ⟨a, b, c, d⟩, co, false⟩ = true by simp [itemOk, rigidB, plainB, costB, hg, r1, r2, r3, p1])
                  clear hg
                  go_enter Try.func24, Try.ntmps24
                  go_wp2_with (go_at_call 72; refine (gv.out _).mono ?_; rintro e w' ⟨rfl, hb⟩; obtain ⟨hcc, hff⟩ := bcell hb)
                  go_ret
                  exact ⟨by rw [e.out]; rfl, by first | (exact ((Below.refl w.heap.size w).alloc (Nat.le_refl _) _).trans (hb.mono (by simp))) | (exact (Below.refl w.heap.size w).alloc (Nat.le_refl _) _)⟩
            · by_cases k3 : k = 3
              · subst k3
                cases p1 : (co == 0) with
                | false =>
                  cases q1 : inB co 0 10000 with
                  | true =>
                    have pc : costB co = true := by simp [costB, q1]
                    have e := hide (show itemOk ⟨3, ⟨a, b, c, d⟩, co, m⟩ = true by simp [itemOk, rigidB, plainB, costB, hg, r1, r2, r3, q1])
                    clear hg
                    go_enter Try.func24, Try.ntmps24
                    go_wp2_with (first | (go_at_call 72; refine (gv.out _).mono ?_; rintro e w' ⟨rfl, hb⟩; obtain ⟨hcc, hff⟩ := bcell hb) | (go_at_call 73; refine (isCost_any _ _).mono ?_; rintro e w' ⟨rfl, rfl⟩))
                    go_ret
                    exact ⟨by rw [e.out]; rfl, by first | (exact ((Below.refl w.heap.size w).alloc (Nat.le_refl _) _).trans (hb.mono (by simp))) | (exact (Below.refl w.heap.size w).alloc (Nat.le_refl _) _)⟩
                  | false =>
                    cases q2 : (co == -10000) with
                    | true =>
                      have pc : costB co = true := by simp [costB, q1, q2]
                      have e := hide (show itemOk ⟨3, ⟨a, b, c, d⟩, co, m⟩ = true by simp [itemOk, rigidB, plainB, costB, hg, r1, r2, r3, q1, q2])
                      clear hg
                      go_enter Try.func24, Try.ntmps24
                      go_wp2_with (first | (go_at_call 72; refine (gv.out _).mono ?_; rintro e w' ⟨rfl, hb⟩; obtain ⟨hcc, hff⟩ := bcell hb) | (go_at_call 73; refine (isCost_any _ _).mono ?_; rintro e w' ⟨rfl, rfl⟩))
                      go_ret
                      exact ⟨by rw [e.out]; rfl, by first | (exact ((Below.refl w.heap.size w).alloc (Nat.le_refl _) _).trans (hb.mono (by simp))) | (exact (Below.refl w.heap.size w).alloc (Nat.le_refl _) _)⟩
                    | false =>
                      have pc : costB co = false := by simp [costB, q1, q2]
                      have e := hide (show itemOk ⟨3, ⟨a, b, c, d⟩, co, m⟩ = false by simp [itemOk, rigidB, plainB, costB, hg, r1, r2, r3, q1, q2])
                      clear hg
                      go_enter Try.func24, Try.ntmps24
                      go_wp2_with (first | (go_at_call 72; refine (gv.out _).mono ?_; rintro e w' ⟨rfl, hb⟩; obtain ⟨hcc, hff⟩ := bcell hb) | (go_at_call 73; refine (isCost_any _ _).mono ?_; rintro e w' ⟨rfl, rfl⟩))
                      go_ret
                      exact ⟨by rw [e.out]; rfl, by first | (exact ((Below.refl w.heap.size w).alloc (Nat.le_refl _) _).trans (hb.mono (by simp))) | (exact (Below.refl w.heap.size w).alloc (Nat.le_refl _) _)⟩
                | true =>
                  cases m with
                  | true =>
                    cases q1 : inB co 0 10000 with
                    | true =>
                      have pc : costB co = true := by simp [costB, q1]
                      have e := hide (show itemOk ⟨3, ⟨a, b, c, d⟩, co, true⟩ = true by simp [itemOk, rigidB, plainB, costB, hg, r1, r2, r3, q1])
                      clear hg
                      go_enter Try.func24, Try.ntmps24
                      go_wp2_with (first | (go_at_call 72; refine (gv.out _).mono ?_; rintro e w' ⟨rfl, hb⟩; obtain ⟨hcc, hff⟩ := bcell hb) | (go_at_call 73; refine (isCost_any _ _).mono ?_; rintro e w' ⟨rfl, rfl⟩))
                      go_ret
                      exact ⟨by rw [e.out]; rfl, by first | (exact ((Below.refl w.heap.size w).alloc (Nat.le_refl _) _).trans (hb.mono (by simp))) | (exact (Below.refl w.heap.size w).alloc (Nat.le_refl _) _)⟩
                    | false =>
                      cases q2 : (co == -10000) with
                      | true =>
                        have pc : costB co = true := by simp [costB, q1, q2]
                        have e := hide (show itemOk ⟨3, ⟨a, b, c, d⟩, co, true⟩ = true by simp [itemOk, rigidB, plainB, costB, hg, r1, r2, r3, q1, q2])
                        clear hg
                        go_enter Try.func24, Try.ntmps24
                        go_wp2_with (first | (go_at_call 72; refine (gv.out _).mono ?_; rintro e w' ⟨rfl, hb⟩; obtain ⟨hcc, hff⟩ := bcell hb) | (go_at_call 73; refine (isCost_any _ _).mono ?_; rintro e w' ⟨rfl, rfl⟩))
                        go_ret
                        exact ⟨by rw [e.out]; rfl, by first | (exact ((Below.refl w.heap.size w).alloc (Nat.le_refl _) _).trans (hb.mono (by simp))) | (exact (Below.refl w.heap.size w).alloc (Nat.le_refl _) _)⟩
                      | false =>
                        have pc : costB co = false := by simp [costB, q1, q2]
                        have e := hide (show itemOk ⟨3, ⟨a, b, c, d⟩, co, true⟩ = false by simp [itemOk, rigidB, plainB, costB, hg, r1, r2, r3, q1, q2])
                        clear hg
                        go_enter Try.func24, Try.ntmps24
                        go_wp2_with (first | (go_at_call 72; refine (gv.out _).mono ?_; rintro e w' ⟨rfl, hb⟩; obtain ⟨hcc, hff⟩ := bcell hb) | (go_at_call 73; refine (isCost_any _ _).mono ?_; rintro e w' ⟨rfl, rfl⟩))
                        go_ret
                        exact ⟨by rw [e.out]; rfl, by first | (exact ((Below.refl w.heap.size w).alloc (Nat.le_refl _) _).trans (hb.mono (by simp))) | (exact (Below.refl w.heap.size w).alloc (Nat.le_refl _) _)⟩
                  | false =>
                    cases q1 : inB co 0 10000 with
                    | true =>
                      have pc : costB co = true := by simp [costB, q1]
                      have e := hide (show itemOk ⟨3, ⟨a, b, c, d⟩, co, false⟩ = true by simp [itemOk, rigidB, plainB, costB, hg, r1, r2, r3, q1])
                      clear hg
                      go_enter Try.func24, Try.ntmps24
                      go_wp2_with (first | (go_at_call 72; refine (gv.out _).mono ?_; rintro e w' ⟨rfl, hb⟩; obtain ⟨hcc, hff⟩ := bcell hb) | (go_at_call 73; refine (isCost_any _ _).mono ?_; rintro e w' ⟨rfl, rfl⟩))
                      go_ret
                      exact ⟨by rw [e.out]; rfl, by first | (exact ((Below.refl w.heap.size w).alloc (Nat.le_refl _) _).trans (hb.mono (by simp))) | (exact (Below.refl w.heap.size w).alloc (Nat.le_refl _) _)⟩
                    | false =>
                      cases q2 : (co == -10000) with
                      | true =>
                        have pc : costB co = true := by simp [costB, q1, q2]
                        have e := hide (show itemOk ⟨3, ⟨a, b, c, d⟩, co, false⟩ = true by simp [itemOk, rigidB, plainB, costB, hg, r1, r2, r3, q1, q2])
                        clear hg
                        go_enter Try.func24, Try.ntmps24
                        go_wp2_with (first | (go_at_call 72; refine (gv.out _).mono ?_; rintro e w' ⟨rfl, hb⟩; obtain ⟨hcc, hff⟩ := bcell hb) | (go_at_call 73; refine (isCost_any _ _).mono ?_; rintro e w' ⟨rfl, rfl⟩))
                        go_ret
                        exact ⟨by rw [e.out]; rfl, by first | (exact ((Below.refl w.heap.size w).alloc (Nat.le_refl _) _).trans (hb.mono (by simp))) | (exact (Below.refl w.heap.size w).alloc (Nat.le_refl _) _)⟩
                      | false =>
                        have pc : costB co = false := by simp [costB, q1, q2]
                        have e := hide (show itemOk ⟨3, ⟨a, b, c, d⟩, co, false⟩ = false by simp [itemOk, rigidB, plainB, costB, hg, r1, r2, r3, q1, q2])
                        clear hg
                        go_enter Try.func24, Try.ntmps24
                        go_wp2_with (first | (go_at_call 72; refine (gv.out _).mono ?_; rintro e w' ⟨rfl, hb⟩; obtain ⟨hcc, hff⟩ := bcell hb) | (go_at_call 73; refine (isCost_any _ _).mono ?_; rintro e w' ⟨rfl, rfl⟩))
                        go_ret
                        exact ⟨by rw [e.out]; rfl, by first | (exact ((Below.refl w.heap.size w).alloc (Nat.le_refl _) _).trans (hb.mono (by simp))) | (exact (Below.refl w.heap.size w).alloc (Nat.le_refl _) _)⟩
              · have d1 : (k == 1) = false := by simpa using k1
                have d2 : (k == 2) = false := by simpa using k2
                have d3 : (k == 3) = false := by simpa using k3
                cases p1 : (co == 0) with
                | false =>
                  have e := hide (show itemOk ⟨k, ⟨a, b, c, d⟩, co, m⟩ = false by simp [itemOk, rigidB, plainB, costB, hg, r1, r2, r3, k1, k2, k3])
                  clear hg
                  go_enter Try.func24, Try.ntmps24
                  go_wp2_with (go_at_call 72; refine (gv.out _).mono ?_; rintro e w' ⟨rfl, hb⟩; obtain ⟨hcc, hff⟩ := bcell hb)
                  go_ret
                  exact ⟨by rw [e.out]; rfl, by first | (exact ((Below.refl w.heap.size w).alloc (Nat.le_refl _) _).trans (hb.mono (by simp))) | (exact (Below.refl w.heap.size w).alloc (Nat.le_refl _) _)⟩
                | true =>
                  cases m with
                  | true =>
                    have e := hide (show itemOk ⟨k, ⟨a, b, c, d⟩, co, true⟩ = false by simp [itemOk, rigidB, plainB, costB, hg, r1, r2, r3, k1, k2, k3])
                    clear hg
                    go_enter Try.func24, Try.ntmps24
                    go_wp2_with (go_at_call 72; refine (gv.out _).mono ?_; rintro e w' ⟨rfl, hb⟩; obtain ⟨hcc, hff⟩ := bcell hb)
                    go_ret
                    exact ⟨by rw [e.out]; rfl, by first | (exact ((Below.refl w.heap.size w).alloc (Nat.le_refl _) _).trans (hb.mono (by simp))) | (exact (Below.refl w.heap.size w).alloc (Nat.le_refl _) _)⟩
                  | false =>
                    have e := hide (show itemOk ⟨k, ⟨a, b, c, d⟩, co, false⟩ = false by simp [itemOk, rigidB, plainB, costB, hg, r1, r2, r3, k1, k2, k3])
                    clear hg
                    go_enter Try.func24, Try.ntmps24
                    go_wp2_with (go_at_call 72; refine (gv.out _).mono ?_; rintro e w' ⟨rfl, hb⟩; obtain ⟨hcc, hff⟩ := bcell hb)
                    go_ret
                    exact ⟨by rw [e.out]; rfl, by first | (exact ((Below.refl w.heap.size w).alloc (Nat.le_refl _) _).trans (hb.mono (by simp))) | (exact (Below.refl w.heap.size w).alloc (Nat.le_refl _) _)⟩
end Go.Proofs.Ytocaonlmlafjmaa
