/- The walks through where a line may end, and where it starts. Condition: the slice reads as the list. -/
import Derived.Test.YtocaonlmlafjmaaItems
namespace Go.Proofs.Ytocaonlmlafjmaa
open Go.RowKit
set_option linter.unusedVariables false
set_option linter.unusedSimpArgs false

theorem may_other {l : List I} {q : Nat} {x : I} (hx : l[q]? = some x) (h : (x.k == 2) = false) : mayB l q = ((x.k == 3) && decide (x.c < 10000)) := by
  have : ¬ x.k = 2 := by simpa using h
  unfold mayB; rw [hx]; simp [this]
theorem may_zero {l : List I} {x : I} (hx : l[0]? = some x) (h : (x.k == 2) = true) : mayB l 0 = false := by
  have : x.k = 2 := by simpa using h
  unfold mayB; rw [hx]; simp [this]
theorem may_glue {l : List I} {q : Nat} {x y : I} (hx : l[q]? = some x) (h : (x.k == 2) = true) (h0 : 0 < q) (hy : l[q - 1]? = some y) : mayB l q = (y.k == 1) := by
  have : x.k = 2 := by simpa using h
  unfold mayB; rw [hx, hy]; simp [this, h0]
theorem mayI_nat {l : List I} {q n : Nat} (hl : l.length = n) (h : q < n) : mayI l (q : Int) = mayB l q := by
  unfold mayI
  rw [inB_mk (by omega), Bool.true_and, Int.toNat_natCast]
theorem mayI_no {l : List I} {t : Int} {n : Nat} (hl : l.length = n) (h : inB t 0 ((n : Int) - 1) = false) : mayI l t = false := by
  unfold mayI
  rw [hl, h]; rfl
set_option maxRecDepth 100000 in
set_option maxHeartbeats 1000000 in
theorem specBreak (A : Option Addr) (n c q : Nat) (l : List I) (w : World) (hn : n ≤ maxLen) (hl : l.length = n) (h : Rd w 7 A n (cellsI l)) (hq : q < n) :
    Calls Try.prog 78 #[.slice A n c, .int .i64 (q : Int)] w fun e w' => e = .returned (.bool (mayB l q)) ∧ w = w' := by
  have hl' := hide hl
  clear hl
  unfold maxLen at hn
  obtain ⟨b, off, x, rfl, hbk, hx, c0, c1, c2, c3, c4, c5, c6⟩ := h.item hl'.out hq
  have hx' := hide hx
  have hqi : (q : Int) < (n : Int) := by omega
  have hq0 : (0 : Int) ≤ (q : Int) := by omega
  clear hx
  cases k2 : (x.k == 2) with
  | false =>
    cases k3 : (x.k == 3) with
    | false =>
      have e := hide (show mayB l q = false by rw [may_other hx'.out k2, k3]; rfl)
      go_enter Try.func78, Try.ntmps78
      go_wp2
      go_ret
      exact ⟨ret_bool e.out.symm, rfl⟩
    | true =>
      have e := hide (show mayB l q = decide (x.c < 10000) by rw [may_other hx'.out k2, k3]; rfl)
      go_enter Try.func78, Try.ntmps78
      go_wp2
      go_ret
      exact ⟨ret_bool e.out.symm, rfl⟩
  | true =>
    by_cases h0 : 0 < q
    · obtain ⟨b2, off2, y, hA, hbk2, hy, e0, e1, e2, e3, e4, e5, e6⟩ := h.item hl'.out (show q - 1 < n by omega)
      injection hA with hA
      injection hA with hA1 hA2
      subst hA1
      subst hA2
      have e := hide (may_glue hx'.out k2 h0 hy)
      have g1 : (1 : Int) ≤ (q : Int) := by omega
      have g2 : (0 : Int) ≤ (q : Int) - 1 := by omega
      have g3 : (q : Int) - 1 < (n : Int) := by omega
      have g4 : ((q : Int) - 1).toNat = q - 1 := by omega
      clear hy
      go_enter Try.func78, Try.ntmps78
      go_wp2
      go_ret
      exact ⟨ret_bool e.out.symm, rfl⟩
    · obtain rfl : q = 0 := by omega
      have e := hide (may_zero hx'.out k2)
      simp only [Nat.zero_mul, Nat.add_zero] at c0 c1 c2 c3 c4 c5 c6
      clear h0
      go_enter Try.func78, Try.ntmps78
      go_wp2
      go_ret
      exact ⟨ret_bool e.out.symm, rfl⟩
set_option maxRecDepth 100000 in
set_option maxHeartbeats 1000000 in
theorem implMayN (A : Option Addr) (n c q : Nat) (l : List I) (w : World) (hn : n ≤ maxLen) (hl : l.length = n) (h : Rd w 7 A n (cellsI l)) (hq : q < n) :
    Calls Try.prog 79 #[.slice A n c, .int .i64 (q : Int)] w fun e w' => e = .returned (.bool (mayB l q)) ∧ w = w' := by
  have hl' := hide hl
  clear hl
  unfold maxLen at hn
  obtain ⟨b, off, x, rfl, hbk, hx, c0, c1, c2, c3, c4, c5, c6⟩ := h.item hl'.out hq
  have hx' := hide hx
  have hqi : (q : Int) < (n : Int) := by omega
  have hq0 : (0 : Int) ≤ (q : Int) := by omega
  clear hx
  cases k2 : (x.k == 2) with
  | false =>
    cases k3 : (x.k == 3) with
    | false =>
      have e := hide (show mayB l q = false by rw [may_other hx'.out k2, k3]; rfl)
      have hin : inB (q : Int) 0 ((n : Int) - 1) = true := inB_mk (by omega)
      go_enter Try.func79, Try.ntmps79
      go_wp2_with (go_at_call 82; refine (in_any _ _ _ _).mono ?_; rintro e w' ⟨rfl, rfl⟩)
      go_ret
      exact ⟨ret_bool e.out.symm, rfl⟩
    | true =>
      have e := hide (show mayB l q = decide (x.c < 10000) by rw [may_other hx'.out k2, k3]; rfl)
      have hin : inB (q : Int) 0 ((n : Int) - 1) = true := inB_mk (by omega)
      go_enter Try.func79, Try.ntmps79
      go_wp2_with (go_at_call 82; refine (in_any _ _ _ _).mono ?_; rintro e w' ⟨rfl, rfl⟩)
      go_ret
      exact ⟨ret_bool e.out.symm, rfl⟩
  | true =>
    by_cases h0 : 0 < q
    · obtain ⟨b2, off2, y, hA, hbk2, hy, e0, e1, e2, e3, e4, e5, e6⟩ := h.item hl'.out (show q - 1 < n by omega)
      injection hA with hA
      injection hA with hA1 hA2
      subst hA1
      subst hA2
      have e := hide (may_glue hx'.out k2 h0 hy)
      have g1 : (1 : Int) ≤ (q : Int) := by omega
      have g2 : (0 : Int) ≤ (q : Int) - 1 := by omega
      have g3 : (q : Int) - 1 < (n : Int) := by omega
      have g4 : ((q : Int) - 1).toNat = q - 1 := by omega
      clear hy
      have hin : inB (q : Int) 0 ((n : Int) - 1) = true := inB_mk (by omega)
      go_enter Try.func79, Try.ntmps79
      go_wp2_with (go_at_call 82; refine (in_any _ _ _ _).mono ?_; rintro e w' ⟨rfl, rfl⟩)
      go_ret
      exact ⟨ret_bool e.out.symm, rfl⟩
    · obtain rfl : q = 0 := by omega
      have e := hide (may_zero hx'.out k2)
      simp only [Nat.zero_mul, Nat.add_zero] at c0 c1 c2 c3 c4 c5 c6
      clear h0
      have hin : inB 0 0 ((n : Int) - 1) = true := inB_mk (by omega)
      go_enter Try.func79, Try.ntmps79
      go_wp2_with (go_at_call 82; refine (in_any _ _ _ _).mono ?_; rintro e w' ⟨rfl, rfl⟩)
      go_ret
      exact ⟨ret_bool e.out.symm, rfl⟩
theorem implMay0 (A : Option Addr) (n c : Nat) (l : List I) (t : Int) (w : World) (hn : n ≤ maxLen) (hl : l.length = n) (h : Rd w 7 A n (cellsI l)) :
    Calls Try.prog 79 #[.slice A n c, .int .i64 t] w fun e w' => e = .returned (.bool (mayI l t)) ∧ w = w' := by
  cases hin : inB t 0 ((n : Int) - 1) with
  | false =>
    rw [mayI_no hl hin]
    unfold maxLen at hn
    clear hl h
    go_enter Try.func79, Try.ntmps79
    go_wp2_with (go_at_call 82; refine (in_any _ _ _ _).mono ?_; rintro e w' ⟨rfl, rfl⟩)
    go_ret
    exact ⟨rfl, rfl⟩
  | true =>
    have hb := inB_true hin
    obtain ⟨q, rfl⟩ := Int.eq_ofNat_of_zero_le hb.1
    rw [mayI_nat hl (by omega)]
    exact implMayN A n c q l w hn hl h (by omega)
theorem implMay (A : Option Addr) (n c : Nat) (l : List I) (t : Int) (w : World) (hn : n ≤ maxLen) (hl : l.length = n) (h : Rd w 7 A n (cellsI l)) :
    Calls Try.prog 34 #[.slice A n c, .int .i64 t] w fun e w' => e = .returned (.bool (items60 l && mayI l t)) ∧ Below w.heap.size w w' := by
  have hv := hide (implItems A n c l w hn hl h)
  have hm := hide (fun W (hr : Rd W 7 A n (cellsI l)) => implMay0 A n c l t W hn hl hr)
  have h' := hide h
  clear hl hn h
  cases h60 : items60 l with
  | false =>
    rw [h60] at hv
    clear h60
    go_enter Try.func34, Try.ntmps34
    go_wp2_with fail
    refine hv.out.mono ?_
    rintro e w1 ⟨rfl, hb1⟩
    have hb1' := hide hb1
    clear hb1
    go_wp2
    go_ret
    exact ⟨rfl, hb1'.out⟩
  | true =>
    rw [h60] at hv
    clear h60
    go_enter Try.func34, Try.ntmps34
    go_wp2_with fail
    refine hv.out.mono ?_
    rintro e w1 ⟨rfl, hb1⟩
    have hb1' := hide hb1
    clear hb1
    go_wp2_with fail
    refine (hm.out _ (h'.out.below hb1'.out)).mono ?_
    rintro e w' ⟨rfl, rfl⟩
    go_wp2
    go_ret
    exact ⟨rfl, hb1'.out⟩
theorem specMay (A : Option Addr) (n c : Nat) (l : List I) (t : Int) (w : World) (hn : n ≤ maxLen) (hl : l.length = n) (h : Rd w 7 A n (cellsI l)) :
    Calls Try.prog 33 #[.slice A n c, .int .i64 t] w fun e w' => e = .returned (.bool (items60 l && mayI l t)) ∧ Below w.heap.size w w' := by
  have hv := hide (specItems A n c l w hn hl h)
  have hm := hide (fun W (hr : Rd W 7 A n (cellsI l)) (q : Nat) (hq : q < n) => specBreak A n c q l W hn hl hr hq)
  have h' := hide h
  have hl' := hide hl
  unfold maxLen at hn
  clear hl h
  cases h60 : items60 l with
  | false =>
    rw [h60] at hv
    clear h60
    go_enter Try.func33, Try.ntmps33
    go_wp2_with fail
    refine hv.out.mono ?_
    rintro e w1 ⟨rfl, hb1⟩
    have hb1' := hide hb1
    clear hb1
    go_wp2
    go_ret
    exact ⟨rfl, hb1'.out⟩
  | true =>
    rw [h60] at hv
    clear h60
    cases hin : inB t 0 ((n : Int) - 1) with
    | false =>
      rw [mayI_no hl'.out hin]
      go_enter Try.func33, Try.ntmps33
      go_wp2_with fail
      refine hv.out.mono ?_
      rintro e w1 ⟨rfl, hb1⟩
      have hb1' := hide hb1
      clear hb1
      go_wp2_with (go_at_call 70; refine (l1In_any _ _ _ _).mono ?_; rintro e w' ⟨rfl, rfl⟩)
      go_ret
      exact ⟨rfl, hb1'.out⟩
    | true =>
      have hb := inB_true hin
      obtain ⟨q, rfl⟩ := Int.eq_ofNat_of_zero_le hb.1
      have hqn : q < n := by omega
      rw [mayI_nat hl'.out hqn]
      clear hb
      go_enter Try.func33, Try.ntmps33
      go_wp2_with fail
      refine hv.out.mono ?_
      rintro e w1 ⟨rfl, hb1⟩
      have hb1' := hide hb1
      clear hb1
      go_wp2_with fail
      refine (l1In_any _ _ _ _).mono ?_
      rintro e w' ⟨rfl, rfl⟩
      rw [hin]
      go_wp2_with fail
      refine (hm.out _ (h'.out.below hb1'.out) q hqn).mono ?_
      rintro e w' ⟨rfl, rfl⟩
      go_wp2
      go_ret
      exact ⟨rfl, hb1'.out⟩
theorem stop_one {x : I} (h : (x.k == 1) = true) : stopB x = true := by unfold stopB; rw [h]; rfl
theorem stop_three {x : I} (h : (x.k == 3) = true) (hc : x.c < 0) : stopB x = true := by unfold stopB; rw [h]; simp [hc]
theorem stop_no3 {x : I} (h1 : (x.k == 1) = false) (h : (x.k == 3) = false) : stopB x = false := by unfold stopB; rw [h1, h]; rfl
theorem stop_pos {x : I} (h1 : (x.k == 1) = false) (hc : ¬ x.c < 0) : stopB x = false := by unfold stopB; rw [h1]; simp [hc]
theorem bne_of {a b : Int} {v : Bool} (h : (a == b) = v) : (a != b) = !v := by unfold bne; rw [h]
theorem specStart (A : Option Addr) (n c q : Nat) (l : List I) (w : World) (hn : n ≤ maxLen) (hl : l.length = n) (h : Rd w 7 A n (cellsI l)) (hq : q ≤ n) :
    Calls Try.prog 81 #[.slice A n c, .int .i64 ((q : Int) - 1)] w fun e w' => e = .returned (.int .i64 (stA l q : Int)) ∧ w = w' := by
  have hl' := hide hl
  clear hl
  unfold maxLen at hn
  have g0 : (q : Int) - 1 + 1 = (q : Int) := by omega
  go_enter Try.func81, Try.ntmps81
  go_wp2
  go_loop [5] (fun i => ∃ k : Nat, k ≤ n ∧ i = .int .i64 k ∧ Hid (stA l q = stA l k)) (fun i => n - (intOf i).toNat)
  case atStart => exact ⟨q, hq, by first | rfl | (congr 1), rfl⟩
  case round =>
    obtain ⟨k, hk, rfl, hst⟩ := hrel
    by_cases hlt : k < n
    · obtain ⟨b, off, x, rfl, hbk, hx, c0, c1, c2, c3, c4, c5, c6⟩ := h.item hl'.out hlt
      have hx' := hide hx
      clear hx
      cases k1 : (x.k == 1) with
      | true =>
        have e := hide (hst.out.trans (stA_stop hx'.out (stop_one k1)))
        have b1 := bne_of k1
        go_wp2
        go_ret
        exact ⟨ret_int (by rw [e.out]), rfl⟩
      | false =>
        have b1 := bne_of k1
        cases k3 : (x.k == 3) with
        | false =>
          have e := hide (hst.out.trans (stA_go hx'.out (stop_no3 k1 k3)))
          have b3 := bne_of k3
          go_wp2
          go_round
          case rel => exact ⟨k + 1, by omega, by go_num, e.out⟩
          case measure => simp [intOf]; omega
        | true =>
          have b3 := bne_of k3
          by_cases hc : x.c < 0
          · have e := hide (hst.out.trans (stA_stop hx'.out (stop_three k3 hc)))
            have d : decide (0 ≤ x.c) = false := decide_eq_false (by omega)
            clear hc
            go_wp2
            go_ret
            exact ⟨ret_int (by rw [e.out]), rfl⟩
          · have e := hide (hst.out.trans (stA_go hx'.out (stop_pos k1 hc)))
            have d : 0 ≤ x.c := by omega
            clear hc
            go_wp2
            go_round
            case rel => exact ⟨k + 1, by omega, by go_num, e.out⟩
            case measure => simp [intOf]; omega
    · have e := hide (hst.out.trans (stA_end (by have := hl'.out; omega)))
      go_wp2
      go_ret
      exact ⟨ret_int (by rw [e.out]), rfl⟩
theorem forced_any (i : I) (w : World) :
    Calls Try.prog 105 #[.agg #[.int .i64 i.k, .int .i64 i.g.w, .int .i64 i.g.st, .int .i64 i.g.sh, .int .i64 i.g.o, .int .i64 i.c, .bool i.m]] w fun e w' => e = .returned (.bool (forcedB i)) ∧ Below w.heap.size w w' := by
  cases k3 : (i.k == 3) with
  | false =>
    have e := hide (show forcedB i = false by unfold forcedB; rw [k3]; rfl)
    go_enter Try.func105, Try.ntmps105
    go_wp2
    go_ret
    exact ⟨ret_bool e.out.symm, (Below.refl _ _).alloc (Nat.le_refl _) _⟩
  | true =>
    have e := hide (show forcedB i = (i.c == -10000) by unfold forcedB; rw [k3]; rfl)
    go_enter Try.func105, Try.ntmps105
    go_wp2
    go_ret
    exact ⟨ret_bool e.out.symm, (Below.refl _ _).alloc (Nat.le_refl _) _⟩
theorem implStart (A : Option Addr) (n c q : Nat) (l : List I) (w : World) (hn : n ≤ maxLen) (hl : l.length = n) (h : Rd w 7 A n (cellsI l)) (hq : q ≤ n) (hok : items60 l = true) :
    Calls Try.prog 83 #[.slice A n c, .int .i64 ((q : Int) - 1)] w fun e w' => e = .returned (.int .i64 (stA l q : Int)) ∧ Below w.heap.size w w' := by
  have hl' := hide hl
  have hok' := hide (items60_true hok).1
  clear hl hok
  unfold maxLen at hn
  have g0 : (q : Int) - 1 + 1 = (q : Int) := by omega
  go_enter Try.func83, Try.ntmps83
  go_wp2
  go_loopw [5] (fun i wr => ∃ k : Nat, k ≤ n ∧ i = .int .i64 k ∧ Hid (stA l q = stA l k) ∧ Below w.heap.size w wr) (fun i _ => n - (intOf i).toNat)
  case atStart => exact ⟨q, hq, by first | rfl | (congr 1), rfl, Below.refl _ _⟩
  case round =>
    obtain ⟨k, hk, rfl, hst, hw⟩ := hrel
    have hw' := hide hw
    have hws := hw.size
    by_cases hlt : k < n
    · obtain ⟨b, off, x, rfl, hbk, hx, c0, c1, c2, c3, c4, c5, c6⟩ := (h.below hw).item hl'.out hlt
      have hx' := hide hx
      have hf := hide (forced_iff (hok'.out x (List.mem_of_getElem? hx)))
      clear hx hw
      cases k1 : (x.k == 1) with
      | true =>
        have e := hide (hst.out.trans (stA_stop hx'.out (stop_one k1)))
        have b1 := bne_of k1
        go_wp2
        go_ret
        exact ⟨ret_int (by rw [e.out]), hw'.out⟩
      | false =>
        have b1 := bne_of k1
        cases kf : forcedB x with
        | true =>
          have e := hide (hst.out.trans (stA_stop hx'.out (by unfold stopB; rw [k1, Bool.false_or, ← hf.out]; exact kf)))
          go_wp2_with fail
          refine (forced_any x _).mono ?_
          rintro e w1 ⟨rfl, hb1⟩
          rw [kf]
          have hb2 := hide (hw'.out.trans (hb1.mono hws))
          clear hb1
          go_wp2
          go_ret
          exact ⟨ret_int (by rw [e.out]), hb2.out⟩
        | false =>
          have e := hide (hst.out.trans (stA_go hx'.out (by unfold stopB; rw [k1, Bool.false_or, ← hf.out]; exact kf)))
          go_wp2_with fail
          refine (forced_any x _).mono ?_
          rintro e w1 ⟨rfl, hb1⟩
          rw [kf]
          have hb2 := hide (hw'.out.trans (hb1.mono hws))
          clear hb1
          go_wp2
          go_roundw
          case rel => exact ⟨k + 1, by omega, by go_num, e.out, hb2.out⟩
          case measure => simp [intOf]; omega
    · have e := hide (hst.out.trans (stA_end (by have := hl'.out; omega)))
      clear hw
      go_wp2
      go_ret
      exact ⟨ret_int (by rw [e.out]), hw'.out⟩
end Go.Proofs.Ytocaonlmlafjmaa
