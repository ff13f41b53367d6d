/- The walks through where a line starts, with the checks. Condition: the slice reads as the list. -/
import Derived.Test.YtocaonlmlafjmaaBreak
namespace Go.Proofs.Ytocaonlmlafjmaa
open Go.RowKit
set_option linter.unusedVariables false
set_option linter.unusedSimpArgs false

theorem lineS_no60 {l : List I} {t : Int} (h : items60 l = false) : lineS l t = -1 := by
  unfold lineS; rw [h]; rfl
theorem lineS_noin {l : List I} {t : Int} {n : Nat} (hl : l.length = n) (h : inB t (-1) ((n : Int) - 1) = false) : lineS l t = -1 := by
  unfold lineS; rw [hl, h, Bool.and_false]; rfl
theorem lineS_at {l : List I} {q n : Nat} (hl : l.length = n) (h : items60 l = true) (hq : q ≤ n) : lineS l ((q : Int) - 1) = (stA l q : Int) := by
  unfold lineS
  have e : inB ((q : Int) - 1) (-1) ((n : Int) - 1) = true := inB_mk (by omega)
  have e2 : ((q : Int) - 1 + 1).toNat = q := by omega
  rw [h, hl, e, e2]; rfl
theorem implLineS (A : Option Addr) (n c : Nat) (l : List I) (t : Int) (w : World) (hn : n ≤ maxLen) (hl : l.length = n) (h : Rd w 7 A n (cellsI l)) :
    Calls Try.prog 37 #[.slice A n c, .int .i64 t] w fun e w' => e = .returned (.int .i64 (lineS l t)) ∧ Below w.heap.size w w' := by
  have hv := hide (implItems A n c l w hn hl h)
  have h' := hide h
  have hl' := hide hl
  have hn2 : n ≤ 2 ^ 63 - 1 := hn
  cases h60 : items60 l with
  | false =>
    rw [lineS_no60 h60]
    rw [h60] at hv
    clear h60 hl hn h
    go_enter Try.func37, Try.ntmps37
    go_wp2_with fail
    refine hv.out.mono ?_
    rintro e w1 ⟨rfl, hb1⟩
    have hb1' := hide hb1
    have hs1 := hb1.size
    clear hb1
    go_wp2
    go_ret
    exact ⟨rfl, hb1'.out⟩
  | true =>
    have hok := h60
    have hm := hide (fun W (hr : Rd W 7 A n (cellsI l)) (q : Nat) (hq : q ≤ n) => implStart A n c q l W hn hl hr hq hok)
    rw [h60] at hv
    clear h60 hl hn h
    cases hin : inB t (-1) ((n : Int) - 1) with
    | false =>
      rw [lineS_noin hl'.out hin]
      clear hok hm
      go_enter Try.func37, Try.ntmps37
      go_wp2_with fail
      refine hv.out.mono ?_
      rintro e w1 ⟨rfl, hb1⟩
      have hb1' := hide hb1
      have hs1 := hb1.size
      clear hb1
      go_wp2_with (go_at_call 82; refine (in_any _ _ _ _).mono ?_; rintro e w' ⟨rfl, rfl⟩)
      go_ret
      exact ⟨rfl, hb1'.out⟩
    | true =>
      have hb := inB_true hin
      obtain ⟨q, hq⟩ := Int.eq_ofNat_of_zero_le (show 0 ≤ t + 1 by omega)
      obtain rfl : t = (q : Int) - 1 := by omega
      have hqn : q ≤ n := by omega
      have ee := hide (lineS_at hl'.out hok hqn)
      rw [ee.out]
      clear hb hok hq ee
      go_enter Try.func37, Try.ntmps37
      go_wp2_with fail
      refine hv.out.mono ?_
      rintro e w1 ⟨rfl, hb1⟩
      have hb1' := hide hb1
      have hs1 := hb1.size
      clear hb1
      go_wp2_with fail
      refine (in_any _ _ _ _).mono ?_
      rintro e w' ⟨rfl, rfl⟩
      rw [hin]
      go_wp2_with fail
      refine (hm.out _ (h'.out.below hb1'.out) q hqn).mono ?_
      rintro e w2 ⟨rfl, hb2⟩
      have hb2' := hide (hb1'.out.trans (hb2.mono hs1))
      clear hb2
      go_wp2
      go_ret
      exact ⟨rfl, hb2'.out⟩
theorem specLineS (A : Option Addr) (n c : Nat) (l : List I) (t : Int) (w : World) (hn : n ≤ maxLen) (hl : l.length = n) (h : Rd w 7 A n (cellsI l)) :
    Calls Try.prog 36 #[.slice A n c, .int .i64 t] w fun e w' => e = .returned (.int .i64 (lineS l t)) ∧ Below w.heap.size w w' := by
  have hv := hide (specItems A n c l w hn hl h)
  have h' := hide h
  have hl' := hide hl
  have hn2 : n ≤ 2 ^ 63 - 1 := hn
  cases h60 : items60 l with
  | false =>
    rw [lineS_no60 h60]
    rw [h60] at hv
    clear h60 hl hn h
    go_enter Try.func36, Try.ntmps36
    go_wp2_with fail
    refine hv.out.mono ?_
    rintro e w1 ⟨rfl, hb1⟩
    have hb1' := hide hb1
    have hs1 := hb1.size
    clear hb1
    go_wp2
    go_ret
    exact ⟨rfl, hb1'.out⟩
  | true =>
    have hok := h60
    have hm := hide (fun W (hr : Rd W 7 A n (cellsI l)) (q : Nat) (hq : q ≤ n) => specStart A n c q l W hn hl hr hq)
    rw [h60] at hv
    clear h60 hl hn h
    cases hin : inB t (-1) ((n : Int) - 1) with
    | false =>
      rw [lineS_noin hl'.out hin]
      clear hok hm
      go_enter Try.func36, Try.ntmps36
      go_wp2_with fail
      refine hv.out.mono ?_
      rintro e w1 ⟨rfl, hb1⟩
      have hb1' := hide hb1
      have hs1 := hb1.size
      clear hb1
      go_wp2_with (go_at_call 70; refine (l1In_any _ _ _ _).mono ?_; rintro e w' ⟨rfl, rfl⟩)
      go_ret
      exact ⟨rfl, hb1'.out⟩
    | true =>
      have hb := inB_true hin
      obtain ⟨q, hq⟩ := Int.eq_ofNat_of_zero_le (show 0 ≤ t + 1 by omega)
      obtain rfl : t = (q : Int) - 1 := by omega
      have hqn : q ≤ n := by omega
      have ee := hide (lineS_at hl'.out hok hqn)
      rw [ee.out]
      clear hb hok hq ee
      go_enter Try.func36, Try.ntmps36
      go_wp2_with fail
      refine hv.out.mono ?_
      rintro e w1 ⟨rfl, hb1⟩
      have hb1' := hide hb1
      have hs1 := hb1.size
      clear hb1
      go_wp2_with fail
      refine (l1In_any _ _ _ _).mono ?_
      rintro e w' ⟨rfl, rfl⟩
      rw [hin]
      go_wp2_with fail
      refine (hm.out _ (h'.out.below hb1'.out) q hqn).mono ?_
      rintro e w' ⟨rfl, rfl⟩
      have hb2' := hb1'
      go_wp2
      go_ret
      exact ⟨rfl, hb2'.out⟩
end Go.Proofs.Ytocaonlmlafjmaa
