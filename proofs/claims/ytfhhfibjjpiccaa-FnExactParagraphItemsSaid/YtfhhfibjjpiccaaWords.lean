/- The walks through the validity of a list of words. Condition: the slice reads as the list. -/
import Derived.Test.YtfhhfibjjpiccaaWord
import Derived.Test.YtfhhfibjjpiccaaPatMath
import Derived.Test.YtfhhfibjjpiccaaMade
namespace Go.Proofs.Ytfhhfibjjpiccaa
open Go.RowKit
set_option linter.unusedVariables false
set_option linter.unusedSimpArgs false

theorem words_step {l : List ByteArray} {k : Nat} {i : ByteArray} (hall : (l.take k).all wordB = true) (hi : l[k]? = some i) (h : wordB i = true) : (l.take (k + 1)).all wordB = true := by
  rw [all_snoc _ _ _ _ hi, hall, h]; rfl
theorem words_no {l : List ByteArray} {k : Nat} {i : ByteArray} (hi : l[k]? = some i) (h : wordB i = false) : words12 l = false := by
  unfold words12; rw [all_false_of hi h]; rfl
theorem words_end {l : List ByteArray} {k n : Nat} (hall : (l.take k).all wordB = true) (hl : l.length = n) (hk : ¬ k < n) : words12 l = decide ((n : Int) ≤ 12) := by
  rw [List.take_of_length_le (by omega)] at hall
  unfold words12
  rw [hall, hl, Bool.true_and]
  exact decide_eq_decide.2 (by omega)
theorem specWords (A : Option Addr) (n c : Nat) (l : List ByteArray) (w : World) (hn : n ≤ maxLen) (hl : l.length = n) (hz : ∀ s ∈ l, s.size ≤ maxLen) (h : Rd w 1 A n (cellsS l)) :
    Calls Try.prog 62 #[.slice A n c] w fun e w' => e = .returned (.bool (words12 l)) ∧ w = w' := by
  have hz' := hide hz
  have hl' := hide hl
  clear hz hl
  unfold maxLen at hn
  go_enter Try.func62, Try.ntmps62
  go_wp2
  go_loop [3] (fun i => ∃ k : Nat, k ≤ n ∧ i = .int .i64 k ∧ (l.take k).all wordB = true) (fun i => n - (intOf i).toNat)
  case atStart => exact ⟨0, Nat.zero_le _, rfl, rfl⟩
  case round =>
    obtain ⟨k, hk, rfl, hall⟩ := hrel
    have hall' := hide hall
    clear hall
    by_cases hlt : k < n
    · obtain ⟨b, off, x, rfl, hbs, hx, c0⟩ := h.str hl'.out hlt
      have hx' := hide hx
      have hxz := hide (hz'.out x (List.mem_of_getElem? hx))
      clear hx
      cases hv : wordB x with
      | false =>
        have e := hide (words_no hx'.out hv)
        go_wp2_with (go_at_call 24; refine (specWord x _ hxz.out).mono ?_; rintro e w' ⟨rfl, rfl⟩)
        go_ret
        exact ⟨by rw [e.out]; rfl, rfl⟩
      | true =>
        have st := hide (words_step hall'.out hx'.out hv)
        go_wp2_with (go_at_call 24; refine (specWord x _ hxz.out).mono ?_; rintro e w' ⟨rfl, rfl⟩)
        go_round
        case rel => exact ⟨k + 1, by omega, by go_num, st.out⟩
        case measure => simp [intOf]; omega
    · have e := hide (words_end hall'.out hl'.out hlt)
      go_wp2
      go_ret
      exact ⟨by rw [e.out]; rfl, rfl⟩
theorem implWords (A : Option Addr) (n c : Nat) (l : List ByteArray) (w : World) (hn : n ≤ maxLen) (hl : l.length = n) (hz : ∀ s ∈ l, s.size ≤ maxLen) (h : Rd w 1 A n (cellsS l)) :
    Calls Try.prog 75 #[.slice A n c] w fun e w' => e = .returned (.bool (words12 l)) ∧ w = w' := by
  have hz' := hide hz
  have hl' := hide hl
  clear hz hl
  unfold maxLen at hn
  go_enter Try.func75, Try.ntmps75
  go_wp2
  go_loop [7] (fun i => ∃ k : Nat, k ≤ n ∧ i = .int .i64 k ∧ (l.take k).all wordB = true) (fun i => n - (intOf i).toNat)
  case atStart => exact ⟨0, Nat.zero_le _, rfl, rfl⟩
  case round =>
    obtain ⟨k, hk, rfl, hall⟩ := hrel
    have hall' := hide hall
    clear hall
    by_cases hlt : k < n
    · obtain ⟨b, off, x, rfl, hbs, hx, c0⟩ := h.str hl'.out hlt
      have hx' := hide hx
      have hxz := hide (hz'.out x (List.mem_of_getElem? hx))
      clear hx
      cases hv : wordB x with
      | false =>
        have e := hide (words_no hx'.out hv)
        go_wp2_with (go_at_call 23; refine (implWord x _ hxz.out).mono ?_; rintro e w' ⟨rfl, rfl⟩)
        go_ret
        exact ⟨by rw [e.out]; rfl, rfl⟩
      | true =>
        have st := hide (words_step hall'.out hx'.out hv)
        go_wp2_with (go_at_call 23; refine (implWord x _ hxz.out).mono ?_; rintro e w' ⟨rfl, rfl⟩)
        go_round
        case rel => exact ⟨k + 1, by omega, by go_num, st.out⟩
        case measure => simp [intOf]; omega
    · have e := hide (words_end hall'.out hl'.out hlt)
      go_wp2
      go_ret
      exact ⟨by rw [e.out]; rfl, rfl⟩
end Go.Proofs.Ytfhhfibjjpiccaa
