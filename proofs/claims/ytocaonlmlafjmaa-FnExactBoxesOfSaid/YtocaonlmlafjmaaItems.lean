/- The walks through the validity of a list of items. Condition: the slice reads as the list. -/
import Derived.Test.YtocaonlmlafjmaaItem
import Derived.Test.YtocaonlmlafjmaaItem2
import Derived.Test.YtocaonlmlafjmaaMade
namespace Go.Proofs.Ytocaonlmlafjmaa
open Go.RowKit
set_option linter.unusedVariables false
set_option linter.unusedSimpArgs false

set_option maxHeartbeats 1000000 in
theorem specItems (A : Option Addr) (n c : Nat) (l : List I) (w : World) (hn : n ≤ maxLen) (hl : l.length = n) (h : Rd w 7 A n (cellsI l)) :
    Calls Try.prog 28 #[.slice A n c] w fun e w' => e = .returned (.bool (items60 l)) ∧ Below w.heap.size w w' := by
  have hl' := hide hl
  clear hl
  unfold maxLen at hn
  go_enter Try.func28, Try.ntmps28
  go_wp2
  go_loopw [3] (fun i wr => ∃ k : Nat, k ≤ n ∧ i = .int .i64 k ∧ (l.take k).all itemOk = true ∧ Below w.heap.size w wr) (fun i _ => n - (intOf i).toNat)
  case atStart => exact ⟨0, Nat.zero_le _, rfl, rfl, Below.refl _ _⟩
  case round =>
    obtain ⟨k, hk, rfl, hall, hb⟩ := hrel
    have hall' := hide hall
    have hb' := hide hb
    have hbs := hb.size
    clear hall
    by_cases hlt : k < n
    · obtain ⟨b, off, x, rfl, hbk, hx, c0, c1, c2, c3, c4, c5, c6⟩ := (h.below hb).item hl'.out hlt
      have hx' := hide hx
      clear hx hb
      cases hv : itemOk x with
      | false =>
        have e := hide (items60_no hx'.out hv)
        go_wp2_with fail
        refine (specItem x _).mono ?_
        rintro e w1 ⟨rfl, hb1⟩
        rw [hv]
        go_wp2
        go_ret
        exact ⟨by rw [e.out]; rfl, hb'.out.trans (hb1.mono hbs)⟩
      | true =>
        have st := hide (items60_step hall'.out hx'.out hv)
        go_wp2_with fail
        refine (specItem x _).mono ?_
        rintro e w1 ⟨rfl, hb1⟩
        rw [hv]
        have hb2 := hide (hb'.out.trans (hb1.mono hbs))
        clear hb1
        go_wp2
        go_roundw
        case rel => exact ⟨k + 1, by omega, by go_num, st.out, hb2.out⟩
        case measure => simp [intOf]; omega
    · have e := hide (items60_end hall'.out hl'.out hlt)
      clear hb
      go_wp2
      go_ret
      exact ⟨by rw [e.out]; rfl, hb'.out⟩
set_option maxHeartbeats 1000000 in
theorem implItems (A : Option Addr) (n c : Nat) (l : List I) (w : World) (hn : n ≤ maxLen) (hl : l.length = n) (h : Rd w 7 A n (cellsI l)) :
    Calls Try.prog 30 #[.slice A n c] w fun e w' => e = .returned (.bool (items60 l)) ∧ Below w.heap.size w w' := by
  have hl' := hide hl
  clear hl
  unfold maxLen at hn
  go_enter Try.func30, Try.ntmps30
  go_wp2
  go_loopw [7] (fun i wr => ∃ k : Nat, k ≤ n ∧ i = .int .i64 k ∧ (l.take k).all itemOk = true ∧ Below w.heap.size w wr) (fun i _ => n - (intOf i).toNat)
  case atStart => exact ⟨0, Nat.zero_le _, rfl, rfl, Below.refl _ _⟩
  case round =>
    obtain ⟨k, hk, rfl, hall, hb⟩ := hrel
    have hall' := hide hall
    have hb' := hide hb
    have hbs := hb.size
    clear hall
    by_cases hlt : k < n
    · obtain ⟨b, off, x, rfl, hbk, hx, c0, c1, c2, c3, c4, c5, c6⟩ := (h.below hb).item hl'.out hlt
      have hx' := hide hx
      clear hx hb
      cases hv : itemOk x with
      | false =>
        have e := hide (items60_no hx'.out hv)
        go_wp2_with fail
        refine (implItem x _).mono ?_
        rintro e w1 ⟨rfl, hb1⟩
        rw [hv]
        go_wp2
        go_ret
        exact ⟨by rw [e.out]; rfl, (hb'.out.alloc hbs _).trans (hb1.mono (by simp; omega))⟩
      | true =>
        have st := hide (items60_step hall'.out hx'.out hv)
        go_wp2_with fail
        refine (implItem x _).mono ?_
        rintro e w1 ⟨rfl, hb1⟩
        rw [hv]
        have hb2 := hide ((hb'.out.alloc hbs _).trans (hb1.mono (by simp; omega)))
        clear hb1
        go_wp2
        go_roundw
        case rel => exact ⟨k + 1, by omega, by go_num, st.out, hb2.out⟩
        case measure => simp [intOf]; omega
    · have e := hide (items60_end hall'.out hl'.out hlt)
      clear hb
      go_wp2
      go_ret
      exact ⟨by rw [e.out]; rfl, hb'.out⟩
end Go.Proofs.Ytocaonlmlafjmaa
