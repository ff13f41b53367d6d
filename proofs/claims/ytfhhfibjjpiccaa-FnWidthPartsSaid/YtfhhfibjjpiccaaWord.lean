/- The walks through the validity of a word. No condition. -/
import Derived.Test.YtfhhfibjjpiccaaLet
namespace Go.Proofs.Ytfhhfibjjpiccaa
open Go.RowKit
set_option linter.unusedVariables false
set_option linter.unusedSimpArgs false

theorem specWord (s : ByteArray) (w : World) (hs : s.size ≤ maxLen) :
    Calls Try.prog 24 #[.string s] w fun e w' => e = .returned (.bool (wordB s)) ∧ w = w' := by
  unfold maxLen at hs
  go_enter Try.func24, Try.ntmps24
  go_wp2
  go_loop [3] (fun i => ∃ k : Nat, k ≤ s.size ∧ i = .int .i64 k ∧ ((bl s).take k).all isSm = true) (fun i => s.size - (intOf i).toNat)
  case atStart => exact ⟨0, Nat.zero_le _, rfl, rfl⟩
  case round =>
    obtain ⟨k, hk, rfl, hall⟩ := hrel
    have hall' := hide hall
    clear hall
    by_cases hlt : k < s.size
    · have hc := hide (bl_at s k hlt)
      by_cases h1 : ((s[k].toNat : Nat) : Int) < 97
      · have e := hide (wordB_no hc.out (by simp [isSm]; omega))
        go_wp2
        go_ret
        exact ⟨by rw [e.out]; rfl, rfl⟩
      · by_cases h2 : 122 < ((s[k].toNat : Nat) : Int)
        · have e := hide (wordB_no hc.out (by simp [isSm]; omega))
          have h1' : decide (((s[k].toNat : Nat) : Int) < 97) = false := by simpa using h1
          clear h1
          go_wp2
          go_ret
          exact ⟨by rw [e.out]; rfl, rfl⟩
        · have st := hide (wordB_step hall'.out hc.out (by simp [isSm]; omega))
          have h1' : decide (((s[k].toNat : Nat) : Int) < 97) = false := by simpa using h1
          have h2' : decide (122 < ((s[k].toNat : Nat) : Int)) = false := by simpa using h2
          clear h1 h2
          go_wp2
          go_round
          case rel => exact ⟨k + 1, by omega, by go_num, st.out⟩
          case measure => simp [intOf]; omega
    · have e := hide (wordB_end hall'.out hlt)
      go_wp2_with (go_at_call 56; refine (l1In_any _ _ _ _).mono ?_; rintro e w' ⟨rfl, rfl⟩)
      go_ret
      exact ⟨by rw [e.out]; rfl, rfl⟩
theorem implWord (s : ByteArray) (w : World) (hs : s.size ≤ maxLen) :
    Calls Try.prog 23 #[.string s] w fun e w' => e = .returned (.bool (wordB s)) ∧ w = w' := by
  unfold maxLen at hs
  go_enter Try.func23, Try.ntmps23
  go_wp2
  go_loop [6] (fun i => ∃ k : Nat, k ≤ s.size ∧ i = .int .i64 k ∧ ((bl s).take k).all isSm = true) (fun i => s.size - (intOf i).toNat)
  case atStart => exact ⟨0, Nat.zero_le _, rfl, rfl⟩
  case round =>
    obtain ⟨k, hk, rfl, hall⟩ := hrel
    have hall' := hide hall
    clear hall
    by_cases hlt : k < s.size
    · have hc := hide (bl_at s k hlt)
      cases hv : isSm ((s[k].toNat : Nat) : Int) with
      | false =>
        have e := hide (wordB_no hc.out hv)
        go_wp2_with (go_at_call 53; refine (isSmall_any _ _).mono ?_; rintro e w' ⟨rfl, rfl⟩)
        go_ret
        exact ⟨by rw [e.out]; rfl, rfl⟩
      | true =>
        have st := hide (wordB_step hall'.out hc.out hv)
        go_wp2_with (go_at_call 53; refine (isSmall_any _ _).mono ?_; rintro e w' ⟨rfl, rfl⟩)
        go_round
        case rel => exact ⟨k + 1, by omega, by go_num, st.out⟩
        case measure => simp [intOf]; omega
    · have e := hide (wordB_end hall'.out hlt)
      go_wp2_with (go_at_call 55; refine (in_any _ _ _ _).mono ?_; rintro e w' ⟨rfl, rfl⟩)
      go_ret
      exact ⟨by rw [e.out]; rfl, rfl⟩
end Go.Proofs.Ytfhhfibjjpiccaa
