/- Several of my texts in one: Let2, LW, Near, Signs, Width. Their conditions stand at each. -/
import Derived.Test.YtocaonlmlafjmaaKCore
import Derived.Lib.Bytealg
import Derived.Lib.RabinKarpLaws
import Derived.Deep.AppendLies
/- The walks through the tests of two letters, and the width of a letter. Condition: the letters are bytes. -/
namespace Go.Proofs.Ytocaonlmlafjmaa
open Go.RowKit
set_option linter.unusedVariables false
set_option linter.unusedSimpArgs false

theorem indexByte_any (l : List UInt8) (c : UInt8) : decide (0 ≤ Lib.indexByte l c) = l.any (· == c) := by
  induction l with
  | nil => rfl
  | cons b l ih =>
    have hge := Lib.indexByte_ge l c
    unfold Lib.indexByte
    rw [List.any_cons, ← ih]
    by_cases h : b = c
    · simp [h]
    · have hb : (b == c) = false := by simpa using h
      simp only [hb, Bool.false_or]
      generalize Lib.indexByte l c = r at hge
      by_cases h2 : r < 0
      · simp [h2]; omega
      · simp [h2]; omega
theorem amB_any (s : ByteArray) (c : Int) (hc : 0 ≤ c ∧ c ≤ 255) : (s.data.toList.any (· == c.toNat.toUInt8)) = amB (bl s) c := by
  obtain ⟨n, rfl⟩ := Int.eq_ofNat_of_zero_le hc.1
  have hn : n < 256 := by omega
  unfold amB bl
  rw [List.any_map]
  congr 1
  funext x
  simp only [Function.comp, Int.toNat_natCast]
  rw [Bool.eq_iff_iff]
  simp only [beq_iff_eq]
  constructor
  · intro h
    have h2 := congrArg UInt8.toNat h
    rw [Nat.toUInt8_eq, UInt8.toNat_ofNat'] at h2
    have : n % 256 = n := Nat.mod_eq_of_lt hn
    omega
  · intro h
    have h2 : x.toNat = n := by omega
    apply UInt8.toNat_inj.1
    rw [Nat.toUInt8_eq, UInt8.toNat_ofNat', h2]
    exact (Nat.mod_eq_of_lt hn).symm
set_option maxRecDepth 100000 in
set_option maxHeartbeats 1000000 in
theorem stringslite_any (s : ByteArray) (c : Int) (w : World) :
    Calls Try.prog 134 #[.string s, .int .u8 c] w fun e w' => e = .returned (.int .i64 (Lib.indexByte s.data.toList c.toNat.toUInt8)) ∧ w = w' := by
  go_enter Try.func134, Try.ntmps134
  go_wp2
  rw [run_callFunc_extern Try.func135 (by kernel_rfl) (by kernel_rfl) (by kernel_rfl) (e := Extern.BytealgIndexByte.indexByte) (by kernel_rfl), Lib.run_indexByteString]
  simp only [Result.andThen]
  rw [Oper.upon_value]
  go_wp2
  go_ret
  exact ⟨rfl, rfl⟩
theorem indexByte_go (s : ByteArray) (c : Int) (w : World) :
    Calls Try.prog 133 #[.string s, .int .u8 c] w fun e w' => e = .returned (.int .i64 (Lib.indexByte s.data.toList c.toNat.toUInt8)) ∧ w = w' := by
  go_enter Try.func133, Try.ntmps133
  go_wp2_with (go_at_call 134; refine (stringslite_any _ _ _).mono ?_; rintro e w' ⟨rfl, rfl⟩)
  go_ret
  exact ⟨rfl, rfl⟩
theorem among_any (c : Int) (s : ByteArray) (w : World) (hc : 0 ≤ c ∧ c ≤ 255) :
    Calls Try.prog 129 #[.int .u8 c, .string s] w fun e w' => e = .returned (.bool (amB (bl s) c)) ∧ w = w' := by
  have e := hide ((indexByte_any s.data.toList c.toNat.toUInt8).trans (amB_any s c hc))
  clear hc
  go_enter Try.func129, Try.ntmps129
  go_wp2_with (go_at_call 133; refine (indexByte_go _ _ _).mono ?_; rintro e w' ⟨rfl, rfl⟩)
  go_ret
  exact ⟨by rw [← e.out]; rfl, rfl⟩
theorem amB4 (a b c d x : Int) : amB [a, b, c, d] x = (a == x || (b == x || (c == x || d == x))) := by simp [amB]
theorem amB3 (a b c x : Int) : amB [a, b, c] x = (a == x || (b == x || c == x)) := by simp [amB]
theorem amB2 (a b x : Int) : amB [a, b] x = (a == x || b == x) := by simp [amB]
theorem implJoins (a b : Int) (w : World) (hb : 0 ≤ b ∧ b ≤ 255) :
    Calls Try.prog 128 #[.int .u8 a, .int .u8 b] w fun e w' => e = .returned (.bool (joinB a b)) ∧ w = w' := by
  by_cases h : a = 102
  · subst h
    go_enter Try.func128, Try.ntmps128
    go_wp2_with (go_at_call 129; refine (among_any _ _ _ hb).mono ?_; rintro e w' ⟨rfl, rfl⟩)
    go_ret
    exact ⟨rfl, rfl⟩
  · have hd : (a == 102) = false := by simpa using h
    have e : joinB a b = false := by simp [joinB, h]
    rw [e]; clear e hb h
    go_enter Try.func128, Try.ntmps128
    go_wp2
    go_ret
    exact ⟨rfl, rfl⟩
theorem specJoins (a b : Int) (w : World) :
    Calls Try.prog 127 #[.int .u8 a, .int .u8 b] w fun e w' => e = .returned (.bool (joinB a b)) ∧ w = w' := by
  by_cases h : a = 102
  · subst h
    have e : joinB 102 b = ((b == 105) || (b == 106) || (b == 108) || (b == 102)) := by
      unfold joinB; rw [amB4]; simp only [BEq.rfl, Bool.true_and, Bool.or_assoc, Bool.beq_comm (b := b)]
    rw [e]; clear e
    go_enter Try.func127, Try.ntmps127
    cases h1 : (b == 105) with
    | true =>
      go_wp2
      go_ret
      exact ⟨rfl, rfl⟩
    | false =>
      cases h2 : (b == 106) with
      | true =>
        go_wp2
        go_ret
        exact ⟨rfl, rfl⟩
      | false =>
        cases h3 : (b == 108) with
        | true =>
          go_wp2
          go_ret
          exact ⟨rfl, rfl⟩
        | false =>
          go_wp2
          go_ret
          all_goals exact ⟨by simp, rfl⟩
  · have hd : (a == 102) = false := by simpa using h
    have e : joinB a b = false := by simp [joinB, h]
    rw [e]; clear e h
    go_enter Try.func127, Try.ntmps127
    go_wp2
    go_ret
    exact ⟨rfl, rfl⟩
end Go.Proofs.Ytocaonlmlafjmaa

/- The walks through the width of a letter. Condition: the letter is a byte. -/
namespace Go.Proofs.Ytocaonlmlafjmaa
open Go.RowKit
set_option linter.unusedVariables false
set_option linter.unusedSimpArgs false

theorem specLW (c : Int) (w : World) :
    Calls Try.prog 119 #[.int .u8 c] w fun e w' => e = .returned (.int .i64 (lw c)) ∧ w = w' := by
  by_cases hc105 : c = 105
  · subst hc105
    have e : lw 105 = 3 := by decide
    rw [e]; clear e
    go_enter Try.func119, Try.ntmps119
    go_wp2
    go_ret
    exact ⟨rfl, rfl⟩
  · have dc105 : (c == 105) = false := by simpa using hc105
    by_cases hc106 : c = 106
    · subst hc106
      have e : lw 106 = 3 := by decide
      rw [e]; clear e
      clear hc105
      go_enter Try.func119, Try.ntmps119
      go_wp2
      go_ret
      exact ⟨rfl, rfl⟩
    · have dc106 : (c == 106) = false := by simpa using hc106
      by_cases hc108 : c = 108
      · subst hc108
        have e : lw 108 = 3 := by decide
        rw [e]; clear e
        clear hc105 hc106
        go_enter Try.func119, Try.ntmps119
        go_wp2
        go_ret
        exact ⟨rfl, rfl⟩
      · have dc108 : (c == 108) = false := by simpa using hc108
        by_cases hc102 : c = 102
        · subst hc102
          have e : lw 102 = 4 := by decide
          rw [e]; clear e
          clear hc105 hc106 hc108
          go_enter Try.func119, Try.ntmps119
          go_wp2
          go_ret
          exact ⟨rfl, rfl⟩
        · have dc102 : (c == 102) = false := by simpa using hc102
          by_cases hc114 : c = 114
          · subst hc114
            have e : lw 114 = 4 := by decide
            rw [e]; clear e
            clear hc105 hc106 hc108 hc102
            go_enter Try.func119, Try.ntmps119
            go_wp2
            go_ret
            exact ⟨rfl, rfl⟩
          · have dc114 : (c == 114) = false := by simpa using hc114
            by_cases hc116 : c = 116
            · subst hc116
              have e : lw 116 = 4 := by decide
              rw [e]; clear e
              clear hc105 hc106 hc108 hc102 hc114
              go_enter Try.func119, Try.ntmps119
              go_wp2
              go_ret
              exact ⟨rfl, rfl⟩
            · have dc116 : (c == 116) = false := by simpa using hc116
              by_cases hc109 : c = 109
              · subst hc109
                have e : lw 109 = 8 := by decide
                rw [e]; clear e
                clear hc105 hc106 hc108 hc102 hc114 hc116
                go_enter Try.func119, Try.ntmps119
                go_wp2
                go_ret
                exact ⟨rfl, rfl⟩
              · have dc109 : (c == 109) = false := by simpa using hc109
                by_cases hc119 : c = 119
                · subst hc119
                  have e : lw 119 = 8 := by decide
                  rw [e]; clear e
                  clear hc105 hc106 hc108 hc102 hc114 hc116 hc109
                  go_enter Try.func119, Try.ntmps119
                  go_wp2
                  go_ret
                  exact ⟨rfl, rfl⟩
                · have dc119 : (c == 119) = false := by simpa using hc119
                  by_cases h1 : c < 97
                  · have e : lw c = 0 := by unfold lw; rw [if_neg (by simp [isSm]; omega)]
                    rw [e]; clear e
                    clear hc105 hc106 hc108 hc102 hc114 hc116 hc109 hc119
                    go_enter Try.func119, Try.ntmps119
                    go_wp2
                    go_ret
                    exact ⟨rfl, rfl⟩
                  · have d1 : decide (c < 97) = false := by simpa using h1
                    by_cases h2 : 122 < c
                    · have e : lw c = 0 := by unfold lw; rw [if_neg (by simp [isSm]; omega)]
                      rw [e]; clear e
                      clear h1 hc105 hc106 hc108 hc102 hc114 hc116 hc109 hc119
                      go_enter Try.func119, Try.ntmps119
                      go_wp2
                      go_ret
                      exact ⟨rfl, rfl⟩
                    · have d2 : decide (122 < c) = false := by simpa using h2
                      have hs : isSm c = true := by simp [isSm]; omega
                      have e : lw c = 5 := by simp [lw, hs, amB, Ne.symm hc105, Ne.symm hc106, Ne.symm hc108, Ne.symm hc102, Ne.symm hc114, Ne.symm hc116, Ne.symm hc109, Ne.symm hc119]
                      rw [e]; clear e hs
                      clear h1 h2 hc105 hc106 hc108 hc102 hc114 hc116 hc109 hc119
                      go_enter Try.func119, Try.ntmps119
                      go_wp2
                      go_ret
                      exact ⟨rfl, rfl⟩
theorem implLW (c : Int) (w : World) (hc : 0 ≤ c ∧ c ≤ 255) :
    Calls Try.prog 122 #[.int .u8 c] w fun e w' => e = .returned (.int .i64 (lw c)) ∧ w = w' := by
  have e1 : bl ⟨#[105, 106, 108]⟩ = [105, 106, 108] := by decide
  have e2 : bl ⟨#[102, 114, 116]⟩ = [102, 114, 116] := by decide
  have e3 : bl ⟨#[109, 119]⟩ = [109, 119] := by decide
  have hn : lw c = (if isSm c = true then (if amB (bl ⟨#[105, 106, 108]⟩) c = true then 3 else if amB (bl ⟨#[102, 114, 116]⟩) c = true then 4 else if amB (bl ⟨#[109, 119]⟩) c = true then 8 else 5) else 0) := by rw [e1, e2, e3]; rfl
  rw [hn]; clear hn e1 e2 e3
  go_enter Try.func122, Try.ntmps122
  cases h0 : isSm c <;> cases h1 : amB (bl ⟨#[105, 106, 108]⟩) c <;> cases h2 : amB (bl ⟨#[102, 114, 116]⟩) c <;> cases h3 : amB (bl ⟨#[109, 119]⟩) c
  all_goals
    go_wp2_with (first | (go_at_call 129; refine (among_any _ _ _ (by assumption)).mono ?_; rintro e w' ⟨rfl, rfl⟩) | (go_at_call 106; refine (isSmall_any _ _).mono ?_; rintro e w' ⟨rfl, rfl⟩))
    go_ret
    exact ⟨by simp_all, rfl⟩
end Go.Proofs.Ytocaonlmlafjmaa

/- The walks through how near two letters stand. Condition: the letters are bytes. -/
namespace Go.Proofs.Ytocaonlmlafjmaa
open Go.RowKit
set_option linter.unusedVariables false
set_option linter.unusedSimpArgs false

theorem specNear (a b : Int) (w : World) :
    Calls Try.prog 120 #[.int .u8 a, .int .u8 b] w fun e w' => e = .returned (.int .i64 (nearI a b)) ∧ w = w' := by
  by_cases ha118 : a = 118
  · subst ha118
    by_cases hb97 : b = 97
    · subst hb97
      have e : nearI 118 97 = 1 := by decide
      rw [e]; clear e
      go_enter Try.func120, Try.ntmps120
      go_wp2
      go_ret
      all_goals exact ⟨rfl, rfl⟩
    · have db97 : (b == 97) = false := by simpa using hb97
      by_cases hb101 : b = 101
      · subst hb101
        have e : nearI 118 101 = 1 := by decide
        rw [e]; clear e
        clear hb97
        go_enter Try.func120, Try.ntmps120
        go_wp2
        go_ret
        all_goals exact ⟨rfl, rfl⟩
      · have db101 : (b == 101) = false := by simpa using hb101
        by_cases hb111 : b = 111
        · subst hb111
          have e : nearI 118 111 = 1 := by decide
          rw [e]; clear e
          clear hb97 hb101
          go_enter Try.func120, Try.ntmps120
          go_wp2
          go_ret
          all_goals exact ⟨rfl, rfl⟩
        · have db111 : (b == 111) = false := by simpa using hb111
          by_cases hb110 : b = 110
          · subst hb110
            have e : nearI 118 110 = 0 := by decide
            rw [e]; clear e
            clear hb97 hb101 hb111
            go_enter Try.func120, Try.ntmps120
            go_wp2
            go_ret
            all_goals exact ⟨rfl, rfl⟩
          · have db110 : (b == 110) = false := by simpa using hb110
            by_cases hb109 : b = 109
            · subst hb109
              have e : nearI 118 109 = 0 := by decide
              rw [e]; clear e
              clear hb97 hb101 hb111 hb110
              go_enter Try.func120, Try.ntmps120
              go_wp2
              go_ret
              all_goals exact ⟨rfl, rfl⟩
            · have db109 : (b == 109) = false := by simpa using hb109
              have e : nearI 118 b = 0 := by simp [nearI, nearB, amB, Ne.symm hb97, Ne.symm hb101, Ne.symm hb111, Ne.symm hb110, Ne.symm hb109, hb97, hb101, hb111, hb110, hb109]
              rw [e]; clear e
              clear hb97 hb101 hb111 hb110 hb109
              go_enter Try.func120, Try.ntmps120
              go_wp2
              go_ret
              all_goals exact ⟨rfl, rfl⟩
  · have da118 : (a == 118) = false := by simpa using ha118
    by_cases ha119 : a = 119
    · subst ha119
      by_cases hb97 : b = 97
      · subst hb97
        have e : nearI 119 97 = 1 := by decide
        rw [e]; clear e
        clear ha118
        go_enter Try.func120, Try.ntmps120
        go_wp2
        go_ret
        all_goals exact ⟨rfl, rfl⟩
      · have db97 : (b == 97) = false := by simpa using hb97
        by_cases hb101 : b = 101
        · subst hb101
          have e : nearI 119 101 = 1 := by decide
          rw [e]; clear e
          clear ha118 hb97
          go_enter Try.func120, Try.ntmps120
          go_wp2
          go_ret
          all_goals exact ⟨rfl, rfl⟩
        · have db101 : (b == 101) = false := by simpa using hb101
          by_cases hb111 : b = 111
          · subst hb111
            have e : nearI 119 111 = 1 := by decide
            rw [e]; clear e
            clear ha118 hb97 hb101
            go_enter Try.func120, Try.ntmps120
            go_wp2
            go_ret
            all_goals exact ⟨rfl, rfl⟩
          · have db111 : (b == 111) = false := by simpa using hb111
            by_cases hb110 : b = 110
            · subst hb110
              have e : nearI 119 110 = 0 := by decide
              rw [e]; clear e
              clear ha118 hb97 hb101 hb111
              go_enter Try.func120, Try.ntmps120
              go_wp2
              go_ret
              all_goals exact ⟨rfl, rfl⟩
            · have db110 : (b == 110) = false := by simpa using hb110
              by_cases hb109 : b = 109
              · subst hb109
                have e : nearI 119 109 = 0 := by decide
                rw [e]; clear e
                clear ha118 hb97 hb101 hb111 hb110
                go_enter Try.func120, Try.ntmps120
                go_wp2
                go_ret
                all_goals exact ⟨rfl, rfl⟩
              · have db109 : (b == 109) = false := by simpa using hb109
                have e : nearI 119 b = 0 := by simp [nearI, nearB, amB, Ne.symm hb97, Ne.symm hb101, Ne.symm hb111, Ne.symm hb110, Ne.symm hb109, hb97, hb101, hb111, hb110, hb109]
                rw [e]; clear e
                clear ha118 hb97 hb101 hb111 hb110 hb109
                go_enter Try.func120, Try.ntmps120
                go_wp2
                go_ret
                all_goals exact ⟨rfl, rfl⟩
    · have da119 : (a == 119) = false := by simpa using ha119
      by_cases ha121 : a = 121
      · subst ha121
        by_cases hb97 : b = 97
        · subst hb97
          have e : nearI 121 97 = 1 := by decide
          rw [e]; clear e
          clear ha118 ha119
          go_enter Try.func120, Try.ntmps120
          go_wp2
          go_ret
          all_goals exact ⟨rfl, rfl⟩
        · have db97 : (b == 97) = false := by simpa using hb97
          by_cases hb101 : b = 101
          · subst hb101
            have e : nearI 121 101 = 1 := by decide
            rw [e]; clear e
            clear ha118 ha119 hb97
            go_enter Try.func120, Try.ntmps120
            go_wp2
            go_ret
            all_goals exact ⟨rfl, rfl⟩
          · have db101 : (b == 101) = false := by simpa using hb101
            by_cases hb111 : b = 111
            · subst hb111
              have e : nearI 121 111 = 1 := by decide
              rw [e]; clear e
              clear ha118 ha119 hb97 hb101
              go_enter Try.func120, Try.ntmps120
              go_wp2
              go_ret
              all_goals exact ⟨rfl, rfl⟩
            · have db111 : (b == 111) = false := by simpa using hb111
              by_cases hb110 : b = 110
              · subst hb110
                have e : nearI 121 110 = 0 := by decide
                rw [e]; clear e
                clear ha118 ha119 hb97 hb101 hb111
                go_enter Try.func120, Try.ntmps120
                go_wp2
                go_ret
                all_goals exact ⟨rfl, rfl⟩
              · have db110 : (b == 110) = false := by simpa using hb110
                by_cases hb109 : b = 109
                · subst hb109
                  have e : nearI 121 109 = 0 := by decide
                  rw [e]; clear e
                  clear ha118 ha119 hb97 hb101 hb111 hb110
                  go_enter Try.func120, Try.ntmps120
                  go_wp2
                  go_ret
                  all_goals exact ⟨rfl, rfl⟩
                · have db109 : (b == 109) = false := by simpa using hb109
                  have e : nearI 121 b = 0 := by simp [nearI, nearB, amB, Ne.symm hb97, Ne.symm hb101, Ne.symm hb111, Ne.symm hb110, Ne.symm hb109, hb97, hb101, hb111, hb110, hb109]
                  rw [e]; clear e
                  clear ha118 ha119 hb97 hb101 hb111 hb110 hb109
                  go_enter Try.func120, Try.ntmps120
                  go_wp2
                  go_ret
                  all_goals exact ⟨rfl, rfl⟩
      · have da121 : (a == 121) = false := by simpa using ha121
        by_cases ha114 : a = 114
        · subst ha114
          by_cases hb97 : b = 97
          · subst hb97
            have e : nearI 114 97 = 0 := by decide
            rw [e]; clear e
            clear ha118 ha119 ha121
            go_enter Try.func120, Try.ntmps120
            go_wp2
            go_ret
            all_goals exact ⟨rfl, rfl⟩
          · have db97 : (b == 97) = false := by simpa using hb97
            by_cases hb101 : b = 101
            · subst hb101
              have e : nearI 114 101 = 0 := by decide
              rw [e]; clear e
              clear ha118 ha119 ha121 hb97
              go_enter Try.func120, Try.ntmps120
              go_wp2
              go_ret
              all_goals exact ⟨rfl, rfl⟩
            · have db101 : (b == 101) = false := by simpa using hb101
              by_cases hb111 : b = 111
              · subst hb111
                have e : nearI 114 111 = 0 := by decide
                rw [e]; clear e
                clear ha118 ha119 ha121 hb97 hb101
                go_enter Try.func120, Try.ntmps120
                go_wp2
                go_ret
                all_goals exact ⟨rfl, rfl⟩
              · have db111 : (b == 111) = false := by simpa using hb111
                by_cases hb110 : b = 110
                · subst hb110
                  have e : nearI 114 110 = 1 := by decide
                  rw [e]; clear e
                  clear ha118 ha119 ha121 hb97 hb101 hb111
                  go_enter Try.func120, Try.ntmps120
                  go_wp2
                  go_ret
                  all_goals exact ⟨rfl, rfl⟩
                · have db110 : (b == 110) = false := by simpa using hb110
                  by_cases hb109 : b = 109
                  · subst hb109
                    have e : nearI 114 109 = 1 := by decide
                    rw [e]; clear e
                    clear ha118 ha119 ha121 hb97 hb101 hb111 hb110
                    go_enter Try.func120, Try.ntmps120
                    go_wp2
                    go_ret
                    all_goals exact ⟨rfl, rfl⟩
                  · have db109 : (b == 109) = false := by simpa using hb109
                    have e : nearI 114 b = 0 := by simp [nearI, nearB, amB, Ne.symm hb97, Ne.symm hb101, Ne.symm hb111, Ne.symm hb110, Ne.symm hb109, hb97, hb101, hb111, hb110, hb109]
                    rw [e]; clear e
                    clear ha118 ha119 ha121 hb97 hb101 hb111 hb110 hb109
                    go_enter Try.func120, Try.ntmps120
                    go_wp2
                    go_ret
                    all_goals exact ⟨rfl, rfl⟩
        · have da114 : (a == 114) = false := by simpa using ha114
          have e : nearI a b = 0 := by simp [nearI, nearB, amB, Ne.symm ha118, Ne.symm ha119, Ne.symm ha121, Ne.symm ha114, ha118, ha119, ha121, ha114]
          rw [e]; clear e
          clear ha118 ha119 ha121 ha114
          go_enter Try.func120, Try.ntmps120
          go_wp2
          all_goals go_ret
          all_goals exact ⟨rfl, rfl⟩
theorem implNear (a b : Int) (w : World) (ha : 0 ≤ a ∧ a ≤ 255) (hb : 0 ≤ b ∧ b ≤ 255) :
    Calls Try.prog 123 #[.int .u8 a, .int .u8 b] w fun e w' => e = .returned (.int .i64 (nearI a b)) ∧ w = w' := by
  have e1 : bl ⟨#[118, 119, 121]⟩ = [118, 119, 121] := by decide
  have e2 : bl ⟨#[97, 101, 111]⟩ = [97, 101, 111] := by decide
  have e3 : bl ⟨#[110, 109]⟩ = [110, 109] := by decide
  have hn : nearI a b = (if ((amB (bl ⟨#[118, 119, 121]⟩) a && amB (bl ⟨#[97, 101, 111]⟩) b) || (a == 114 && amB (bl ⟨#[110, 109]⟩) b)) = true then 1 else 0) := by rw [e1, e2, e3]; rfl
  replace hn := hide hn
  clear e1 e2 e3
  go_enter Try.func123, Try.ntmps123
  have go1 : (a == 114) = true ∨ (a == 114) = false := by cases (a == 114) <;> simp
  cases h1 : amB (bl ⟨#[118, 119, 121]⟩) a <;> cases h2 : amB (bl ⟨#[97, 101, 111]⟩) b <;> cases h3 : amB (bl ⟨#[110, 109]⟩) b <;> rcases go1 with h4 | h4
  all_goals
    go_wp2_with (go_at_call 129; refine (among_any _ _ _ (by assumption)).mono ?_; rintro e w' ⟨rfl, rfl⟩)
    go_ret
    exact ⟨ret_int (by rw [hn.out]; simp [h1, h2, h3, h4]), rfl⟩
end Go.Proofs.Ytocaonlmlafjmaa

/- The walks through the signs of a word. No condition but the model's own bound on a text's length. -/
namespace Go.Proofs.Ytocaonlmlafjmaa
open Go.RowKit
set_option linter.unusedVariables false
set_option linter.unusedSimpArgs false
set_option maxRecDepth 100000

def SgRel (s : ByteArray) (w : World) (i : Nat) (v : Value) (wr : World) : Prop :=
  ∃ L : List ByteArray, L ++ sg s i = sg s 0 ∧ L.length ≤ i ∧ wr.ownsRow w.heap.size 9 1 v L.length (cellsS L) ∧ Below w.heap.size w wr
def RowS (R : List ByteArray) (w : World) (e : Ending) (w' : World) : Prop := ∃ v, e = .returned v ∧ w'.ownsRow w.heap.size 9 1 v R.length (cellsS R) ∧ Below w.heap.size w w'
theorem sg_rel {s t : ByteArray} {w wr wx w3 : World} {k k' g3 cap3 : Nat} {v : Value} {L : List ByteArray} (hL : L ++ sg s k = sg s 0) (hs : sg s k = t :: sg s k') (hk : L.length + 1 ≤ k') (hown : wr.ownsRow w.heap.size 9 1 v L.length (cellsS L)) (hb : Below w.heap.size w wx)
    (hown3 : w3.ownsRow w.heap.size 9 1 (.slice (some ⟨g3, 0, none⟩) (L.length + 1) cap3) (L.length + 1) (cellsS L ++ [.string t])) (hg3 : wx.grownBy w3 v.ownBlock) : SgRel s w k' (.slice (some ⟨g3, 0, none⟩) (L.length + 1) cap3) w3 := by
  refine ⟨L ++ [t], by rw [List.append_assoc, List.singleton_append, ← hs, hL], by simpa using hk, ?_, hb.grown hg3 hb.size (fun k hk => (hown.lt k hk).1)⟩
  have e : cellsS (L ++ [t]) = cellsS L ++ [.string t] := by simp [cellsS]
  rw [e]
  simpa using hown3
set_option maxHeartbeats 1000000 in
theorem implSigns0 (s : ByteArray) (w : World) (hs : s.size ≤ 1000000) :
    Calls Try.prog 121 #[.string s] w (RowS (sg s 0) w) := by
  obtain ⟨i0, hi, hz0, hz1, hz2⟩ := info_parts str_info
  go_enter Try.func121, Try.ntmps121
  go_wp2
  go_loopw [3, 4] (fun v i wr => ∃ k : Nat, k ≤ s.size ∧ i = .int .i64 k ∧ SgRel s w k v wr) (fun _ i _ => s.size - (intOf i).toNat)
  case atStart => exact ⟨0, Nat.zero_le _, rfl, [], rfl, Nat.le_refl _, World.ownsRow_nil _ _ _ _, Below.refl _ _⟩
  case round =>
    obtain ⟨k, hk, rfl, L, hL, hLk, hown, hb⟩ := hrel
    have hL' := hide hL
    have hown' := hide hown
    have hb' := hide hb
    have hbs := hb.size
    clear hL hown hb
    by_cases hlt : k < s.size
    · by_cases h2 : k + 1 < s.size
      · have hd : decide ((k : Int) + 1 < (s.size : Int)) = true := by simp; omega
        have hbb := byte_bd s (k + 1) h2
        have h2i : (k : Int) + 1 < (s.size : Int) := by omega
        cases hj : joinB ((s[k].toNat : Nat) : Int) ((s[k + 1].toNat : Nat) : Int) with
        | true =>
          go_wp2
          have w0 : IntKind.i64.wrap ((k : Int) + 1) = (k : Int) + 1 := IntWalk.i64_in _ (by omega)
          have w1 : ((k : Int) + 1).toNat = k + 1 := by omega
          have w2 : (0 : Int) ≤ (k : Int) + 1 := by omega
          
          go_quiet ((go_at_call 128; exact Calls.quiet_of_same (quiet_eq (implJoins _ _ _ hbb))))
          clear w0 hbb
          go_wp2_with (at_builtin; refine wpList_append_lies _ rfl _ _ 49 rfl w.heap.size 9 i0 (.string ByteArray.empty) 1 16 Try.underlying49 hi hz0 hz1 hz2 rfl (by decide) _ _ _ rfl ((own_below hown'.out (below_drewN (Below.refl _ _) _)).alloc _) ⟨wr.heap.size, 0, none⟩ 1 1 [.string (s.extract k (k + 2))] rfl rfl (fun j u hj => cell_one_at (by simp) hj) (one_str _) (by omega) (by unfold maxLen; omega) (by omega) (by simp; omega) _ rfl ?_)
          intro g3 cap3 w3 hown3 hg3 hat3 hlt3
          have hfin := hide (sg_rel (k' := k + 2) hL'.out (sg_two hlt (by unfold jn; rw [bl_getD s k hlt, bl_getD s (k + 1) h2]; simp [h2, hj])) (by omega) hown'.out ((below_drewN hb'.out _).alloc (by simpa using hbs) _) hown3 hg3)
          clear hown3 hg3 hat3 hlt3 hj
          go_wp2
          go_roundw
          case rel => exact ⟨k + 2, by omega, by go_num, hfin.out⟩
          case measure => simp [intOf]; omega
        | false =>
          go_wp2
          have w0 : IntKind.i64.wrap ((k : Int) + 1) = (k : Int) + 1 := IntWalk.i64_in _ (by omega)
          have w1 : ((k : Int) + 1).toNat = k + 1 := by omega
          have w2 : (0 : Int) ≤ (k : Int) + 1 := by omega
          
          go_quiet ((go_at_call 128; exact Calls.quiet_of_same (quiet_eq (implJoins _ _ _ hbb))))
          clear w0 hbb
          go_wp2_with (at_builtin; refine wpList_append_lies _ rfl _ _ 49 rfl w.heap.size 9 i0 (.string ByteArray.empty) 1 16 Try.underlying49 hi hz0 hz1 hz2 rfl (by decide) _ _ _ rfl ((own_below hown'.out (below_drewN (Below.refl _ _) _)).alloc _) ⟨wr.heap.size, 0, none⟩ 1 1 [.string (s.extract k (k + 1))] rfl rfl (fun j u hj => cell_one_at (by simp) hj) (one_str _) (by omega) (by unfold maxLen; omega) (by omega) (by simp; omega) _ rfl ?_)
          intro g3 cap3 w3 hown3 hg3 hat3 hlt3
          have hfin := hide (sg_rel (k' := k + 1) hL'.out (sg_one hlt (by unfold jn; rw [bl_getD s k hlt, bl_getD s (k + 1) h2]; simp [h2, hj])) (by omega) hown'.out ((below_drewN hb'.out _).alloc (by simpa using hbs) _) hown3 hg3)
          clear hown3 hg3 hat3 hlt3 hj
          go_wp2
          go_roundw
          case rel => exact ⟨k + 1, by omega, by go_num, hfin.out⟩
          case measure => simp [intOf]; omega
      · have hd : decide ((k : Int) + 1 < (s.size : Int)) = false := by simp; omega
        go_wp2
        have w0 : IntKind.i64.wrap ((k : Int) + 1) = (k : Int) + 1 := IntWalk.i64_in _ (by omega)
        have w1 : ((k : Int) + 1).toNat = k + 1 := by omega
        have w2 : (0 : Int) ≤ (k : Int) + 1 := by omega
        
        go_quiet (fail)
        clear w0
        go_wp2_with (at_builtin; refine wpList_append_lies _ rfl _ _ 49 rfl w.heap.size 9 i0 (.string ByteArray.empty) 1 16 Try.underlying49 hi hz0 hz1 hz2 rfl (by decide) _ _ _ rfl ((own_below hown'.out (below_drewN (Below.refl _ _) _)).alloc _) ⟨wr.heap.size, 0, none⟩ 1 1 [.string (s.extract k (k + 1))] rfl rfl (fun j u hj => cell_one_at (by simp) hj) (one_str _) (by omega) (by unfold maxLen; omega) (by omega) (by simp; omega) _ rfl ?_)
        intro g3 cap3 w3 hown3 hg3 hat3 hlt3
        have hfin := hide (sg_rel (k' := k + 1) hL'.out (sg_one hlt (by unfold jn; simp [h2])) (by omega) hown'.out ((below_drewN hb'.out _).alloc (by simpa using hbs) _) hown3 hg3)
        clear hown3 hg3 hat3 hlt3
        go_wp2
        go_roundw
        case rel => exact ⟨k + 1, by omega, by go_num, hfin.out⟩
        case measure => simp [intOf]; omega
    · have e := hide (sg_end hlt)
      go_wp2
      unfold RowS
      go_ret
      have := hL'.out
      rw [e.out, List.append_nil] at this
      rw [← this]
      exact ⟨_, rfl, hown'.out, hb'.out⟩
set_option maxHeartbeats 1000000 in
theorem specSigns1 (s : ByteArray) (w : World) (hs : s.size ≤ 1000000) (hv : wordB s = true) :
    Calls Try.prog 118 #[.string s] w (RowS (sg s 0) w) := by
  obtain ⟨i0, hi, hz0, hz1, hz2⟩ := info_parts str_info
  have hww := hide (fun W => specWord s W (by unfold maxLen; omega))
  have hk0 := hide (own_empty1 (Blk.new w 9 #[]) (Nat.le_refl _))
  go_enter Try.func118, Try.ntmps118
  go_wp2
  go_loopw [3, 4] (fun v i wr => ∃ k : Nat, k ≤ s.size ∧ i = .int .i64 k ∧ SgRel s w k v wr) (fun _ i _ => s.size - (intOf i).toNat)
  case atStart => exact ⟨0, Nat.zero_le _, rfl, [], rfl, Nat.le_refl _, hk0.out, by (repeat (first | exact Below.refl _ _ | assumption | refine Below.alloc ?_ (by first | assumption | omega | (simp; done) | (simp; omega)) _ | refine Below.setCell ?_ (by first | assumption | omega | (simp; done) | (simp; omega)) _ | refine below_drewN ?_ _ | refine Below.drew ?_))⟩
  case round =>
    obtain ⟨k, hk, rfl, L, hL, hLk, hown, hb⟩ := hrel
    have hL' := hide hL
    have hown' := hide hown
    have hb' := hide hb
    have hbs := hb.size
    clear hL hown hb
    by_cases hlt : k < s.size
    · by_cases h2 : k + 1 < s.size
      · have hd : decide ((k : Int) + 1 < (s.size : Int)) = true := by simp; omega
        have hbb := byte_bd s (k + 1) h2
        have h2i : (k : Int) + 1 < (s.size : Int) := by omega
        cases hj : joinB ((s[k].toNat : Nat) : Int) ((s[k + 1].toNat : Nat) : Int) with
        | true =>
          go_wp2_with fail
          refine (hww.out _).mono ?_
          rintro e w' ⟨rfl, rfl⟩
          rw [hv]
          go_wp2
          have w0 : IntKind.i64.wrap ((k : Int) + 1) = (k : Int) + 1 := IntWalk.i64_in _ (by omega)
          have w1 : ((k : Int) + 1).toNat = k + 1 := by omega
          have w2 : (0 : Int) ≤ (k : Int) + 1 := by omega
          
          go_quiet ((go_at_call 127; exact Calls.quiet_of_same (quiet_eq (specJoins _ _ _))))
          clear w0 hbb
          go_wp2_with (at_builtin; refine wpList_append_lies _ rfl _ _ 49 rfl w.heap.size 9 i0 (.string ByteArray.empty) 1 16 Try.underlying49 hi hz0 hz1 hz2 rfl (by decide) _ _ _ rfl ((own_below hown'.out (below_drewN (Below.refl _ _) _)).alloc _) ⟨wr.heap.size, 0, none⟩ 1 1 [.string (s.extract k (k + 2))] rfl rfl (fun j u hj => cell_one_at (by simp) hj) (one_str _) (by omega) (by unfold maxLen; omega) (by omega) (by simp; omega) _ rfl ?_)
          intro g3 cap3 w3 hown3 hg3 hat3 hlt3
          have hfin := hide (sg_rel (k' := k + 2) hL'.out (sg_two hlt (by unfold jn; rw [bl_getD s k hlt, bl_getD s (k + 1) h2]; simp [h2, hj])) (by omega) hown'.out ((below_drewN hb'.out _).alloc (by simpa using hbs) _) hown3 hg3)
          clear hown3 hg3 hat3 hlt3 hj
          go_wp2
          go_roundw
          case rel => exact ⟨k + 2, by omega, by go_num, hfin.out⟩
          case measure => simp [intOf]; omega
        | false =>
          go_wp2_with fail
          refine (hww.out _).mono ?_
          rintro e w' ⟨rfl, rfl⟩
          rw [hv]
          go_wp2
          have w0 : IntKind.i64.wrap ((k : Int) + 1) = (k : Int) + 1 := IntWalk.i64_in _ (by omega)
          have w1 : ((k : Int) + 1).toNat = k + 1 := by omega
          have w2 : (0 : Int) ≤ (k : Int) + 1 := by omega
          
          go_quiet ((go_at_call 127; exact Calls.quiet_of_same (quiet_eq (specJoins _ _ _))))
          clear w0 hbb
          go_wp2_with (at_builtin; refine wpList_append_lies _ rfl _ _ 49 rfl w.heap.size 9 i0 (.string ByteArray.empty) 1 16 Try.underlying49 hi hz0 hz1 hz2 rfl (by decide) _ _ _ rfl ((own_below hown'.out (below_drewN (Below.refl _ _) _)).alloc _) ⟨wr.heap.size, 0, none⟩ 1 1 [.string (s.extract k (k + 1))] rfl rfl (fun j u hj => cell_one_at (by simp) hj) (one_str _) (by omega) (by unfold maxLen; omega) (by omega) (by simp; omega) _ rfl ?_)
          intro g3 cap3 w3 hown3 hg3 hat3 hlt3
          have hfin := hide (sg_rel (k' := k + 1) hL'.out (sg_one hlt (by unfold jn; rw [bl_getD s k hlt, bl_getD s (k + 1) h2]; simp [h2, hj])) (by omega) hown'.out ((below_drewN hb'.out _).alloc (by simpa using hbs) _) hown3 hg3)
          clear hown3 hg3 hat3 hlt3 hj
          go_wp2
          go_roundw
          case rel => exact ⟨k + 1, by omega, by go_num, hfin.out⟩
          case measure => simp [intOf]; omega
      · have hd : decide ((k : Int) + 1 < (s.size : Int)) = false := by simp; omega
        go_wp2_with fail
        refine (hww.out _).mono ?_
        rintro e w' ⟨rfl, rfl⟩
        rw [hv]
        go_wp2
        have w0 : IntKind.i64.wrap ((k : Int) + 1) = (k : Int) + 1 := IntWalk.i64_in _ (by omega)
        have w1 : ((k : Int) + 1).toNat = k + 1 := by omega
        have w2 : (0 : Int) ≤ (k : Int) + 1 := by omega
        
        go_quiet (fail)
        clear w0
        go_wp2_with (at_builtin; refine wpList_append_lies _ rfl _ _ 49 rfl w.heap.size 9 i0 (.string ByteArray.empty) 1 16 Try.underlying49 hi hz0 hz1 hz2 rfl (by decide) _ _ _ rfl ((own_below hown'.out (below_drewN (Below.refl _ _) _)).alloc _) ⟨wr.heap.size, 0, none⟩ 1 1 [.string (s.extract k (k + 1))] rfl rfl (fun j u hj => cell_one_at (by simp) hj) (one_str _) (by omega) (by unfold maxLen; omega) (by omega) (by simp; omega) _ rfl ?_)
        intro g3 cap3 w3 hown3 hg3 hat3 hlt3
        have hfin := hide (sg_rel (k' := k + 1) hL'.out (sg_one hlt (by unfold jn; simp [h2])) (by omega) hown'.out ((below_drewN hb'.out _).alloc (by simpa using hbs) _) hown3 hg3)
        clear hown3 hg3 hat3 hlt3
        go_wp2
        go_roundw
        case rel => exact ⟨k + 1, by omega, by go_num, hfin.out⟩
        case measure => simp [intOf]; omega
    · have e := hide (sg_end hlt)
      go_wp2
      unfold RowS
      go_ret
      have := hL'.out
      rw [e.out, List.append_nil] at this
      rw [← this]
      exact ⟨_, rfl, hown'.out, hb'.out⟩
theorem specSigns (s : ByteArray) (w : World) (hs : s.size ≤ maxLen) :
    Calls Try.prog 118 #[.string s] w (RowS (signsL s) w) := by
  cases h : wordB s with
  | true =>
    have h20 := (wordB_true h).2
    have := specSigns1 s w (by omega) h
    unfold signsL
    rw [if_pos h]
    exact this
  | false =>
    unfold signsL
    rw [if_neg (by rw [h]; exact Bool.false_ne_true)]
    have hww := hide (fun W => specWord s W hs)
    unfold maxLen at hs
    have hk0 := hide (own_empty1 (Blk.new w 9 #[]) (Nat.le_refl _))
    by_cases h0 : 0 < s.size
    · go_enter Try.func118, Try.ntmps118
      go_wp2
      refine wp_loop_rounds 1 ?_
      rw [rounds_succ]
      go_wp2_with fail
      refine (hww.out _).mono ?_
      rintro e w' ⟨rfl, rfl⟩
      rw [h]
      go_wp2
      unfold RowS
      go_ret
      exact ⟨_, rfl, hk0.out, by (repeat (first | exact Below.refl _ _ | assumption | refine Below.alloc ?_ (by first | assumption | omega | (simp; done) | (simp; omega)) _ | refine Below.setCell ?_ (by first | assumption | omega | (simp; done) | (simp; omega)) _ | refine below_drewN ?_ _ | refine Below.drew ?_))⟩
    · have hd : decide ((0 : Int) < (s.size : Int)) = false := decide_eq_false (by omega)
      go_enter Try.func118, Try.ntmps118
      go_wp2
      refine wp_loop_rounds 1 ?_
      rw [rounds_succ]
      go_wp2
      unfold RowS
      go_ret
      exact ⟨_, rfl, hk0.out, by (repeat (first | exact Below.refl _ _ | assumption | refine Below.alloc ?_ (by first | assumption | omega | (simp; done) | (simp; omega)) _ | refine Below.setCell ?_ (by first | assumption | omega | (simp; done) | (simp; omega)) _ | refine below_drewN ?_ _ | refine Below.drew ?_))⟩
end Go.Proofs.Ytocaonlmlafjmaa

/- The walks through the width of a word. No condition but the model's own bound on a text's length. -/
namespace Go.Proofs.Ytocaonlmlafjmaa
open Go.RowKit
set_option linter.unusedVariables false
set_option linter.unusedSimpArgs false
set_option maxRecDepth 100000

theorem getD_some {α : Type} {l : List α} {k : Nat} {x d : α} (h : l[k]? = some x) : l.getD k d = x := by
  rw [List.getD_eq_getElem?_getD, h]; rfl
theorem ww_step0 {L : List ByteArray} {k : Nat} {t : ByteArray} (ht : L[k]? = some t) (hk : ¬ k + 1 < L.length) : wwTo L (k + 1) = wwTo L k + lettersW t - (t.size : Int) + 1 := by
  rw [wwTo, cW, getD_some ht, if_neg hk]; omega
theorem ww_step1 {L : List ByteArray} {k : Nat} {t u : ByteArray} (ht : L[k]? = some t) (hu : L[k + 1]? = some u) (h1 : t.size - 1 < t.size) (h2 : 0 < u.size) :
    wwTo L (k + 1) = wwTo L k + lettersW t - (t.size : Int) + 1 - nearI ((t[t.size - 1].toNat : Nat) : Int) ((u[0].toNat : Nat) : Int) := by
  have hlt := (List.getElem?_eq_some_iff.1 hu).1
  rw [wwTo, cW, getD_some ht, getD_some hu, if_pos hlt, bl_getD t _ h1, bl_getD u 0 h2]
  omega
theorem letters_step {t : ByteArray} {j : Nat} (h : j < t.size) : sumOf lw ((bl t).take (j + 1)) = sumOf lw ((bl t).take j) + lw ((t[j].toNat : Nat) : Int) := by
  rw [take_snoc' _ _ _ (bl_at t j h), sumOf_snoc]
theorem letters_all {t : ByteArray} {j : Nat} (h : ¬ j < t.size) : sumOf lw ((bl t).take j) = lettersW t := by
  rw [List.take_of_length_le (by rw [bl_len]; omega)]; rfl
theorem letters_bd (t : ByteArray) (j : Nat) (h : t.size ≤ 2) : 0 ≤ sumOf lw ((bl t).take j) ∧ sumOf lw ((bl t).take j) ≤ 16 := by
  have h1 := sumOf_bd lw 8 ((bl t).take j) (fun c _ => lw_bd c)
  have h2 : ((bl t).take j).length ≤ 2 := by rw [List.length_take, bl_len]; omega
  omega
theorem ww_bd {L : List ByteArray} (h : ∀ t ∈ L, 1 ≤ t.size ∧ t.size ≤ 2) (h20 : L.length ≤ 20) (k : Nat) (hk : k ≤ L.length) : -40 ≤ wwTo L k ∧ wwTo L k ≤ 320 := by
  have := wwTo_bd L h k hk
  omega

set_option maxRecDepth 100000 in
set_option maxHeartbeats 2000000 in
theorem specWidth (s : ByteArray) (w : World) (hs : s.size ≤ maxLen) :
    Calls Try.prog 109 #[.string s] w fun e w' => e = .returned (.int .i64 (widthW s)) ∧ Below w.heap.size w w' := by
  have hsg := hide (specSigns s w hs)
  have hLs := signsL_size s
  have hL20 := signsL_bd s
  have hnil := signsL_nil s
  have hW : wordB s = true → wwTo (signsL s) (signsL s).length = widthW s := fun h => by unfold widthW signsL; rw [if_pos h, if_pos h]
  have hW0 : wordB s = false → widthW s = -1 := fun h => by unfold widthW; rw [if_neg (by rw [h]; exact Bool.false_ne_true)]
  generalize signsL s = L at *
  cases hv : wordB s with
  | false =>
    obtain rfl : L = [] := hnil.2 hv
    rw [hW0 hv]
    clear hW hW0 hLs hL20 hnil hv
    go_enter Try.func109, Try.ntmps109
    go_wp2_with fail
    refine hsg.out.mono ?_
    rintro e w1 ⟨v, rfl, hown, hb⟩
    obtain ⟨A, c, rfl, _, _⟩ := own_form hown
    go_wp2
    go_ret
    exact ⟨rfl, hb⟩
  | true =>
    rw [← hW hv]
    have hLp : 0 < L.length := by
      rcases Nat.eq_zero_or_pos L.length with h | h
      · have := hnil.1 (List.length_eq_zero_iff.1 h)
        rw [hv] at this; cases this
      · exact h
    clear hW hW0 hnil
    obtain ⟨m, hm⟩ : ∃ m, L.length = m := ⟨_, rfl⟩
    rw [hm] at hLp hL20
    have hm' := hide hm
    have hLs' := hide hLs
    have hd0 : (((m : Nat) : Int) == 0) = false := by simp; omega
    rw [hm]
    clear hm hLs
    go_enter Try.func109, Try.ntmps109
    go_wp2_with fail
    refine hsg.out.mono ?_
    rintro e w1 ⟨v, rfl, hown, hb⟩
    obtain ⟨A, c, rfl, _, hrd⟩ := own_form hown
    rw [hm'.out] at hrd ⊢
    have hrd' := hide hrd
    have hb' := hide hb
    have hbs := hb.size
    clear hown hb hrd
    go_wp2
    go_loopw [4, 5] (fun q i wr => ∃ (k : Nat) (x : Int), k ≤ m ∧ i = .int .i64 k ∧ q = .int .i64 x ∧ Hid (x = wwTo L k) ∧ Below w1.heap.size w1 wr) (fun _ i _ => m - (intOf i).toNat)
    case atStart => exact ⟨0, 0, Nat.zero_le _, rfl, rfl, rfl, Below.refl _ _⟩
    case round =>
      obtain ⟨k, x, hk, rfl, rfl, hx, hwr⟩ := hrel
      have hwr' := hide hwr
      have hxb : -40 ≤ x ∧ x ≤ 320 := by rw [hx.out]; exact ww_bd hLs'.out (by rw [hm'.out]; exact hL20) k (by rw [hm'.out]; exact hk)
      by_cases hlt : k < m
      · obtain ⟨b, off, t, rfl, hbk, ht, c0⟩ := (hrd'.out.below hwr).str hm'.out hlt
        have ht' := hide ht
        have hts := hLs'.out t (List.mem_of_getElem? ht)
        have htb := hide (letters_bd t)
        obtain ⟨wo, rfl⟩ : ∃ wo : World, wo = wr := ⟨_, rfl⟩
        have hki : (k : Int) < (m : Int) := by omega
        clear ht hwr
        go_wp2
        go_loop [4, 6] (fun q i => ∃ (j : Nat) (r : Int), j ≤ t.size ∧ i = .int .i64 j ∧ q = .int .i64 r ∧ Hid (r = x + sumOf lw ((bl t).take j))) (fun _ i => t.size - (intOf i).toNat)
        case atStart => exact ⟨0, x, Nat.zero_le _, rfl, rfl, by show x = x + sumOf lw ((bl t).take 0); simp [sumOf]⟩
        case round =>
          obtain ⟨j, r, hj, rfl, rfl, hr⟩ := hrel
          have hjb := htb.out j hts.2
          have hrb : -40 ≤ r ∧ r ≤ 336 := by have := hr.out; omega
          clear hjb
          by_cases hjt : j < t.size
          · have hst := hide (letters_step hjt)
            have hlw := lw_bd ((t[j].toNat : Nat) : Int)
            go_wp2_with (go_at_call 119; refine (specLW _ _).mono ?_; rintro e w' ⟨rfl, rfl⟩)
            go_round
            case rel => exact ⟨j + 1, _, by omega, by go_num, rfl, by show _ = x + _; rw [hst.out, hr.out]; omega⟩
            case measure => simp [intOf]; omega
          · have hall := hide (letters_all hjt)
            have hy := hide (show r - (t.size : Int) + 1 = wwTo L k + lettersW t - (t.size : Int) + 1 by have := hr.out; have := hx.out; rw [hall.out] at *; omega)
            have hd9 : (t.size : Int) ≤ 2 := by omega
            by_cases h2 : k + 1 < m
            · obtain ⟨b2, off2, u, hA, hbu, hu, c1⟩ := (hrd'.out.below hwr'.out).str hm'.out h2
              injection hA with hA
              injection hA with hA1 hA2
              subst hA1
              subst hA2
              have hus := hLs'.out u (List.mem_of_getElem? hu)
              have h0u : 0 < u.size := by omega
              have h1t : t.size - 1 < t.size := by omega
              have hst := hide (ww_step1 ht'.out hu h1t h0u)
              have hnb := nearI_bd ((t[t.size - 1].toNat : Nat) : Int) ((u[0].toNat : Nat) : Int)
              have hki2 : (k : Int) + 1 < (m : Int) := by omega
              have g1 : (0 : Int) ≤ (t.size : Int) - 1 := by omega
              have g2 : (t.size : Int) - 1 < (t.size : Int) := by omega
              have g3 : ((t.size : Int) - 1).toNat = t.size - 1 := by omega
              have g4 : (0 : Int) ≤ (k : Int) + 1 := by omega
              have g5 : ((k : Int) + 1).toNat = k + 1 := by omega
              have g6 : (0 : Int) < (u.size : Int) := by omega
              have g7 : (1 : Int) ≤ (t.size : Int) := by omega
              have c2 : wo.cell? ⟨b, off + (k + 1), none⟩ = some (.string u) := c1
              have hcl := hide hwr'.out
              clear hu c1 hnb
              go_wp2
              have hnb := nearI_bd ((t[t.size - 1].toNat : Nat) : Int) ((u[0].toNat : Nat) : Int)
              have q1 : IntKind.i64.wrap ((k : Int) + 1) = (k : Int) + 1 := IntWalk.i64_in _ (by omega)
              have q2 : IntKind.i64.wrap ((t.size : Int) - 1) = (t.size : Int) - 1 := IntWalk.i64_in _ (by omega)
              have q3 : IntKind.i64.wrap (r - (t.size : Int) + 1 - nearI ((t[t.size - 1].toNat : Nat) : Int) ((u[0].toNat : Nat) : Int)) = r - (t.size : Int) + 1 - nearI ((t[t.size - 1].toNat : Nat) : Int) ((u[0].toNat : Nat) : Int) := IntWalk.i64_in _ (by omega)
              clear hnb
              go_quiet ((go_at_call 120; exact Calls.quiet_of_same (quiet_eq (specNear _ _ _))))
              clear q1 q2 q3
              go_wp2
              go_roundw
              case rel => exact ⟨k + 1, _, by omega, by go_num, rfl, by show _ = _; rw [hst.out]; unfold wrap64; have := nearI_bd ((t[t.size - 1].toNat : Nat) : Int) ((u[0].toNat : Nat) : Int); have := hy.out; omega, below_drewN hcl.out _⟩
              case measure => simp [intOf]; omega
            · have hst := hide (ww_step0 ht'.out (by rw [hm'.out]; exact h2))
              have hd2 : decide ((k : Int) + 1 < (m : Int)) = false := decide_eq_false (by omega)
              go_wp2
              go_roundw
              case rel => exact ⟨k + 1, _, by omega, by go_num, rfl, by show _ = _; rw [hst.out]; have := hy.out; omega, hwr'.out⟩
              case measure => simp [intOf]; omega
      · obtain rfl : k = m := by omega
        have hx' := hide hx.out
        clear hwr
        go_wp2
        go_ret
        exact ⟨ret_int hx'.out, hb'.out.trans (hwr'.out.mono hbs)⟩
set_option maxRecDepth 100000 in
set_option maxHeartbeats 2000000 in
theorem implWidth (s : ByteArray) (w : World) (hs : s.size ≤ maxLen) :
    Calls Try.prog 110 #[.string s] w fun e w' => e = .returned (.int .i64 (widthW s)) ∧ Below w.heap.size w w' := by
  have hww := hide (implWord s w hs)
  cases hv : wordB s with
  | false =>
    have hW0 : widthW s = -1 := by unfold widthW; rw [if_neg (by rw [hv]; exact Bool.false_ne_true)]
    rw [hW0]
    clear hW0
    go_enter Try.func110, Try.ntmps110
    go_wp2_with fail
    refine hww.out.mono ?_
    rintro e w1 ⟨rfl, rfl⟩
    rw [hv]
    go_wp2
    go_ret
    exact ⟨rfl, Below.refl _ _⟩
  | true =>
    have hsz := (wordB_true hv).2
    have hsg := hide (implSigns0 s w (by omega))
    have hLs := sg_size s 0
    have hL20 : (sg s 0).length ≤ 20 := by have := sg_len s 0; omega
    have hW : wwTo (sg s 0) (sg s 0).length = widthW s := by unfold widthW; rw [if_pos hv]
    rw [← hW]
    clear hW hsz
    generalize sg s 0 = L at *
    obtain ⟨m, hm⟩ : ∃ m, L.length = m := ⟨_, rfl⟩
    rw [hm] at hL20
    have hm' := hide hm
    have hLs' := hide hLs
    rw [hm]
    clear hm hLs
    go_enter Try.func110, Try.ntmps110
    go_wp2_with fail
    refine hww.out.mono ?_
    rintro e w1 ⟨rfl, rfl⟩
    rw [hv]
    go_wp2_with fail
    refine hsg.out.mono ?_
    rintro e w1 ⟨v, rfl, hown, hb⟩
    obtain ⟨A, c, rfl, _, hrd⟩ := own_form hown
    rw [hm'.out] at hrd ⊢
    have hrd' := hide hrd
    have hb' := hide hb
    have hbs := hb.size
    clear hown hb hrd
    go_wp2
    go_loopw [3, 15] (fun q i wr => ∃ (k : Nat) (x : Int), k ≤ m ∧ i = .int .i64 k ∧ q = .int .i64 x ∧ Hid (x = wwTo L k) ∧ Below w1.heap.size w1 wr) (fun _ i _ => m - (intOf i).toNat)
    case atStart => exact ⟨0, 0, Nat.zero_le _, rfl, rfl, rfl, Below.refl _ _⟩
    case round =>
      obtain ⟨k, x, hk, rfl, rfl, hx, hwr⟩ := hrel
      have hwr' := hide hwr
      have hxb : -40 ≤ x ∧ x ≤ 320 := by rw [hx.out]; exact ww_bd hLs'.out (by rw [hm'.out]; exact hL20) k (by rw [hm'.out]; exact hk)
      by_cases hlt : k < m
      · obtain ⟨b, off, t, rfl, hbk, ht, c0⟩ := (hrd'.out.below hwr).str hm'.out hlt
        have ht' := hide ht
        have hts := hLs'.out t (List.mem_of_getElem? ht)
        have htb := hide (letters_bd t)
        obtain ⟨wo, rfl⟩ : ∃ wo : World, wo = wr := ⟨_, rfl⟩
        have hki : (k : Int) < (m : Int) := by omega
        clear ht hwr
        go_wp2
        go_loop [3, 22] (fun q i => ∃ (j : Nat) (r : Int), j ≤ t.size ∧ i = .int .i64 j ∧ q = .int .i64 r ∧ Hid (r = x + sumOf lw ((bl t).take j))) (fun _ i => t.size - (intOf i).toNat)
        case atStart => exact ⟨0, x, Nat.zero_le _, rfl, rfl, by show x = x + sumOf lw ((bl t).take 0); simp [sumOf]⟩
        case round =>
          obtain ⟨j, r, hj, rfl, rfl, hr⟩ := hrel
          have hjb := htb.out j hts.2
          have hrb : -40 ≤ r ∧ r ≤ 336 := by have := hr.out; omega
          clear hjb
          by_cases hjt : j < t.size
          · have hst := hide (letters_step hjt)
            have hlw := lw_bd ((t[j].toNat : Nat) : Int)
            go_wp2_with (go_at_call 122; refine (implLW _ _ (byte_bd t j hjt)).mono ?_; rintro e w' ⟨rfl, rfl⟩)
            go_round
            case rel => exact ⟨j + 1, _, by omega, by go_num, rfl, by show _ = x + _; rw [hst.out, hr.out]; omega⟩
            case measure => simp [intOf]; omega
          · have hall := hide (letters_all hjt)
            have hy := hide (show r - (t.size : Int) + 1 = wwTo L k + lettersW t - (t.size : Int) + 1 by have := hr.out; have := hx.out; rw [hall.out] at *; omega)
            have hd9 : (t.size : Int) ≤ 2 := by omega
            by_cases h2 : k + 1 < m
            · obtain ⟨b2, off2, u, hA, hbu, hu, c1⟩ := (hrd'.out.below hwr'.out).str hm'.out h2
              injection hA with hA
              injection hA with hA1 hA2
              subst hA1
              subst hA2
              have hus := hLs'.out u (List.mem_of_getElem? hu)
              have h0u : 0 < u.size := by omega
              have h1t : t.size - 1 < t.size := by omega
              have hst := hide (ww_step1 ht'.out hu h1t h0u)
              have hnb := nearI_bd ((t[t.size - 1].toNat : Nat) : Int) ((u[0].toNat : Nat) : Int)
              have hki2 : (k : Int) + 1 < (m : Int) := by omega
              have g1 : (0 : Int) ≤ (t.size : Int) - 1 := by omega
              have g2 : (t.size : Int) - 1 < (t.size : Int) := by omega
              have g3 : ((t.size : Int) - 1).toNat = t.size - 1 := by omega
              have g4 : (0 : Int) ≤ (k : Int) + 1 := by omega
              have g5 : ((k : Int) + 1).toNat = k + 1 := by omega
              have g6 : (0 : Int) < (u.size : Int) := by omega
              have g7 : (1 : Int) ≤ (t.size : Int) := by omega
              have c2 : wo.cell? ⟨b, off + (k + 1), none⟩ = some (.string u) := c1
              have hcl := hide hwr'.out
              clear hu c1 hnb
              go_wp2
              have hnb := nearI_bd ((t[t.size - 1].toNat : Nat) : Int) ((u[0].toNat : Nat) : Int)
              have q1 : IntKind.i64.wrap ((k : Int) + 1) = (k : Int) + 1 := IntWalk.i64_in _ (by omega)
              have q2 : IntKind.i64.wrap ((t.size : Int) - 1) = (t.size : Int) - 1 := IntWalk.i64_in _ (by omega)
              have q3 : IntKind.i64.wrap (r - (t.size : Int) + 1 - nearI ((t[t.size - 1].toNat : Nat) : Int) ((u[0].toNat : Nat) : Int)) = r - (t.size : Int) + 1 - nearI ((t[t.size - 1].toNat : Nat) : Int) ((u[0].toNat : Nat) : Int) := IntWalk.i64_in _ (by omega)
              clear hnb
              go_quiet ((go_at_call 123; exact Calls.quiet_of_same (quiet_eq (implNear _ _ _ (byte_bd t _ h1t) (byte_bd u 0 h0u)))))
              clear q1 q2 q3
              go_wp2
              go_roundw
              case rel => exact ⟨k + 1, _, by omega, by go_num, rfl, by show _ = _; rw [hst.out]; unfold wrap64; have := nearI_bd ((t[t.size - 1].toNat : Nat) : Int) ((u[0].toNat : Nat) : Int); have := hy.out; omega, below_drewN hcl.out _⟩
              case measure => simp [intOf]; omega
            · have hst := hide (ww_step0 ht'.out (by rw [hm'.out]; exact h2))
              have hd2 : decide ((k : Int) + 1 < (m : Int)) = false := decide_eq_false (by omega)
              go_wp2
              go_roundw
              case rel => exact ⟨k + 1, _, by omega, by go_num, rfl, by show _ = _; rw [hst.out]; have := hy.out; omega, hwr'.out⟩
              case measure => simp [intOf]; omega
      · obtain rfl : k = m := by omega
        have hx' := hide hx.out
        clear hwr
        go_wp2
        go_ret
        exact ⟨ret_int hx'.out, hb'.out.trans (hwr'.out.mono hbs)⟩
end Go.Proofs.Ytocaonlmlafjmaa
