/- The walks through the tests of two letters, and the width of a letter. Condition: the letters are bytes. -/
import Derived.Test.YtfhhfibjjpiccaaLet
import Derived.Lib.Bytealg
import Derived.Lib.RabinKarpLaws
namespace Go.Proofs.Ytfhhfibjjpiccaa
open Go.RowKit
set_option linter.unusedVariables false
set_option linter.unusedSimpArgs false

theorem indexByte_any (l : List UInt8) (c : UInt8) : decide (0 ≤ Lib.indexByte l c) = l.any (· == c) := by
  induction l with
  | nil => rfl
  | cons b l ih =>
    have hge := Lib.indexByte_ge l c
    unfold Lib.indexByte
    rw [List.any_cons, ← ih]
    by_cases h : b = c
    · simp [h]
    · have hb : (b == c) = false := by simpa using h
      simp only [hb, Bool.false_or]
      generalize Lib.indexByte l c = r at hge
      by_cases h2 : r < 0
      · simp [h2]; omega
      · simp [h2]; omega
theorem amB_any (s : ByteArray) (c : Int) (hc : 0 ≤ c ∧ c ≤ 255) : (s.data.toList.any (· == c.toNat.toUInt8)) = amB (bl s) c := by
  obtain ⟨n, rfl⟩ := Int.eq_ofNat_of_zero_le hc.1
  have hn : n < 256 := by omega
  unfold amB bl
  rw [List.any_map]
  congr 1
  funext x
  simp only [Function.comp, Int.toNat_natCast]
  rw [Bool.eq_iff_iff]
  simp only [beq_iff_eq]
  constructor
  · intro h
    have h2 := congrArg UInt8.toNat h
    rw [Nat.toUInt8_eq, UInt8.toNat_ofNat'] at h2
    have : n % 256 = n := Nat.mod_eq_of_lt hn
    omega
  · intro h
    have h2 : x.toNat = n := by omega
    apply UInt8.toNat_inj.1
    rw [Nat.toUInt8_eq, UInt8.toNat_ofNat', h2]
    exact (Nat.mod_eq_of_lt hn).symm
set_option maxRecDepth 100000 in
set_option maxHeartbeats 1000000 in
theorem stringslite_any (s : ByteArray) (c : Int) (w : World) :
    Calls Try.prog 78 #[.string s, .int .u8 c] w fun e w' => e = .returned (.int .i64 (Lib.indexByte s.data.toList c.toNat.toUInt8)) ∧ w = w' := by
  go_enter Try.func78, Try.ntmps78
  go_wp2
  rw [run_callFunc_extern Try.func84 (by kernel_rfl) (by kernel_rfl) (by kernel_rfl) (e := Extern.BytealgIndexByte.indexByte) (by kernel_rfl), Lib.run_indexByteString]
  simp only [Result.andThen]
  rw [Oper.upon_value]
  go_wp2
  go_ret
  exact ⟨rfl, rfl⟩
theorem indexByte_go (s : ByteArray) (c : Int) (w : World) :
    Calls Try.prog 68 #[.string s, .int .u8 c] w fun e w' => e = .returned (.int .i64 (Lib.indexByte s.data.toList c.toNat.toUInt8)) ∧ w = w' := by
  go_enter Try.func68, Try.ntmps68
  go_wp2_with (go_at_call 78; refine (stringslite_any _ _ _).mono ?_; rintro e w' ⟨rfl, rfl⟩)
  go_ret
  exact ⟨rfl, rfl⟩
theorem among_any (c : Int) (s : ByteArray) (w : World) (hc : 0 ≤ c ∧ c ≤ 255) :
    Calls Try.prog 51 #[.int .u8 c, .string s] w fun e w' => e = .returned (.bool (amB (bl s) c)) ∧ w = w' := by
  have e := hide ((indexByte_any s.data.toList c.toNat.toUInt8).trans (amB_any s c hc))
  clear hc
  go_enter Try.func51, Try.ntmps51
  go_wp2_with (go_at_call 68; refine (indexByte_go _ _ _).mono ?_; rintro e w' ⟨rfl, rfl⟩)
  go_ret
  exact ⟨by rw [← e.out]; rfl, rfl⟩
theorem amB4 (a b c d x : Int) : amB [a, b, c, d] x = (a == x || (b == x || (c == x || d == x))) := by simp [amB]
theorem amB3 (a b c x : Int) : amB [a, b, c] x = (a == x || (b == x || c == x)) := by simp [amB]
theorem amB2 (a b x : Int) : amB [a, b] x = (a == x || b == x) := by simp [amB]
theorem implJoins (a b : Int) (w : World) (hb : 0 ≤ b ∧ b ≤ 255) :
    Calls Try.prog 13 #[.int .u8 a, .int .u8 b] w fun e w' => e = .returned (.bool (joinB a b)) ∧ w = w' := by
  by_cases h : a = 102
  · subst h
    go_enter Try.func13, Try.ntmps13
    go_wp2_with (go_at_call 51; refine (among_any _ _ _ hb).mono ?_; rintro e w' ⟨rfl, rfl⟩)
    go_ret
    exact ⟨rfl, rfl⟩
  · have hd : (a == 102) = false := by simpa using h
    have e : joinB a b = false := by simp [joinB, h]
    rw [e]; clear e hb h
    go_enter Try.func13, Try.ntmps13
    go_wp2
    go_ret
    exact ⟨rfl, rfl⟩
theorem specJoins (a b : Int) (w : World) :
    Calls Try.prog 14 #[.int .u8 a, .int .u8 b] w fun e w' => e = .returned (.bool (joinB a b)) ∧ w = w' := by
  by_cases h : a = 102
  · subst h
    have e : joinB 102 b = ((b == 105) || (b == 106) || (b == 108) || (b == 102)) := by
      unfold joinB; rw [amB4]; simp only [BEq.rfl, Bool.true_and, Bool.or_assoc, Bool.beq_comm (b := b)]
    rw [e]; clear e
    go_enter Try.func14, Try.ntmps14
    cases h1 : (b == 105) with
    | true =>
      go_wp2
      go_ret
      exact ⟨rfl, rfl⟩
    | false =>
      cases h2 : (b == 106) with
      | true =>
        go_wp2
        go_ret
        exact ⟨rfl, rfl⟩
      | false =>
        cases h3 : (b == 108) with
        | true =>
          go_wp2
          go_ret
          exact ⟨rfl, rfl⟩
        | false =>
          go_wp2
          go_ret
          all_goals exact ⟨by simp, rfl⟩
  · have hd : (a == 102) = false := by simpa using h
    have e : joinB a b = false := by simp [joinB, h]
    rw [e]; clear e h
    go_enter Try.func14, Try.ntmps14
    go_wp2
    go_ret
    exact ⟨rfl, rfl⟩
end Go.Proofs.Ytfhhfibjjpiccaa
