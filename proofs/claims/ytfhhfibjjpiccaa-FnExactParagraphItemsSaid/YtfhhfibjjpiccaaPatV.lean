/- The walks through the validity of a pattern. No condition but the model's own bound on a text's length. -/
import Derived.Test.YtfhhfibjjpiccaaLet
import Derived.Test.YtfhhfibjjpiccaaPatMath
namespace Go.Proofs.Ytfhhfibjjpiccaa
open Go.RowKit
set_option linter.unusedVariables false
set_option linter.unusedSimpArgs false

theorem gD {l : List Int} {k : Nat} {c : Int} (hc : l[k]? = some c) : l.getD k 0 = c := by
  rw [List.getD_eq_getElem?_getD, hc]; rfl
theorem pOk_sm {l : List Int} {k : Nat} {c : Int} (hc : l[k]? = some c) (h : isSm c = true) : pOk l k = true := by
  unfold pOk; rw [gD hc, h]; rfl
theorem pOk_pt {l : List Int} {k : Nat} {c : Int} (hc : l[k]? = some c) (h : c = 46) : pOk l k = ends l k := by
  unfold pOk; rw [gD hc, h]; simp [isSm, isDg]
theorem pOk_dg {l : List Int} {k : Nat} {c : Int} (hc : l[k]? = some c) (h : isDg c = true) : pOk l k = !dgPrev l k := by
  unfold pOk
  have h46 : (c == 46) = false := by simp [isDg] at h; simp; omega
  rw [gD hc, h, dg_not_sm h, h46]; simp
theorem pOk_none {l : List Int} {k : Nat} {c : Int} (hc : l[k]? = some c) (h1 : isSm c = false) (h2 : isDg c = false) (h3 : c ≠ 46) : pOk l k = false := by
  unfold pOk
  rw [gD hc, h1, h2]; simp [h3]
theorem dgPrev_succ {l : List Int} {k : Nat} {c : Int} (hc : l[k]? = some c) : dgPrev l (k + 1) = isDg c := by
  unfold dgPrev; rw [Nat.add_sub_cancel, gD hc]; simp
theorem dgPrev_zero (l : List Int) : dgPrev l 0 = false := by simp [dgPrev]
theorem ends_no {l : List Int} {k : Nat} (h1 : k ≠ 0) (h2 : k + 1 ≠ l.length) : ends l k = false := by
  simp [ends, h1, h2]
theorem ends_z (l : List Int) : ends l 0 = true := by simp [ends]
theorem ends_l {l : List Int} {k : Nat} (h2 : k + 1 = l.length) : ends l k = true := by
  simp [ends, h2]
theorem pAll_step {l : List Int} {k : Nat} (h : pAll l k = true) (hp : pOk l k = true) : pAll l (k + 1) = true := by
  rw [pAll_succ, h, hp]; rfl
theorem small_case (c : Int) : (isSm c = true) ∨ (c = 46) ∨ (isDg c = true) ∨ (isSm c = false ∧ isDg c = false ∧ c ≠ 46) := by
  cases h1 : isSm c with
  | true => exact .inl rfl
  | false =>
    cases h2 : isDg c with
    | true => exact .inr (.inr (.inl rfl))
    | false =>
      by_cases h3 : c = 46
      · exact .inr (.inl h3)
      · exact .inr (.inr (.inr ⟨rfl, rfl, h3⟩))
theorem isSm_bd {c : Int} (h : isSm c = true) : 97 ≤ c ∧ c ≤ 122 := by simpa [isSm] using h
theorem isDg_bd {c : Int} (h : isDg c = true) : 48 ≤ c ∧ c ≤ 57 := by simpa [isDg] using h
theorem isSm_nb {c : Int} (h : isSm c = false) : c < 97 ∨ 122 < c := by simp [isSm] at h; omega
theorem isDg_nb {c : Int} (h : isDg c = false) : c < 48 ∨ 57 < c := by simp [isDg] at h; omega
theorem specPat (s : ByteArray) (w : World) (hs : s.size ≤ maxLen) :
    Calls Try.prog 73 #[.string s] w fun e w' => e = .returned (.bool (patB s)) ∧ w = w' := by
  unfold maxLen at hs
  go_enter Try.func73, Try.ntmps73
  go_wp2
  go_loop [3, 4, 5] (fun q d i => ∃ (k : Nat) (x : Int) (b : Bool), k ≤ s.size ∧ i = .int .i64 k ∧ q = .int .i64 x ∧ d = .bool b ∧ Hid (x = smN (bl s) k) ∧ Hid (b = dgPrev (bl s) k) ∧ Hid (pAll (bl s) k = true)) (fun _ _ i => s.size - (intOf i).toNat)
  case atStart => exact ⟨0, 0, false, Nat.zero_le _, rfl, rfl, rfl, (smN_zero _).symm, (dgPrev_zero _).symm, rfl⟩
  case round =>
    obtain ⟨k, x, b, hk, rfl, rfl, rfl, hx, hb, hall⟩ := hrel
    have hxb : 0 ≤ x ∧ x ≤ k := by rw [hx.out]; exact smN_bd _ _
    by_cases hlt : k < s.size
    · have hc := hide (bl_at s k hlt)
      rcases small_case ((s[k].toNat : Nat) : Int) with h | h | h | ⟨h1, h2, h3⟩
      · have hin := isSm_bd h
        have hh := hide h
        clear h
        have st := hide (pAll_step hall.out (pOk_sm hc.out hh.out))
        have sd := hide (dgPrev_succ hc.out)
        have sn := hide (smN_yes hc.out hh.out)
        go_wp2
        go_round
        case rel => exact ⟨k + 1, _, false, by omega, by go_num, rfl, rfl, by show _ = _; rw [sn.out, ← hx.out], by show _ = _; rw [sd.out]; exact (sm_not_dg hh.out).symm, st.out⟩
        case measure => simp [intOf]; omega
      · have hh := hide h
        have t1 : decide (97 ≤ ((s[k].toNat : Nat) : Int)) = false := decide_eq_false (by omega)
        have t2 : (((s[k].toNat : Nat) : Int) == 46) = true := by simpa using h
        clear h
        have hns := hide (show isSm ((s[k].toNat : Nat) : Int) = false by rw [hh.out]; rfl)
        have hnd := hide (show isDg ((s[k].toNat : Nat) : Int) = false by rw [hh.out]; rfl)
        by_cases k0 : k = 0
        · have u1 : (((k : Nat) : Int) == 0) = true := by simp [k0]
          have hok := hide (show pOk (bl s) k = true by rw [pOk_pt hc.out hh.out, k0]; exact ends_z _)
          clear k0
          have st := hide (pAll_step hall.out hok.out)
          have sd := hide (dgPrev_succ hc.out)
          have sn := hide (smN_no hc.out hns.out)
          go_wp2
          go_round
          case rel => exact ⟨k + 1, _, false, by omega, by go_num, rfl, rfl, by show _ = _; rw [sn.out, ← hx.out], by show _ = _; rw [sd.out]; exact hnd.out.symm, st.out⟩
          case measure => simp [intOf]; omega
        · have u1 : (((k : Nat) : Int) == 0) = false := by simp; omega
          by_cases k1 : k + 1 = s.size
          · have u2 : (((k : Nat) : Int) == (s.size : Int) - 1) = true := by simp; omega
            have hok := hide (show pOk (bl s) k = true by rw [pOk_pt hc.out hh.out]; exact ends_l (by rw [bl_len]; exact k1))
            clear k0 k1
            have st := hide (pAll_step hall.out hok.out)
            have sd := hide (dgPrev_succ hc.out)
            have sn := hide (smN_no hc.out hns.out)
            go_wp2
            go_round
            case rel => exact ⟨k + 1, _, false, by omega, by go_num, rfl, rfl, by show _ = _; rw [sn.out, ← hx.out], by show _ = _; rw [sd.out]; exact hnd.out.symm, st.out⟩
            case measure => simp [intOf]; omega
          · have u2 : (((k : Nat) : Int) == (s.size : Int) - 1) = false := by simp; omega
            have hok := hide (show pOk (bl s) k = false by rw [pOk_pt hc.out hh.out]; exact ends_no k0 (by rw [bl_len]; exact k1))
            have u3 : decide (48 ≤ ((s[k].toNat : Nat) : Int)) = false := decide_eq_false (by have := hh.out; omega)
            clear k0 k1
            have e := hide (patB_no hlt (hok.out))
            go_wp2
            go_ret
            exact ⟨by rw [e.out]; rfl, rfl⟩
      · have hin := isDg_bd h
        have hh := hide h
        have t1 : decide (97 ≤ ((s[k].toNat : Nat) : Int)) = false := decide_eq_false (by omega)
        have t2 : (((s[k].toNat : Nat) : Int) == 46) = false := by simp; omega
        clear h
        cases b with
        | true =>
          have hok := hide (show pOk (bl s) k = false by rw [pOk_dg hc.out hh.out, ← hb.out]; rfl)
          have e := hide (patB_no hlt (hok.out))
          go_wp2
          go_ret
          exact ⟨by rw [e.out]; rfl, rfl⟩
        | false =>
          have hok := hide (show pOk (bl s) k = true by rw [pOk_dg hc.out hh.out, ← hb.out]; rfl)
          have st := hide (pAll_step hall.out hok.out)
          have sd := hide (dgPrev_succ hc.out)
          have sn := hide (smN_no hc.out (dg_not_sm hh.out))
          go_wp2
          go_round
          case rel => exact ⟨k + 1, _, true, by omega, by go_num, rfl, rfl, by show _ = _; rw [sn.out, ← hx.out], by show _ = _; rw [sd.out]; exact hh.out.symm, st.out⟩
          case measure => simp [intOf]; omega
      · have hok := hide (pOk_none hc.out h1 h2 h3)
        have t2 : (((s[k].toNat : Nat) : Int) == 46) = false := by simpa using h3
        have n1 := isSm_nb h1
        have n2 := isDg_nb h2
        clear h1 h2 h3
        by_cases m1 : ((s[k].toNat : Nat) : Int) < 48
        · have t1 : decide (97 ≤ ((s[k].toNat : Nat) : Int)) = false := decide_eq_false (by omega)
          have t3 : decide (48 ≤ ((s[k].toNat : Nat) : Int)) = false := decide_eq_false (by omega)
          clear n1 n2 m1
          have e := hide (patB_no hlt (hok.out))
          go_wp2
          go_ret
          exact ⟨by rw [e.out]; rfl, rfl⟩
        · by_cases m2 : ((s[k].toNat : Nat) : Int) < 97
          · have t1 : decide (97 ≤ ((s[k].toNat : Nat) : Int)) = false := decide_eq_false (by omega)
            have t3 : decide (((s[k].toNat : Nat) : Int) ≤ 57) = false := decide_eq_false (by omega)
            have t4 : 48 ≤ ((s[k].toNat : Nat) : Int) := by omega
            clear n1 n2 m1 m2
            have e := hide (patB_no hlt (hok.out))
            go_wp2
            go_ret
            exact ⟨by rw [e.out]; rfl, rfl⟩
          · have t1 : decide (((s[k].toNat : Nat) : Int) ≤ 122) = false := decide_eq_false (by omega)
            have t3 : decide (((s[k].toNat : Nat) : Int) ≤ 57) = false := decide_eq_false (by omega)
            have t4 : 97 ≤ ((s[k].toNat : Nat) : Int) := by omega
            clear n1 n2 m1 m2
            have e := hide (patB_no hlt (hok.out))
            go_wp2
            go_ret
            exact ⟨by rw [e.out]; rfl, rfl⟩
    · have hke : k = s.size := by omega
      have e := hide (patB_end hall.out hke)
      by_cases hp : 0 < x
      · have hp' := hide (show decide (0 < smN (bl s) k) = true by rw [← hx.out]; simpa using hp)
        go_wp2
        go_ret
        exact ⟨by rw [e.out, hp'.out, Bool.true_and]; rfl, rfl⟩
      · have hp' := hide (show decide (0 < smN (bl s) k) = false by rw [← hx.out]; simpa using hp)
        have hp2 : decide (0 < x) = false := by simpa using hp
        clear hp
        go_wp2
        go_ret
        exact ⟨by rw [e.out, hp'.out, Bool.false_and]; rfl, rfl⟩
theorem dgPrev_pos {l : List Int} {k : Nat} {c : Int} (hk : 0 < k) (hc : l[k - 1]? = some c) : dgPrev l k = isDg c := by
  unfold dgPrev; rw [gD hc]; simp [hk]
theorem implPat (s : ByteArray) (w : World) (hs : s.size ≤ maxLen) :
    Calls Try.prog 82 #[.string s] w fun e w' => e = .returned (.bool (patB s)) ∧ w = w' := by
  unfold maxLen at hs
  go_enter Try.func82, Try.ntmps82
  go_wp2
  go_loop [3, 8] (fun q i => ∃ (k : Nat) (x : Int), k ≤ s.size ∧ i = .int .i64 k ∧ q = .int .i64 x ∧ Hid (x = smN (bl s) k) ∧ Hid (pAll (bl s) k = true)) (fun _ i => s.size - (intOf i).toNat)
  case atStart => exact ⟨0, 0, Nat.zero_le _, rfl, rfl, (smN_zero _).symm, rfl⟩
  case round =>
    obtain ⟨k, x, hk, rfl, rfl, hx, hall⟩ := hrel
    have hxb : 0 ≤ x ∧ x ≤ k := by rw [hx.out]; exact smN_bd _ _
    by_cases hlt : k < s.size
    · have hc := hide (bl_at s k hlt)
      rcases small_case ((s[k].toNat : Nat) : Int) with h | h | h | ⟨h1, h2, h3⟩
      · have hh := hide h
        have st := hide (pAll_step hall.out (pOk_sm hc.out hh.out))
        have sn := hide (smN_yes hc.out hh.out)
        go_wp2_with (first | (go_at_call 53; refine (isSmall_any _ _).mono ?_; rintro e w' ⟨rfl, rfl⟩) | (go_at_call 87; refine (isDigit_any _ _).mono ?_; rintro e w' ⟨rfl, rfl⟩))
        go_round
        case rel => exact ⟨k + 1, _, by omega, by go_num, rfl, by show _ = _; rw [sn.out, ← hx.out], st.out⟩
        case measure => simp [intOf]; omega
      · have hh := hide h
        have t2 : (((s[k].toNat : Nat) : Int) == 46) = true := by simpa using h
        have hns : isSm ((s[k].toNat : Nat) : Int) = false := by rw [hh.out]; rfl
        have hnd : isDg ((s[k].toNat : Nat) : Int) = false := by rw [hh.out]; rfl
        have hns' := hide hns
        clear h
        by_cases k0 : k = 0
        · have u1 : (((k : Nat) : Int) != 0) = false := by simp [k0]
          have hok := hide (show pOk (bl s) k = true by rw [pOk_pt hc.out hh.out, k0]; exact ends_z _)
          clear k0
          have st := hide (pAll_step hall.out hok.out)
          have sn := hide (smN_no hc.out hns'.out)
          go_wp2_with (first | (go_at_call 53; refine (isSmall_any _ _).mono ?_; rintro e w' ⟨rfl, rfl⟩) | (go_at_call 87; refine (isDigit_any _ _).mono ?_; rintro e w' ⟨rfl, rfl⟩))
          go_round
          case rel => exact ⟨k + 1, _, by omega, by go_num, rfl, by show _ = _; rw [sn.out, ← hx.out], st.out⟩
          case measure => simp [intOf]; omega
        · have u1 : (((k : Nat) : Int) != 0) = true := by simp; omega
          by_cases k1 : k + 1 = s.size
          · have u2 : (((k : Nat) : Int) != (s.size : Int) - 1) = false := by simp; omega
            have hok := hide (show pOk (bl s) k = true by rw [pOk_pt hc.out hh.out]; exact ends_l (by rw [bl_len]; exact k1))
            clear k0 k1
            have st := hide (pAll_step hall.out hok.out)
            have sn := hide (smN_no hc.out hns'.out)
            go_wp2_with (first | (go_at_call 53; refine (isSmall_any _ _).mono ?_; rintro e w' ⟨rfl, rfl⟩) | (go_at_call 87; refine (isDigit_any _ _).mono ?_; rintro e w' ⟨rfl, rfl⟩))
            go_round
            case rel => exact ⟨k + 1, _, by omega, by go_num, rfl, by show _ = _; rw [sn.out, ← hx.out], st.out⟩
            case measure => simp [intOf]; omega
          · have u2 : (((k : Nat) : Int) != (s.size : Int) - 1) = true := by simp; omega
            have hok := hide (show pOk (bl s) k = false by rw [pOk_pt hc.out hh.out]; exact ends_no k0 (by rw [bl_len]; exact k1))
            clear k0 k1
            have e := hide (patB_no hlt (hok.out))
            go_wp2_with (first | (go_at_call 53; refine (isSmall_any _ _).mono ?_; rintro e w' ⟨rfl, rfl⟩) | (go_at_call 87; refine (isDigit_any _ _).mono ?_; rintro e w' ⟨rfl, rfl⟩))
            go_ret
            exact ⟨by rw [e.out]; rfl, rfl⟩
      · have hh := hide h
        have hns := dg_not_sm h
        have hns' := hide hns
        by_cases k0 : k = 0
        · have u1 : decide ((0 : Int) < ((k : Nat) : Int)) = false := decide_eq_false (by omega)
          have u0 : decide (0 < k) = false := decide_eq_false (by omega)
          have hok := hide (show pOk (bl s) k = true by rw [pOk_dg hc.out hh.out, k0, dgPrev_zero]; rfl)
          clear k0
          have st := hide (pAll_step hall.out hok.out)
          have sn := hide (smN_no hc.out hns'.out)
          go_wp2_with (first | (go_at_call 53; refine (isSmall_any _ _).mono ?_; rintro e w' ⟨rfl, rfl⟩) | (go_at_call 87; refine (isDigit_any _ _).mono ?_; rintro e w' ⟨rfl, rfl⟩))
          go_round
          case rel => exact ⟨k + 1, _, by omega, by go_num, rfl, by show _ = _; rw [sn.out, ← hx.out], st.out⟩
          case measure => simp [intOf]; omega
        · have u1 : decide ((0 : Int) < ((k : Nat) : Int)) = true := decide_eq_true (by omega)
          have u0 : 0 < k := by omega
          have hk1 : k - 1 < s.size := by omega
          have hp := hide (dgPrev_pos (by omega) (bl_at s (k - 1) hk1))
          have g1 : (1 : Int) ≤ (k : Int) := by omega
          have g0 : (0 : Int) ≤ (k : Int) - 1 := by omega
          have g2 : (k : Int) - 1 < (s.size : Int) := by omega
          have g3 : ((k : Int) - 1).toNat = k - 1 := by omega
          cases hv : isDg ((s[k - 1].toNat : Nat) : Int) with
          | true =>
            have hok := hide (show pOk (bl s) k = false by rw [pOk_dg hc.out hh.out, hp.out, hv]; rfl)
            clear k0
            have e := hide (patB_no hlt (hok.out))
            go_wp2_with (first | (go_at_call 53; refine (isSmall_any _ _).mono ?_; rintro e w' ⟨rfl, rfl⟩) | (go_at_call 87; refine (isDigit_any _ _).mono ?_; rintro e w' ⟨rfl, rfl⟩))
            go_ret
            exact ⟨by rw [e.out]; rfl, rfl⟩
          | false =>
            have hok := hide (show pOk (bl s) k = true by rw [pOk_dg hc.out hh.out, hp.out, hv]; rfl)
            clear k0
            have st := hide (pAll_step hall.out hok.out)
            have sn := hide (smN_no hc.out hns'.out)
            go_wp2_with (first | (go_at_call 53; refine (isSmall_any _ _).mono ?_; rintro e w' ⟨rfl, rfl⟩) | (go_at_call 87; refine (isDigit_any _ _).mono ?_; rintro e w' ⟨rfl, rfl⟩))
            go_round
            case rel => exact ⟨k + 1, _, by omega, by go_num, rfl, by show _ = _; rw [sn.out, ← hx.out], st.out⟩
            case measure => simp [intOf]; omega
      · have hok := hide (pOk_none hc.out h1 h2 h3)
        have t2 : (((s[k].toNat : Nat) : Int) == 46) = false := by simpa using h3
        clear h3
        have e := hide (patB_no hlt (hok.out))
        go_wp2_with (first | (go_at_call 53; refine (isSmall_any _ _).mono ?_; rintro e w' ⟨rfl, rfl⟩) | (go_at_call 87; refine (isDigit_any _ _).mono ?_; rintro e w' ⟨rfl, rfl⟩))
        go_ret
        exact ⟨by rw [e.out]; rfl, rfl⟩
    · have hke : k = s.size := by omega
      have e := hide (patB_end hall.out hke)
      by_cases hp : 0 < x
      · have hp' := hide (show decide (0 < smN (bl s) k) = true by rw [← hx.out]; simpa using hp)
        go_wp2
        go_ret
        exact ⟨by rw [e.out, hp'.out, Bool.true_and]; rfl, rfl⟩
      · have hp' := hide (show decide (0 < smN (bl s) k) = false by rw [← hx.out]; simpa using hp)
        have hp2 : decide (0 < x) = false := by simpa using hp
        clear hp
        go_wp2
        go_ret
        exact ⟨by rw [e.out, hp'.out, Bool.false_and]; rfl, rfl⟩
end Go.Proofs.Ytfhhfibjjpiccaa
