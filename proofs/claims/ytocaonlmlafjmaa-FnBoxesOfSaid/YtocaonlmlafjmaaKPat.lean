/- Several of my texts in one: PatV, Pat, Pat2, Pats. Their conditions stand at each. -/
import Derived.Test.YtocaonlmlafjmaaKCore
import Derived.Test.YtocaonlmlafjmaaKPlain
import Derived.Test.YtocaonlmlafjmaaKEx
import Derived.Deep.AppendLies
/- The walks through the validity of a pattern. No condition but the model's own bound on a text's length. -/
namespace Go.Proofs.Ytocaonlmlafjmaa
open Go.RowKit
set_option linter.unusedVariables false
set_option linter.unusedSimpArgs false

theorem gD {l : List Int} {k : Nat} {c : Int} (hc : l[k]? = some c) : l.getD k 0 = c := by
  rw [List.getD_eq_getElem?_getD, hc]; rfl
theorem pOk_sm {l : List Int} {k : Nat} {c : Int} (hc : l[k]? = some c) (h : isSm c = true) : pOk l k = true := by
  unfold pOk; rw [gD hc, h]; rfl
theorem pOk_pt {l : List Int} {k : Nat} {c : Int} (hc : l[k]? = some c) (h : c = 46) : pOk l k = ends l k := by
  unfold pOk; rw [gD hc, h]; simp [isSm, isDg]
theorem pOk_dg {l : List Int} {k : Nat} {c : Int} (hc : l[k]? = some c) (h : isDg c = true) : pOk l k = !dgPrev l k := by
  unfold pOk
  have h46 : (c == 46) = false := by simp [isDg] at h; simp; omega
  rw [gD hc, h, dg_not_sm h, h46]; simp
theorem pOk_none {l : List Int} {k : Nat} {c : Int} (hc : l[k]? = some c) (h1 : isSm c = false) (h2 : isDg c = false) (h3 : c ≠ 46) : pOk l k = false := by
  unfold pOk
  rw [gD hc, h1, h2]; simp [h3]
theorem dgPrev_succ {l : List Int} {k : Nat} {c : Int} (hc : l[k]? = some c) : dgPrev l (k + 1) = isDg c := by
  unfold dgPrev; rw [Nat.add_sub_cancel, gD hc]; simp
theorem dgPrev_zero (l : List Int) : dgPrev l 0 = false := by simp [dgPrev]
theorem ends_no {l : List Int} {k : Nat} (h1 : k ≠ 0) (h2 : k + 1 ≠ l.length) : ends l k = false := by
  simp [ends, h1, h2]
theorem ends_z (l : List Int) : ends l 0 = true := by simp [ends]
theorem ends_l {l : List Int} {k : Nat} (h2 : k + 1 = l.length) : ends l k = true := by
  simp [ends, h2]
theorem pAll_step {l : List Int} {k : Nat} (h : pAll l k = true) (hp : pOk l k = true) : pAll l (k + 1) = true := by
  rw [pAll_succ, h, hp]; rfl
theorem small_case (c : Int) : (isSm c = true) ∨ (c = 46) ∨ (isDg c = true) ∨ (isSm c = false ∧ isDg c = false ∧ c ≠ 46) := by
  cases h1 : isSm c with
  | true => exact .inl rfl
  | false =>
    cases h2 : isDg c with
    | true => exact .inr (.inr (.inl rfl))
    | false =>
      by_cases h3 : c = 46
      · exact .inr (.inl h3)
      · exact .inr (.inr (.inr ⟨rfl, rfl, h3⟩))
theorem isSm_bd {c : Int} (h : isSm c = true) : 97 ≤ c ∧ c ≤ 122 := by simpa [isSm] using h
theorem isDg_bd {c : Int} (h : isDg c = true) : 48 ≤ c ∧ c ≤ 57 := by simpa [isDg] using h
theorem isSm_nb {c : Int} (h : isSm c = false) : c < 97 ∨ 122 < c := by simp [isSm] at h; omega
theorem isDg_nb {c : Int} (h : isDg c = false) : c < 48 ∨ 57 < c := by simp [isDg] at h; omega
theorem specPat (s : ByteArray) (w : World) (hs : s.size ≤ maxLen) :
    Calls Try.prog 107 #[.string s] w fun e w' => e = .returned (.bool (patB s)) ∧ w = w' := by
  unfold maxLen at hs
  go_enter Try.func107, Try.ntmps107
  go_wp2
  go_loop [3, 4, 5] (fun q d i => ∃ (k : Nat) (x : Int) (b : Bool), k ≤ s.size ∧ i = .int .i64 k ∧ q = .int .i64 x ∧ d = .bool b ∧ Hid (x = smN (bl s) k) ∧ Hid (b = dgPrev (bl s) k) ∧ Hid (pAll (bl s) k = true)) (fun _ _ i => s.size - (intOf i).toNat)
  case atStart => exact ⟨0, 0, false, Nat.zero_le _, rfl, rfl, rfl, (smN_zero _).symm, (dgPrev_zero _).symm, rfl⟩
  case round =>
    obtain ⟨k, x, b, hk, rfl, rfl, rfl, hx, hb, hall⟩ := hrel
    have hxb : 0 ≤ x ∧ x ≤ k := by rw [hx.out]; exact smN_bd _ _
    by_cases hlt : k < s.size
    · have hc := hide (bl_at s k hlt)
      rcases small_case ((s[k].toNat : Nat) : Int) with h | h | h | ⟨h1, h2, h3⟩
      · have hin := isSm_bd h
        have hh := hide h
        clear h
        have st := hide (pAll_step hall.out (pOk_sm hc.out hh.out))
        have sd := hide (dgPrev_succ hc.out)
        have sn := hide (smN_yes hc.out hh.out)
        go_wp2
        go_round
        case rel => exact ⟨k + 1, _, false, by omega, by go_num, rfl, rfl, by show _ = _; rw [sn.out, ← hx.out], by show _ = _; rw [sd.out]; exact (sm_not_dg hh.out).symm, st.out⟩
        case measure => simp [intOf]; omega
      · have hh := hide h
        have t1 : decide (97 ≤ ((s[k].toNat : Nat) : Int)) = false := decide_eq_false (by omega)
        have t2 : (((s[k].toNat : Nat) : Int) == 46) = true := by simpa using h
        clear h
        have hns := hide (show isSm ((s[k].toNat : Nat) : Int) = false by rw [hh.out]; rfl)
        have hnd := hide (show isDg ((s[k].toNat : Nat) : Int) = false by rw [hh.out]; rfl)
        by_cases k0 : k = 0
        · have u1 : (((k : Nat) : Int) == 0) = true := by simp [k0]
          have hok := hide (show pOk (bl s) k = true by rw [pOk_pt hc.out hh.out, k0]; exact ends_z _)
          clear k0
          have st := hide (pAll_step hall.out hok.out)
          have sd := hide (dgPrev_succ hc.out)
          have sn := hide (smN_no hc.out hns.out)
          go_wp2
          go_round
          case rel => exact ⟨k + 1, _, false, by omega, by go_num, rfl, rfl, by show _ = _; rw [sn.out, ← hx.out], by show _ = _; rw [sd.out]; exact hnd.out.symm, st.out⟩
          case measure => simp [intOf]; omega
        · have u1 : (((k : Nat) : Int) == 0) = false := by simp; omega
          by_cases k1 : k + 1 = s.size
          · have u2 : (((k : Nat) : Int) == (s.size : Int) - 1) = true := by simp; omega
            have hok := hide (show pOk (bl s) k = true by rw [pOk_pt hc.out hh.out]; exact ends_l (by rw [bl_len]; exact k1))
            clear k0 k1
            have st := hide (pAll_step hall.out hok.out)
            have sd := hide (dgPrev_succ hc.out)
            have sn := hide (smN_no hc.out hns.out)
            go_wp2
            go_round
            case rel => exact ⟨k + 1, _, false, by omega, by go_num, rfl, rfl, by show _ = _; rw [sn.out, ← hx.out], by show _ = _; rw [sd.out]; exact hnd.out.symm, st.out⟩
            case measure => simp [intOf]; omega
          · have u2 : (((k : Nat) : Int) == (s.size : Int) - 1) = false := by simp; omega
            have hok := hide (show pOk (bl s) k = false by rw [pOk_pt hc.out hh.out]; exact ends_no k0 (by rw [bl_len]; exact k1))
            have u3 : decide (48 ≤ ((s[k].toNat : Nat) : Int)) = false := decide_eq_false (by have := hh.out; omega)
            clear k0 k1
            have e := hide (patB_no hlt (hok.out))
            go_wp2
            go_ret
            exact ⟨by rw [e.out]; rfl, rfl⟩
      · have hin := isDg_bd h
        have hh := hide h
        have t1 : decide (97 ≤ ((s[k].toNat : Nat) : Int)) = false := decide_eq_false (by omega)
        have t2 : (((s[k].toNat : Nat) : Int) == 46) = false := by simp; omega
        clear h
        cases b with
        | true =>
          have hok := hide (show pOk (bl s) k = false by rw [pOk_dg hc.out hh.out, ← hb.out]; rfl)
          have e := hide (patB_no hlt (hok.out))
          go_wp2
          go_ret
          exact ⟨by rw [e.out]; rfl, rfl⟩
        | false =>
          have hok := hide (show pOk (bl s) k = true by rw [pOk_dg hc.out hh.out, ← hb.out]; rfl)
          have st := hide (pAll_step hall.out hok.out)
          have sd := hide (dgPrev_succ hc.out)
          have sn := hide (smN_no hc.out (dg_not_sm hh.out))
          go_wp2
          go_round
          case rel => exact ⟨k + 1, _, true, by omega, by go_num, rfl, rfl, by show _ = _; rw [sn.out, ← hx.out], by show _ = _; rw [sd.out]; exact hh.out.symm, st.out⟩
          case measure => simp [intOf]; omega
      · have hok := hide (pOk_none hc.out h1 h2 h3)
        have t2 : (((s[k].toNat : Nat) : Int) == 46) = false := by simpa using h3
        have n1 := isSm_nb h1
        have n2 := isDg_nb h2
        clear h1 h2 h3
        by_cases m1 : ((s[k].toNat : Nat) : Int) < 48
        · have t1 : decide (97 ≤ ((s[k].toNat : Nat) : Int)) = false := decide_eq_false (by omega)
          have t3 : decide (48 ≤ ((s[k].toNat : Nat) : Int)) = false := decide_eq_false (by omega)
          clear n1 n2 m1
          have e := hide (patB_no hlt (hok.out))
          go_wp2
          go_ret
          exact ⟨by rw [e.out]; rfl, rfl⟩
        · by_cases m2 : ((s[k].toNat : Nat) : Int) < 97
          · have t1 : decide (97 ≤ ((s[k].toNat : Nat) : Int)) = false := decide_eq_false (by omega)
            have t3 : decide (((s[k].toNat : Nat) : Int) ≤ 57) = false := decide_eq_false (by omega)
            have t4 : 48 ≤ ((s[k].toNat : Nat) : Int) := by omega
            clear n1 n2 m1 m2
            have e := hide (patB_no hlt (hok.out))
            go_wp2
            go_ret
            exact ⟨by rw [e.out]; rfl, rfl⟩
          · have t1 : decide (((s[k].toNat : Nat) : Int) ≤ 122) = false := decide_eq_false (by omega)
            have t3 : decide (((s[k].toNat : Nat) : Int) ≤ 57) = false := decide_eq_false (by omega)
            have t4 : 97 ≤ ((s[k].toNat : Nat) : Int) := by omega
            clear n1 n2 m1 m2
            have e := hide (patB_no hlt (hok.out))
            go_wp2
            go_ret
            exact ⟨by rw [e.out]; rfl, rfl⟩
    · have hke : k = s.size := by omega
      have e := hide (patB_end hall.out hke)
      by_cases hp : 0 < x
      · have hp' := hide (show decide (0 < smN (bl s) k) = true by rw [← hx.out]; simpa using hp)
        go_wp2
        go_ret
        exact ⟨by rw [e.out, hp'.out, Bool.true_and]; rfl, rfl⟩
      · have hp' := hide (show decide (0 < smN (bl s) k) = false by rw [← hx.out]; simpa using hp)
        have hp2 : decide (0 < x) = false := by simpa using hp
        clear hp
        go_wp2
        go_ret
        exact ⟨by rw [e.out, hp'.out, Bool.false_and]; rfl, rfl⟩
theorem dgPrev_pos {l : List Int} {k : Nat} {c : Int} (hk : 0 < k) (hc : l[k - 1]? = some c) : dgPrev l k = isDg c := by
  unfold dgPrev; rw [gD hc]; simp [hk]
theorem implPat (s : ByteArray) (w : World) (hs : s.size ≤ maxLen) :
    Calls Try.prog 112 #[.string s] w fun e w' => e = .returned (.bool (patB s)) ∧ w = w' := by
  unfold maxLen at hs
  go_enter Try.func112, Try.ntmps112
  go_wp2
  go_loop [3, 8] (fun q i => ∃ (k : Nat) (x : Int), k ≤ s.size ∧ i = .int .i64 k ∧ q = .int .i64 x ∧ Hid (x = smN (bl s) k) ∧ Hid (pAll (bl s) k = true)) (fun _ i => s.size - (intOf i).toNat)
  case atStart => exact ⟨0, 0, Nat.zero_le _, rfl, rfl, (smN_zero _).symm, rfl⟩
  case round =>
    obtain ⟨k, x, hk, rfl, rfl, hx, hall⟩ := hrel
    have hxb : 0 ≤ x ∧ x ≤ k := by rw [hx.out]; exact smN_bd _ _
    by_cases hlt : k < s.size
    · have hc := hide (bl_at s k hlt)
      rcases small_case ((s[k].toNat : Nat) : Int) with h | h | h | ⟨h1, h2, h3⟩
      · have hh := hide h
        have st := hide (pAll_step hall.out (pOk_sm hc.out hh.out))
        have sn := hide (smN_yes hc.out hh.out)
        go_wp2_with (first | (go_at_call 106; refine (isSmall_any _ _).mono ?_; rintro e w' ⟨rfl, rfl⟩) | (go_at_call 124; refine (isDigit_any _ _).mono ?_; rintro e w' ⟨rfl, rfl⟩))
        go_round
        case rel => exact ⟨k + 1, _, by omega, by go_num, rfl, by show _ = _; rw [sn.out, ← hx.out], st.out⟩
        case measure => simp [intOf]; omega
      · have hh := hide h
        have t2 : (((s[k].toNat : Nat) : Int) == 46) = true := by simpa using h
        have hns : isSm ((s[k].toNat : Nat) : Int) = false := by rw [hh.out]; rfl
        have hnd : isDg ((s[k].toNat : Nat) : Int) = false := by rw [hh.out]; rfl
        have hns' := hide hns
        clear h
        by_cases k0 : k = 0
        · have u1 : (((k : Nat) : Int) != 0) = false := by simp [k0]
          have hok := hide (show pOk (bl s) k = true by rw [pOk_pt hc.out hh.out, k0]; exact ends_z _)
          clear k0
          have st := hide (pAll_step hall.out hok.out)
          have sn := hide (smN_no hc.out hns'.out)
          go_wp2_with (first | (go_at_call 106; refine (isSmall_any _ _).mono ?_; rintro e w' ⟨rfl, rfl⟩) | (go_at_call 124; refine (isDigit_any _ _).mono ?_; rintro e w' ⟨rfl, rfl⟩))
          go_round
          case rel => exact ⟨k + 1, _, by omega, by go_num, rfl, by show _ = _; rw [sn.out, ← hx.out], st.out⟩
          case measure => simp [intOf]; omega
        · have u1 : (((k : Nat) : Int) != 0) = true := by simp; omega
          by_cases k1 : k + 1 = s.size
          · have u2 : (((k : Nat) : Int) != (s.size : Int) - 1) = false := by simp; omega
            have hok := hide (show pOk (bl s) k = true by rw [pOk_pt hc.out hh.out]; exact ends_l (by rw [bl_len]; exact k1))
            clear k0 k1
            have st := hide (pAll_step hall.out hok.out)
            have sn := hide (smN_no hc.out hns'.out)
            go_wp2_with (first | (go_at_call 106; refine (isSmall_any _ _).mono ?_; rintro e w' ⟨rfl, rfl⟩) | (go_at_call 124; refine (isDigit_any _ _).mono ?_; rintro e w' ⟨rfl, rfl⟩))
            go_round
            case rel => exact ⟨k + 1, _, by omega, by go_num, rfl, by show _ = _; rw [sn.out, ← hx.out], st.out⟩
            case measure => simp [intOf]; omega
          · have u2 : (((k : Nat) : Int) != (s.size : Int) - 1) = true := by simp; omega
            have hok := hide (show pOk (bl s) k = false by rw [pOk_pt hc.out hh.out]; exact ends_no k0 (by rw [bl_len]; exact k1))
            clear k0 k1
            have e := hide (patB_no hlt (hok.out))
            go_wp2_with (first | (go_at_call 106; refine (isSmall_any _ _).mono ?_; rintro e w' ⟨rfl, rfl⟩) | (go_at_call 124; refine (isDigit_any _ _).mono ?_; rintro e w' ⟨rfl, rfl⟩))
            go_ret
            exact ⟨by rw [e.out]; rfl, rfl⟩
      · have hh := hide h
        have hns := dg_not_sm h
        have hns' := hide hns
        by_cases k0 : k = 0
        · have u1 : decide ((0 : Int) < ((k : Nat) : Int)) = false := decide_eq_false (by omega)
          have u0 : decide (0 < k) = false := decide_eq_false (by omega)
          have hok := hide (show pOk (bl s) k = true by rw [pOk_dg hc.out hh.out, k0, dgPrev_zero]; rfl)
          clear k0
          have st := hide (pAll_step hall.out hok.out)
          have sn := hide (smN_no hc.out hns'.out)
          go_wp2_with (first | (go_at_call 106; refine (isSmall_any _ _).mono ?_; rintro e w' ⟨rfl, rfl⟩) | (go_at_call 124; refine (isDigit_any _ _).mono ?_; rintro e w' ⟨rfl, rfl⟩))
          go_round
          case rel => exact ⟨k + 1, _, by omega, by go_num, rfl, by show _ = _; rw [sn.out, ← hx.out], st.out⟩
          case measure => simp [intOf]; omega
        · have u1 : decide ((0 : Int) < ((k : Nat) : Int)) = true := decide_eq_true (by omega)
          have u0 : 0 < k := by omega
          have hk1 : k - 1 < s.size := by omega
          have hp := hide (dgPrev_pos (by omega) (bl_at s (k - 1) hk1))
          have g1 : (1 : Int) ≤ (k : Int) := by omega
          have g0 : (0 : Int) ≤ (k : Int) - 1 := by omega
          have g2 : (k : Int) - 1 < (s.size : Int) := by omega
          have g3 : ((k : Int) - 1).toNat = k - 1 := by omega
          cases hv : isDg ((s[k - 1].toNat : Nat) : Int) with
          | true =>
            have hok := hide (show pOk (bl s) k = false by rw [pOk_dg hc.out hh.out, hp.out, hv]; rfl)
            clear k0
            have e := hide (patB_no hlt (hok.out))
            go_wp2_with (first | (go_at_call 106; refine (isSmall_any _ _).mono ?_; rintro e w' ⟨rfl, rfl⟩) | (go_at_call 124; refine (isDigit_any _ _).mono ?_; rintro e w' ⟨rfl, rfl⟩))
            go_ret
            exact ⟨by rw [e.out]; rfl, rfl⟩
          | false =>
            have hok := hide (show pOk (bl s) k = true by rw [pOk_dg hc.out hh.out, hp.out, hv]; rfl)
            clear k0
            have st := hide (pAll_step hall.out hok.out)
            have sn := hide (smN_no hc.out hns'.out)
            go_wp2_with (first | (go_at_call 106; refine (isSmall_any _ _).mono ?_; rintro e w' ⟨rfl, rfl⟩) | (go_at_call 124; refine (isDigit_any _ _).mono ?_; rintro e w' ⟨rfl, rfl⟩))
            go_round
            case rel => exact ⟨k + 1, _, by omega, by go_num, rfl, by show _ = _; rw [sn.out, ← hx.out], st.out⟩
            case measure => simp [intOf]; omega
      · have hok := hide (pOk_none hc.out h1 h2 h3)
        have t2 : (((s[k].toNat : Nat) : Int) == 46) = false := by simpa using h3
        clear h3
        have e := hide (patB_no hlt (hok.out))
        go_wp2_with (first | (go_at_call 106; refine (isSmall_any _ _).mono ?_; rintro e w' ⟨rfl, rfl⟩) | (go_at_call 124; refine (isDigit_any _ _).mono ?_; rintro e w' ⟨rfl, rfl⟩))
        go_ret
        exact ⟨by rw [e.out]; rfl, rfl⟩
    · have hke : k = s.size := by omega
      have e := hide (patB_end hall.out hke)
      by_cases hp : 0 < x
      · have hp' := hide (show decide (0 < smN (bl s) k) = true by rw [← hx.out]; simpa using hp)
        go_wp2
        go_ret
        exact ⟨by rw [e.out, hp'.out, Bool.true_and]; rfl, rfl⟩
      · have hp' := hide (show decide (0 < smN (bl s) k) = false by rw [← hx.out]; simpa using hp)
        have hp2 : decide (0 < x) = false := by simpa using hp
        clear hp
        go_wp2
        go_ret
        exact ⟨by rw [e.out, hp'.out, Bool.false_and]; rfl, rfl⟩
end Go.Proofs.Ytocaonlmlafjmaa

/- The walks through the letters and the levels of a pattern. No condition but the model's own bound on a text's length. -/
namespace Go.Proofs.Ytocaonlmlafjmaa
open Go.RowKit
set_option linter.unusedVariables false
set_option linter.unusedSimpArgs false
set_option maxRecDepth 100000

theorem own_whole1 {w : World} {g n base : Nat} {e : TypeId} {xs : List Value} (h : Blk w g e xs.toArray) (hb : base ≤ g) (hl : xs.length = n * 1) (hn : n ≤ maxLen) : w.ownsRow base e 1 (.slice (some ⟨g, 0, none⟩) n n) n xs :=
  ⟨hl, .inr ⟨g, n, xs.toArray, rfl, hb, h, Nat.le_refl _, hn, by simp [hl], by simp [← hl]⟩⟩
theorem own_emptyN {w : World} {t : TypeId} {base g : Nat} (h : Blk w g t #[]) (hg : base ≤ g) : w.ownsRow base t 1 (.slice (some ⟨g, 0, none⟩) 0 0) 0 [] :=
  ⟨rfl, .inr ⟨g, 0, #[], rfl, hg, h, Nat.le_refl _, by simp [maxLen], rfl, rfl⟩⟩
def RowN (R : List Int) (w : World) (e : Ending) (w' : World) : Prop := ∃ v, e = .returned v ∧ w'.ownsRow w.heap.size 3 1 v R.length (cellsN R) ∧ Below w.heap.size w w'
def PartsP (p : ByteArray) (w : World) (e : Ending) (w' : World) : Prop := ∃ v, e = .returned (.tuple #[.string (patTo p p.size), v]) ∧ w'.ownsRow w.heap.size 3 1 v (lvAll (bl p) p.size).length (cellsN (lvAll (bl p) p.size)) ∧ Below w.heap.size w w'
theorem lvAll_set {l : List Int} {k : Nat} (h : isDg (l.getD k 0) = true) : lvAll l (k + 1) = (lvAll l k).set ((lvAll l k).length - 1) (l.getD k 0 - 48) := by
  rw [lvAll_dg h]
  unfold lvAll
  rw [List.length_append, List.length_singleton, Nat.add_sub_cancel, List.set_append, if_neg (by omega), Nat.sub_self]
  rfl
theorem lvAll_pos (l : List Int) (k : Nat) : 0 < (lvAll l k).length := by simp [lvAll]
theorem lvAll_le {l : List Int} (k : Nat) (hk : k ≤ l.length) : (lvAll l k).length ≤ k + 1 := by
  rw [lvAll_len l k hk]
  have := List.length_filter_le (fun c => !isDg c) (l.take k)
  have := List.length_take_le k l
  omega
theorem patTo_dg {p : ByteArray} {k : Nat} (h : isDg ((bl p).getD k 0) = true) : patTo p (k + 1) = patTo p k := by rw [patTo, if_pos h]
theorem patTo_no {p : ByteArray} {k : Nat} (h : isDg ((bl p).getD k 0) = false) : patTo p (k + 1) = patTo p k ++ p.extract k (k + 1) := by rw [patTo, if_neg (by rw [h]; exact Bool.false_ne_true)]
theorem last_at {L : List Int} (h : 0 < L.length) : L[L.length - 1]? = some (L.getD (L.length - 1) 0) := by
  rw [List.getD_eq_getElem?_getD, List.getElem?_eq_getElem (by omega)]; rfl

set_option maxHeartbeats 1000000 in
theorem patParts (p : ByteArray) (w : World) (hp : p.size ≤ 1000000) :
    Calls Try.prog 130 #[.string p] w (PartsP p w) := by
  obtain ⟨i0, hi, hz0, hz1, hz2⟩ := info_parts int_info
  have hst0 := hide (own_whole1 (n := 1) (base := w.heap.size) (Blk.new w 3 (cellsN [0]).toArray) (Nat.le_refl _) rfl (by simp [maxLen]))
  go_enter Try.func130, Try.ntmps130
  go_wp2
  go_loopw [4, 5, 10] (fun q v i wr => ∃ (k : Nat) (o : ByteArray), k ≤ p.size ∧ i = .int .i64 k ∧ q = .string o ∧ o.size ≤ k ∧ Hid (o = patTo p k) ∧ wr.ownsRow w.heap.size 3 1 v (lvAll (bl p) k).length (cellsN (lvAll (bl p) k)) ∧ Below w.heap.size w wr) (fun _ _ i _ => p.size - (intOf i).toNat)
  case atStart => exact ⟨0, ByteArray.empty, Nat.zero_le _, rfl, rfl, by simp, rfl, hst0.out, by (repeat (first | exact Below.refl _ _ | assumption | refine Below.alloc ?_ (by first | assumption | omega | (simp; done) | (simp; omega)) _ | refine Below.setCell ?_ (by first | assumption | omega | (simp; done) | (simp; omega)) _ | refine below_drewN ?_ _ | refine Below.drew ?_))⟩
  case round =>
    obtain ⟨k, o, hk, rfl, rfl, hos, ho, hown, hb⟩ := hrel
    have hlen := hide (lvAll_le (l := bl p) k (by rw [bl_len]; exact hk))
    have hpos := hide (lvAll_pos (bl p) k)
    obtain ⟨g, cap, rfl, hg1, hg2⟩ := hown.form hpos.out
    have hown' := hide hown
    have hb' := hide hb
    have hbs := hb.size
    clear hb
    by_cases hlt : k < p.size
    · have hgd := hide (bl_getD p k hlt)
      cases hv : isDg ((p[k].toNat : Nat) : Int) with
      | true =>
        have hbd := isDg_bd hv
        have e1 := hide (lvAll_set (l := bl p) (k := k) (by rw [hgd.out]; exact hv))
        have e2 := hide (patTo_dg (p := p) (k := k) (by rw [hgd.out]; exact hv))
        obtain ⟨c0, z0⟩ := own_intAt hown rfl (last_at hpos.out)
        clear hown
        obtain ⟨m, hm⟩ : ∃ m, (lvAll (bl p) k).length = m + 1 := ⟨(lvAll (bl p) k).length - 1, by have := hpos.out; omega⟩
        have hm' := hide hm
        rw [hm, Nat.add_sub_cancel] at c0 z0
        have hm1 : m ≤ k := by have := hlen.out; omega
        rw [hm]
        clear hm
        go_wp2_with (go_at_call 124; refine (isDigit_any _ _).mono ?_; rintro e w' ⟨rfl, rfl⟩)
        go_roundw
        case rel =>
          refine ⟨k + 1, o, by omega, by go_num, rfl, by omega, by show _ = _; rw [e2.out, ho.out], ?_, hb'.out.setCell hg1 _⟩
          have q := own_setN (j := m) (((p[k].toNat : Nat) : Int) - 48) hown'.out
          rw [hm'.out] at q
          rw [e1.out, List.length_set, hm'.out, Nat.add_sub_cancel, hgd.out]
          exact q
        case measure => simp [intOf]; omega
      | false =>
        have e1 := hide (lvAll_no (l := bl p) (k := k) (by rw [hgd.out]; exact hv))
        have e2 := hide (patTo_no (p := p) (k := k) (by rw [hgd.out]; exact hv))
        have hxs : (p.extract k (k + 1)).size = 1 := by rw [size_extract _ _ _ (by omega)]; omega
        have hz : o.size + (p.extract k (k + 1)).size ≤ 9223372036854775807 := by omega
        have hxs' := hide hxs
        have hn60 : (lvAll (bl p) k).length ≤ 1000001 := by have := hlen.out; omega
        clear hown hxs
        go_wp2_with (first | (go_at_call 124; refine (isDigit_any _ _).mono ?_; rintro e w' ⟨rfl, rfl⟩) | (at_builtin; refine wpList_append_lies _ rfl _ _ 60 rfl w.heap.size 3 i0 (.int .i64 0) 1 8 Try.underlying60 hi hz0 hz1 hz2 rfl (by decide) _ _ _ rfl (hown'.out.alloc _) ⟨wr.heap.size, 0, none⟩ 1 1 [.int .i64 0] rfl rfl (fun j u hj => cell_one_at (by simp) hj) (one_cells _) (by omega) (by unfold maxLen; omega) (by omega) (by simp; omega) _ rfl ?_))
        intro g3 cap3 w3 hown3 hg3 hat3 hlt3
        have hrow := hide hown3
        have hbe := hide ((hb'.out.alloc hbs _).grown hg3 (by simp; omega) (fun kk hkk => (hown'.out.lt kk hkk).1))
        clear hown3 hg3 hat3 hlt3
        go_wp2
        go_roundw
        case rel =>
          refine ⟨k + 1, _, by omega, by go_num, rfl, by rw [ByteArray.size_append, hxs'.out]; omega, by show _ = _; rw [e2.out, ho.out], ?_, hbe.out⟩
          have q := hrow.out
          rw [e1.out, List.length_append, List.length_singleton]
          simpa [cellsN] using q
        case measure => simp [intOf]; omega
    · obtain rfl : k = p.size := by omega
      have ho' := hide ho.out
      clear hown
      go_wp2
      unfold PartsP
      go_ret2
      exact ⟨_, by rw [← ho'.out]; rfl, hown'.out, hb'.out⟩
end Go.Proofs.Ytocaonlmlafjmaa

/- The walks through the letters and the levels of a pattern, the functions themselves. No condition but the model's own bound on a text's length. -/
namespace Go.Proofs.Ytocaonlmlafjmaa
open Go.RowKit
set_option linter.unusedVariables false
set_option linter.unusedSimpArgs false
set_option maxRecDepth 100000

theorem patS_no {p : ByteArray} (h : patB p = false) : patS p = ByteArray.empty := by unfold patS; rw [if_neg (by rw [h]; exact Bool.false_ne_true)]
theorem patS_yes {p : ByteArray} (h : patB p = true) : patS p = patTo p p.size := by unfold patS; rw [if_pos h]
theorem patLv_no {p : ByteArray} (h : patB p = false) : patLv p = [] := by unfold patLv; rw [if_neg (by rw [h]; exact Bool.false_ne_true)]
theorem patLv_yes {p : ByteArray} (h : patB p = true) : patLv p = lvAll (bl p) p.size := by unfold patLv; rw [if_pos h]
theorem patLv_bd (p : ByteArray) : (patLv p).length ≤ 13 := by
  cases h : patB p with
  | true =>
    have := patB_true h
    have := lvAll_le (l := bl p) p.size (by rw [bl_len]; exact Nat.le_refl _)
    rw [patLv_yes h]; omega
  | false => rw [patLv_no h]; simp
theorem patS_bd (p : ByteArray) : (patS p).size ≤ 12 := by
  cases h : patB p with
  | true =>
    have := patB_true h
    have := patTo_size p p.size (Nat.le_refl _)
    rw [patS_yes h]; omega
  | false => rw [patS_no h]; simp
theorem specPatLetters (p : ByteArray) (w : World) (hs : p.size ≤ maxLen) :
    Calls Try.prog 131 #[.string p] w fun e w' => e = .returned (.string (patS p)) ∧ w = w' := by
  have hv := hide (fun W => specPat p W hs)
  cases h : patB p with
  | false =>
    rw [patS_no h]
    unfold maxLen at hs
    by_cases h0 : 0 < p.size
    · go_enter Try.func131, Try.ntmps131
      go_wp2
      refine wp_loop_rounds 1 ?_
      rw [rounds_succ]
      go_wp2_with fail
      refine (hv.out _).mono ?_
      rintro e w' ⟨rfl, rfl⟩
      rw [h]
      go_wp2
      go_ret
      exact ⟨rfl, rfl⟩
    · have hd : decide ((0 : Int) < (p.size : Int)) = false := decide_eq_false (by omega)
      go_enter Try.func131, Try.ntmps131
      go_wp2
      refine wp_loop_rounds 1 ?_
      rw [rounds_succ]
      go_wp2
      go_ret
      exact ⟨rfl, rfl⟩
  | true =>
    have h12 := patB_true h
    have hp : p.size ≤ 12 := h12.2.2
    have hS := hide (patS_yes h)
    clear h12
    go_enter Try.func131, Try.ntmps131
    go_wp2
    go_loop [3, 4] (fun q i => ∃ (k : Nat) (o : ByteArray), k ≤ p.size ∧ i = .int .i64 k ∧ q = .string o ∧ o.size ≤ k ∧ Hid (o = patTo p k)) (fun _ i => p.size - (intOf i).toNat)
    case atStart => exact ⟨0, ByteArray.empty, Nat.zero_le _, rfl, rfl, by simp, rfl⟩
    case round =>
      obtain ⟨k, o, hk, rfl, rfl, hos, ho⟩ := hrel
      by_cases hlt : k < p.size
      · have hgd := hide (bl_getD p k hlt)
        cases hdg : isDg ((p[k].toNat : Nat) : Int) with
        | true =>
          have hbd := isDg_bd hdg
          have e2 := hide (patTo_dg (p := p) (k := k) (by rw [hgd.out]; exact hdg))
          clear hdg
          go_wp2_with fail
          refine (hv.out _).mono ?_
          rintro e w' ⟨rfl, rfl⟩
          rw [h]
          go_wp2
          go_round
          case rel => exact ⟨k + 1, o, by omega, by go_num, rfl, by omega, by show _ = _; rw [e2.out, ho.out]⟩
          case measure => simp [intOf]; omega
        | false =>
          have hnb := isDg_nb hdg
          have e2 := hide (patTo_no (p := p) (k := k) (by rw [hgd.out]; exact hdg))
          have hxs : (p.extract k (k + 1)).size = 1 := by rw [size_extract _ _ _ (by omega)]; omega
          have hz : o.size + (p.extract k (k + 1)).size ≤ 9223372036854775807 := by omega
          have hxs' := hide hxs
          clear hxs hdg
          by_cases hlo : ((p[k].toNat : Nat) : Int) < 48
          · go_wp2_with fail
            refine (hv.out _).mono ?_
            rintro e w' ⟨rfl, rfl⟩
            rw [h]
            go_wp2
            go_round
            case rel => exact ⟨k + 1, _, by omega, by go_num, rfl, by rw [ByteArray.size_append, hxs'.out]; omega, by show _ = _; rw [e2.out, ho.out]⟩
            case measure => simp [intOf]; omega
          · have hhi : 57 < ((p[k].toNat : Nat) : Int) := by omega
            have hd : decide (((p[k].toNat : Nat) : Int) < 48) = false := decide_eq_false hlo
            clear hlo hnb
            go_wp2_with fail
            refine (hv.out _).mono ?_
            rintro e w' ⟨rfl, rfl⟩
            rw [h]
            go_wp2
            go_round
            case rel => exact ⟨k + 1, _, by omega, by go_num, rfl, by rw [ByteArray.size_append, hxs'.out]; omega, by show _ = _; rw [e2.out, ho.out]⟩
            case measure => simp [intOf]; omega
      · obtain rfl : k = p.size := by omega
        have ho' := hide ho.out
        go_wp2
        go_ret
        exact ⟨by rw [hS.out, ← ho'.out]; rfl, rfl⟩
theorem lvO_dg {l : List Int} {k : Nat} (h : isDg (l.getD k 0) = true) : lvO l (k + 1) = ((lvO l k).1, l.getD k 0 - 48) := by rw [lvO, if_pos h]
theorem lvO_no {l : List Int} {k : Nat} (h : isDg (l.getD k 0) = false) : lvO l (k + 1) = ((lvO l k).1 ++ [(lvO l k).2], 0) := by rw [lvO, if_neg (by rw [h]; exact Bool.false_ne_true)]
theorem lvO_le {l : List Int} (k : Nat) (hk : k ≤ l.length) : (lvO l k).1.length ≤ k := by
  have := lvAll_le k hk
  unfold lvAll at this
  rw [List.length_append, List.length_singleton] at this
  omega
set_option maxHeartbeats 1000000 in
theorem specPatLevels (p : ByteArray) (w : World) (hs : p.size ≤ maxLen) :
    Calls Try.prog 132 #[.string p] w (RowN (patLv p) w) := by
  have hv := hide (fun W => specPat p W hs)
  obtain ⟨i0, hi, hz0, hz1, hz2⟩ := info_parts int_info
  have hk0 := hide (own_emptyN (Blk.new w 3 #[]) (Nat.le_refl _))
  have hk1 := hide (fun W : World => own_emptyN (base := w.heap.size) (Blk.new W 3 #[]))
  cases h : patB p with
  | false =>
    rw [patLv_no h]
    unfold maxLen at hs
    by_cases h0 : 0 < p.size
    · go_enter Try.func132, Try.ntmps132
      go_wp2
      refine wp_loop_rounds 1 ?_
      rw [rounds_succ]
      go_wp2_with fail
      refine (hv.out _).mono ?_
      rintro e w' ⟨rfl, rfl⟩
      rw [h]
      go_wp2_with fail
      refine (hv.out _).mono ?_
      rintro e w' ⟨rfl, rfl⟩
      rw [h]
      go_wp2
      unfold RowN
      go_ret
      exact ⟨_, rfl, by simpa [cellsN] using hk1.out (w.alloc (.cells #[] 3)) (by simp), by (repeat (first | exact Below.refl _ _ | assumption | refine Below.alloc ?_ (by first | assumption | omega | (simp; done) | (simp; omega)) _ | refine Below.setCell ?_ (by first | assumption | omega | (simp; done) | (simp; omega)) _ | refine below_drewN ?_ _ | refine Below.drew ?_))⟩
    · have hd : decide ((0 : Int) < (p.size : Int)) = false := decide_eq_false (by omega)
      go_enter Try.func132, Try.ntmps132
      go_wp2
      refine wp_loop_rounds 1 ?_
      rw [rounds_succ]
      go_wp2_with fail
      refine (hv.out _).mono ?_
      rintro e w' ⟨rfl, rfl⟩
      rw [h]
      go_wp2
      unfold RowN
      go_ret
      exact ⟨_, rfl, by simpa [cellsN] using hk1.out (w.alloc (.cells #[] 3)) (by simp), by (repeat (first | exact Below.refl _ _ | assumption | refine Below.alloc ?_ (by first | assumption | omega | (simp; done) | (simp; omega)) _ | refine Below.setCell ?_ (by first | assumption | omega | (simp; done) | (simp; omega)) _ | refine below_drewN ?_ _ | refine Below.drew ?_))⟩
  | true =>
    have h12 := patB_true h
    have hp : p.size ≤ 12 := h12.2.2
    rw [patLv_yes h]
    clear h12
    go_enter Try.func132, Try.ntmps132
    go_wp2
    go_loopw [3, 4, 5] (fun v q i wr => ∃ (k : Nat) (y : Int), k ≤ p.size ∧ i = .int .i64 k ∧ q = .int .i64 y ∧ Hid (y = (lvO (bl p) k).2) ∧ wr.ownsRow w.heap.size 3 1 v (lvO (bl p) k).1.length (cellsN (lvO (bl p) k).1) ∧ Below w.heap.size w wr) (fun _ _ i _ => p.size - (intOf i).toNat)
    case atStart => exact ⟨0, 0, Nat.zero_le _, rfl, rfl, rfl, hk0.out, by (repeat (first | exact Below.refl _ _ | assumption | refine Below.alloc ?_ (by first | assumption | omega | (simp; done) | (simp; omega)) _ | refine Below.setCell ?_ (by first | assumption | omega | (simp; done) | (simp; omega)) _ | refine below_drewN ?_ _ | refine Below.drew ?_))⟩
    case round =>
      obtain ⟨k, y, hk, rfl, rfl, hy, hown, hb⟩ := hrel
      have hyb : 0 ≤ y ∧ y ≤ 9 := by rw [hy.out]; exact (lvO_bd (bl p) k).2
      have hlen := lvO_le (l := bl p) k (by rw [bl_len]; exact hk)
      have hown' := hide hown
      have hb' := hide hb
      have hbs := hb.size
      clear hown hb
      by_cases hlt : k < p.size
      · have hgd := hide (bl_getD p k hlt)
        cases hdg : isDg ((p[k].toNat : Nat) : Int) with
        | true =>
          have hbd := isDg_bd hdg
          have e2 := hide (lvO_dg (l := bl p) (k := k) (by rw [hgd.out]; exact hdg))
          clear hdg
          go_wp2_with fail
          refine (hv.out _).mono ?_
          rintro e w' ⟨rfl, rfl⟩
          rw [h]
          go_wp2
          go_roundw
          case rel => exact ⟨k + 1, _, by omega, by go_num, rfl, by show _ = _; rw [e2.out, hgd.out], by rw [e2.out]; exact hown'.out, hb'.out⟩
          case measure => simp [intOf]; omega
        | false =>
          have hnb := isDg_nb hdg
          have e2 := hide (lvO_no (l := bl p) (k := k) (by rw [hgd.out]; exact hdg))
          clear hdg
          by_cases hlo : ((p[k].toNat : Nat) : Int) < 48
          · have hd : decide (48 ≤ ((p[k].toNat : Nat) : Int)) = false := decide_eq_false (by omega)
            go_wp2_with fail
            refine (hv.out _).mono ?_
            rintro e w' ⟨rfl, rfl⟩
            rw [h]
            go_wp2_with (at_builtin; refine wpList_append_lies _ rfl _ _ 60 rfl w.heap.size 3 i0 (.int .i64 0) 1 8 Try.underlying60 hi hz0 hz1 hz2 rfl (by decide) _ _ _ rfl (hown'.out.alloc _) ⟨wr.heap.size, 0, none⟩ 1 1 [.int .i64 y] rfl rfl (fun j u hj => cell_one_at (by simp) hj) (one_cells _) (by omega) (by unfold maxLen; omega) (by omega) (by simp; omega) _ rfl ?_)
            intro g3 cap3 w3 hown3 hg3 hat3 hlt3
            have hbe := hide ((hb'.out.alloc hbs _).grown hg3 (by simp; omega) (fun kk hkk => (hown'.out.lt kk hkk).1))
            have hrow := hide hown3
            clear hown3 hg3 hat3 hlt3
            go_wp2
            go_roundw
            case rel =>
              refine ⟨k + 1, 0, by omega, by go_num, rfl, by show _ = _; rw [e2.out], ?_, hbe.out⟩
              have q := hrow.out
              rw [e2.out]
              rw [List.length_append, List.length_singleton, ← hy.out]
              simpa [cellsN] using q
            case measure => simp [intOf]; omega
          · have hd : decide (((p[k].toNat : Nat) : Int) ≤ 57) = false := decide_eq_false (by omega)
            have hd4 : 48 ≤ ((p[k].toNat : Nat) : Int) := by omega
            go_wp2_with fail
            refine (hv.out _).mono ?_
            rintro e w' ⟨rfl, rfl⟩
            rw [h]
            go_wp2_with (at_builtin; refine wpList_append_lies _ rfl _ _ 60 rfl w.heap.size 3 i0 (.int .i64 0) 1 8 Try.underlying60 hi hz0 hz1 hz2 rfl (by decide) _ _ _ rfl (hown'.out.alloc _) ⟨wr.heap.size, 0, none⟩ 1 1 [.int .i64 y] rfl rfl (fun j u hj => cell_one_at (by simp) hj) (one_cells _) (by omega) (by unfold maxLen; omega) (by omega) (by simp; omega) _ rfl ?_)
            intro g3 cap3 w3 hown3 hg3 hat3 hlt3
            have hbe := hide ((hb'.out.alloc hbs _).grown hg3 (by simp; omega) (fun kk hkk => (hown'.out.lt kk hkk).1))
            have hrow := hide hown3
            clear hown3 hg3 hat3 hlt3
            go_wp2
            go_roundw
            case rel =>
              refine ⟨k + 1, 0, by omega, by go_num, rfl, by show _ = _; rw [e2.out], ?_, hbe.out⟩
              have q := hrow.out
              rw [e2.out]
              rw [List.length_append, List.length_singleton, ← hy.out]
              simpa [cellsN] using q
            case measure => simp [intOf]; omega
      · obtain rfl : k = p.size := by omega
        go_wp2_with fail
        refine (hv.out _).mono ?_
        rintro e w' ⟨rfl, rfl⟩
        rw [h]
        go_wp2_with (at_builtin; refine wpList_append_lies _ rfl _ _ 60 rfl w.heap.size 3 i0 (.int .i64 0) 1 8 Try.underlying60 hi hz0 hz1 hz2 rfl (by decide) _ _ _ rfl (hown'.out.alloc _) ⟨wr.heap.size, 0, none⟩ 1 1 [.int .i64 y] rfl rfl (fun j u hj => cell_one_at (by simp) hj) (one_cells _) (by omega) (by unfold maxLen; omega) (by omega) (by simp; omega) _ rfl ?_)
        intro g3 cap3 w3 hown3 hg3 hat3 hlt3
        have hbe := hide ((hb'.out.alloc hbs _).grown hg3 (by simp; omega) (fun kk hkk => (hown'.out.lt kk hkk).1))
        have hrow := hide hown3
        clear hown3 hg3 hat3 hlt3
        go_wp2
        unfold RowN
        go_ret
        refine ⟨_, rfl, ?_, hbe.out⟩
        have q := hrow.out
        unfold lvAll
        rw [List.length_append, List.length_singleton, ← hy.out]
        simpa [cellsN] using q
end Go.Proofs.Ytocaonlmlafjmaa

/- The walks through the validity of a list of patterns. Condition: the slice reads as the list. -/
namespace Go.Proofs.Ytocaonlmlafjmaa
open Go.RowKit
set_option linter.unusedVariables false
set_option linter.unusedSimpArgs false
set_option maxRecDepth 100000

theorem pats_step {l : List ByteArray} {k : Nat} {i : ByteArray} (hall : (l.take k).all patB = true) (hi : l[k]? = some i) (h : patB i = true) : (l.take (k + 1)).all patB = true := by
  rw [all_snoc _ _ _ _ hi, hall, h]; rfl
theorem pats_no {l : List ByteArray} {k : Nat} {i : ByteArray} (hi : l[k]? = some i) (h : patB i = false) : pats20 l = false := by
  unfold pats20; rw [all_false_of hi h]; rfl
theorem pats_end {l : List ByteArray} {k n : Nat} (hall : (l.take k).all patB = true) (hl : l.length = n) (hk : ¬ k < n) : pats20 l = decide ((n : Int) ≤ 20) := by
  rw [List.take_of_length_le (by omega)] at hall
  unfold pats20
  rw [hall, hl, Bool.true_and]
  exact decide_eq_decide.2 (by omega)
theorem specPats (A : Option Addr) (n c : Nat) (l : List ByteArray) (w : World) (hn : n ≤ maxLen) (hl : l.length = n) (hz : ∀ s ∈ l, s.size ≤ maxLen) (h : Rd w 1 A n (cellsS l)) :
    Calls Try.prog 87 #[.slice A n c] w fun e w' => e = .returned (.bool (pats20 l)) ∧ w = w' := by
  have hz' := hide hz
  have hl' := hide hl
  clear hz hl
  unfold maxLen at hn
  go_enter Try.func87, Try.ntmps87
  go_wp2
  go_loop [3] (fun i => ∃ k : Nat, k ≤ n ∧ i = .int .i64 k ∧ (l.take k).all patB = true) (fun i => n - (intOf i).toNat)
  case atStart => exact ⟨0, Nat.zero_le _, rfl, rfl⟩
  case round =>
    obtain ⟨k, hk, rfl, hall⟩ := hrel
    have hall' := hide hall
    clear hall
    by_cases hlt : k < n
    · obtain ⟨b, off, x, rfl, hbs, hx, c0⟩ := h.str hl'.out hlt
      have hx' := hide hx
      have hxz := hide (hz'.out x (List.mem_of_getElem? hx))
      clear hx
      cases hv : patB x with
      | false =>
        have e := hide (pats_no hx'.out hv)
        go_wp2_with (go_at_call 107; refine (specPat x _ hxz.out).mono ?_; rintro e w' ⟨rfl, rfl⟩)
        go_ret
        exact ⟨by rw [e.out]; rfl, rfl⟩
      | true =>
        have st := hide (pats_step hall'.out hx'.out hv)
        go_wp2_with (go_at_call 107; refine (specPat x _ hxz.out).mono ?_; rintro e w' ⟨rfl, rfl⟩)
        go_round
        case rel => exact ⟨k + 1, by omega, by go_num, st.out⟩
        case measure => simp [intOf]; omega
    · have e := hide (pats_end hall'.out hl'.out hlt)
      go_wp2
      go_ret
      exact ⟨by rw [e.out]; rfl, rfl⟩
theorem implPats (A : Option Addr) (n c : Nat) (l : List ByteArray) (w : World) (hn : n ≤ maxLen) (hl : l.length = n) (hz : ∀ s ∈ l, s.size ≤ maxLen) (h : Rd w 1 A n (cellsS l)) :
    Calls Try.prog 92 #[.slice A n c] w fun e w' => e = .returned (.bool (pats20 l)) ∧ w = w' := by
  have hz' := hide hz
  have hl' := hide hl
  clear hz hl
  unfold maxLen at hn
  go_enter Try.func92, Try.ntmps92
  go_wp2
  go_loop [7] (fun i => ∃ k : Nat, k ≤ n ∧ i = .int .i64 k ∧ (l.take k).all patB = true) (fun i => n - (intOf i).toNat)
  case atStart => exact ⟨0, Nat.zero_le _, rfl, rfl⟩
  case round =>
    obtain ⟨k, hk, rfl, hall⟩ := hrel
    have hall' := hide hall
    clear hall
    by_cases hlt : k < n
    · obtain ⟨b, off, x, rfl, hbs, hx, c0⟩ := h.str hl'.out hlt
      have hx' := hide hx
      have hxz := hide (hz'.out x (List.mem_of_getElem? hx))
      clear hx
      cases hv : patB x with
      | false =>
        have e := hide (pats_no hx'.out hv)
        go_wp2_with (go_at_call 112; refine (implPat x _ hxz.out).mono ?_; rintro e w' ⟨rfl, rfl⟩)
        go_ret
        exact ⟨by rw [e.out]; rfl, rfl⟩
      | true =>
        have st := hide (pats_step hall'.out hx'.out hv)
        go_wp2_with (go_at_call 112; refine (implPat x _ hxz.out).mono ?_; rintro e w' ⟨rfl, rfl⟩)
        go_round
        case rel => exact ⟨k + 1, by omega, by go_num, st.out⟩
        case measure => simp [intOf]; omega
    · have e := hide (pats_end hall'.out hl'.out hlt)
      go_wp2
      go_ret
      exact ⟨by rw [e.out]; rfl, rfl⟩
end Go.Proofs.Ytocaonlmlafjmaa
