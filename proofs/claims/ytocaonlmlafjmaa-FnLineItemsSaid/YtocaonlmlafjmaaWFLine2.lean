/- The walk through the law of the items of a line. No condition. -/
import Derived.Test.YtocaonlmlafjmaaWFLine
import Derived.Deep.QuietTactic
namespace Go.Proofs.Ytocaonlmlafjmaa
open Go.RowKit
set_option linter.unusedVariables false
set_option linter.unusedSimpArgs false
set_option maxRecDepth 100000

set_option maxHeartbeats 4000000 in
theorem walkFnLineItems (A0 : Option Addr) (n0 c0 : Nat) (l0 : List Int) (w : World) (w0a : n0 ≤ c0) (w0b : c0 ≤ maxLen) (w0c : List.length l0 = n0) (w0d : Rd w 1 A0 n0 (cellsB l0)) (w0e : ∀ z ∈ l0, 0 ≤ z ∧ z ≤ 255) :
    Calls Try.prog 21 #[.slice A0 n0 c0] w fun e w' => e = .returned (.bool true) ∧ Below w.heap.size w w' := by
  by_cases hbig : 1048576 < n0
  · have hd : decide (1048576 < (n0 : Int)) = true := by simp; omega
    clear w0a w0b w0c w0d w0e hbig
    go_enter Try.func21, Try.ntmps21
    go_wp2
    go_ret
    exact ⟨rfl, Below.refl _ _⟩
  · have hd : decide (1048576 < (n0 : Int)) = false := by simp; omega
    have hdraw := hide (drawLI w A0 n0 c0 l0 w0c w0a (by omega) w0d w0e)
    clear w0a w0b w0c w0d w0e hbig
    go_enter Try.func21, Try.ntmps21
    go_wp2_with (fail)
    refine hdraw.out.mono ?_
    rintro e w1 ⟨L, v, n, t, u, rfl, hn, hL, ht, hu, hown, hb1⟩
    obtain ⟨A1, c1, rfl, hnc, hrd⟩ := own_form hown
    have hcm := own_cap hown
    have hb1' := hide hb1
    have hsz1 := hb1.size
    have hrd' := hide hrd
    have hL' := hide hL
    have hnm : n ≤ maxLen := by unfold maxLen; omega
    clear hdraw hb1 hown hL hrd
    have ci := hide (implLineIts A1 n c1 L t u w1 hnm hL'.out hrd'.out)
    have cs := hide (fun W (h4 : Rd W 7 A1 n (cellsI L)) => specLineIts A1 n c1 L t u W hnm hL'.out h4)
    have hmem := hide (fun x (hx : x ∈ lineI L t u) => lineI_mem hx)
    have hasc := hide (lineI_asc L t u)
    have hfst := hide (fun x (hx : (lineI L t u)[0]? = some x) => line_first hx)
    have h60 := lineI_len L t u
    generalize lineI L t u = R at *
    obtain ⟨m, hm⟩ : ∃ m, R.length = m := ⟨_, rfl⟩
    have hm' := hide hm
    have hml := hide ((toI_len R).trans hm)
    rw [hm] at h60
    clear hm
    go_wp2_with fail
    refine ci.out.mono ?_
    rintro e w2 ⟨v2, rfl, hown2, hb2⟩
    obtain ⟨A2, c2, rfl, _, hrd2⟩ := own_form hown2
    rw [hml.out] at hrd2 ⊢
    have hrd2' := hide hrd2
    have bel2 := hide hb2
    have s2 := hb2.size
    clear hown2 hrd2 hb2 ci
    go_wp2_with fail
    refine (cs.out _ (hrd'.out.below bel2.out)).mono ?_
    rintro e w3 ⟨v3, rfl, hown3, hb3⟩
    obtain ⟨A3, c3, rfl, _, hrd3⟩ := own_form hown3
    rw [hml.out] at hrd3 ⊢
    have hrd3' := hide hrd3
    have hrdR := hide (hrd2'.out.below hb3)
    have bel3 := hide (bel2.out.trans (hb3.mono s2))
    have s3 := bel3.out.size
    clear hown3 hrd3 hb3 cs bel2 hrd2'
    go_wp2_with fail
    refine (sameIntsL A2 A3 m c2 c3 (toI R) w3 (by unfold maxLen; omega) hml.out hrdR.out hrd3'.out).mono ?_
    rintro e w4 ⟨rfl, hb4⟩
    have hrdR4 := hide (hrdR.out.below hb4)
    have bel4 := hide (bel3.out.trans (hb4.mono s3))
    have hrdL := hide (hrd'.out.below bel4.out)
    have hend := hide (hb1'.out.trans (bel4.out.mono hsz1))
    have send := hend.out.size
    clear hb4 bel3 hrd3' hrdR bel4
    go_wp2
    go_loopw [7] (fun i wr => ∃ (k nq : Nat), k ≤ m ∧ i = .int .i64 k ∧ wr = w4.drewN nq) (fun i _ => m - (intOf i).toNat)
    case atStart => exact ⟨0, 0, Nat.zero_le _, rfl, rfl⟩
    case round =>
      obtain ⟨k, nq0, hkm, rfl, rfl⟩ := hrel
      by_cases hlt : k < m
      · obtain ⟨b, off, z, rfl, hbk, hx, c0⟩ := hrdR4.out.int hml.out hlt
        obtain ⟨j, rfl, hj⟩ := toI_nat hx
        obtain ⟨m1, m2, m3, m4⟩ := hmem.out j (List.mem_of_getElem? hj)
        obtain ⟨y, hy, hy3⟩ := notBr_true m4
        have hjn : j < n := by have := hL'.out; omega
        obtain ⟨b2, off2, y2, rfl, hbk2, hy2, d0, d1, d2, d3, d4, d5, d6⟩ := hrdL.out.item hL'.out hjn
        have hye : y2 = y := by rw [hy] at hy2; exact (Option.some.inj hy2).symm
        rw [hye] at d0
        have e1 : decide ((j : Int) ≤ t) = false := decide_eq_false (by omega)
        have e2 : decide (u ≤ (j : Int)) = false := decide_eq_false (by omega)
        have e3 : decide ((j : Int) < 0) = false := decide_eq_false (by omega)
        have e4 : decide ((n : Int) ≤ (j : Int)) = false := decide_eq_false (by omega)
        have e4' : decide (n ≤ j) = false := decide_eq_false (by omega)
        have hjni : (j : Int) < (n : Int) := by omega
        have hkmi : (k : Int) < (m : Int) := by omega
        have hj0 : (0 : Int) ≤ (j : Int) := by omega
        by_cases k0 : k = 0
        · subst k0
          obtain ⟨y9, hy9, hyk⟩ := hfst.out j hj
          have hye9 : y9 = y := by rw [hy] at hy9; exact (Option.some.inj hy9).symm
          have e6 : (y.k != 1) = false := by rw [← hye9, hyk]; rfl
          simp only [Nat.add_zero] at c0
          clear hx hj m1 m2 m3 m4 hy hy2 hye hy9 hyk hye9 hbk hbk2
          go_wp2
          refine wp_region_quiet_lit (by kernel_rfl) (by kernel_rfl) ?_
          try simp only [List.append]
          go_big_quiet_want; go_big_quiet_op; go_big_quiet_on
          go_big_quiet_want; go_big_quiet_op; go_big_quiet_on
          go_big_quiet_want; go_big_quiet_op; go_big_quiet_on
          go_big_quiet_want; go_big_quiet_op; go_big_quiet_on
          go_big_quiet_want; go_big_quiet_op; go_big_quiet_on
          go_big_quiet_want; go_big_quiet_op; go_big_quiet_on
          go_big_quiet_want; go_big_quiet_op; go_big_quiet_on
          go_big_quiet_want; go_big_quiet_op; go_big_quiet_on
          go_big_quiet_want; go_big_quiet_op; go_big_quiet_on
          go_big_quiet_want; go_big_quiet_op; go_big_quiet_on
          go_big_quiet_want; go_big_quiet_op; go_big_quiet_on
          go_big_quiet_want; go_big_quiet_op; go_big_quiet_on
          go_big_quiet_want; go_big_quiet_op; go_big_quiet_on
          go_big_quiet_want; go_big_quiet_op; go_big_quiet_on
          go_big_quiet_want; go_big_quiet_op; go_big_quiet_on
          go_big_quiet_want; go_big_quiet_op; go_big_quiet_on
          go_big_quiet_want; go_big_quiet_op; go_big_quiet_on
          go_big_quiet_want; go_big_quiet_op; go_big_quiet_on
          go_big_quiet_want; go_big_quiet_op; go_big_quiet_on
          go_big_quiet_want; go_big_quiet_op; go_big_quiet_on
          go_big_quiet_want; go_big_quiet_op; go_big_quiet_on
          go_big_quiet_want; go_big_quiet_op; go_big_quiet_on
          go_big_quiet_want; go_big_quiet_op; go_big_quiet_on
          go_big_quiet_want; go_big_quiet_op; go_big_quiet_on
          go_big_quiet_want; go_big_quiet_op; go_big_quiet_on
          go_big_quiet_want; go_big_quiet_op; go_big_quiet_on
          go_big_quiet_want; go_big_quiet_op; go_big_quiet_on
          go_big_quiet_want; go_big_quiet_op; go_big_quiet_on
          go_big_quiet_want; go_big_quiet_op; go_big_quiet_on
          go_big_quiet_want; go_big_quiet_op; go_big_quiet_on
          go_big_quiet_want; go_big_quiet_op; go_big_quiet_on
          go_big_quiet_want; go_big_quiet_op; go_big_quiet_on
          go_big_quiet_want; go_big_quiet_op; go_big_quiet_on
          go_big_quiet_want; go_big_quiet_op; go_big_quiet_on
          go_big_quiet_skip
          go_big_quiet_skip
          go_big_quiet_skip
          go_big_quiet_skip
          go_big_quiet_skip
          go_big_quiet_skip
          go_big_quiet_skip
          go_big_quiet_skip
          go_big_quiet_skip
          go_big_quiet_skip
          go_big_quiet_want; go_big_quiet_op; go_big_quiet_on
          go_big_quiet_want; go_big_quiet_op; go_big_quiet_on
          go_big_quiet_want; go_big_quiet_op; go_big_quiet_on
          go_big_quiet_want; go_big_quiet_op; go_big_quiet_on
          go_big_quiet_want; go_big_quiet_op; go_big_quiet_on
          go_big_quiet_want; go_big_quiet_op; go_big_quiet_on
          go_big_quiet_want; go_big_quiet_op; go_big_quiet_on
          go_big_quiet_want; go_big_quiet_op; go_big_quiet_on
          go_big_quiet_want; go_big_quiet_op; go_big_quiet_on
          go_big_quiet_want; go_big_quiet_op; go_big_quiet_on
          go_big_quiet_want; go_big_quiet_op; go_big_quiet_on
          go_big_quiet_want; go_big_quiet_op; go_big_quiet_on
          go_big_quiet_want; go_big_quiet_op; go_big_quiet_on
          go_big_quiet_want; go_big_quiet_op; go_big_quiet_on
          go_big_quiet_want; go_big_quiet_op; go_big_quiet_on
          go_big_quiet_want; go_big_quiet_op; go_big_quiet_on
          go_big_quiet_want; go_big_quiet_op; go_big_quiet_on
          go_big_quiet_want; go_big_quiet_op; go_big_quiet_on
          go_big_quiet_want; go_big_quiet_op; go_big_quiet_on
          go_big_quiet_want; go_big_quiet_op; go_big_quiet_on
          go_big_quiet_want; go_big_quiet_op; go_big_quiet_on
          go_big_quiet_want; go_big_quiet_op; go_big_quiet_on
          go_big_quiet_want; go_big_quiet_op; go_big_quiet_on
          go_big_quiet_want; go_big_quiet_op; go_big_quiet_on
          go_big_quiet_want; go_big_quiet_op; go_big_quiet_on
          go_big_quiet_want; go_big_quiet_op; go_big_quiet_on
          go_big_quiet_want; go_big_quiet_op; go_big_quiet_on
          go_big_quiet_want; go_big_quiet_op; go_big_quiet_on
          refine wpQuiet_nil ?_
          intro _ hw'
          obtain ⟨nq, hw''⟩ := hw'
          subst hw''
          go_wp2
          go_roundw
          case rel => exact ⟨0 + 1, _, by omega, by go_num, by first | rfl | rw [World.drewN_drewN]⟩
          case measure => simp [intOf]; omega
        · obtain ⟨k, rfl⟩ : ∃ q, k = q + 1 := ⟨k - 1, by omega⟩
          obtain ⟨b5, off5, z5, hA5, hbk5, hx5, c5⟩ := hrdR4.out.int hml.out (show k < m by omega)
          injection hA5 with hA5
          injection hA5 with hA51 hA52
          subst hA51
          subst hA52
          obtain ⟨j5, rfl, hj5⟩ := toI_nat hx5
          have hlt5 : j5 < j := by
            obtain ⟨h1, g1⟩ := List.getElem?_eq_some_iff.1 hj5
            obtain ⟨h2, g2⟩ := List.getElem?_eq_some_iff.1 hj
            have := (List.pairwise_iff_getElem.1 hasc.out) k (k + 1) h1 h2 (by omega)
            omega
          have e6 : decide ((j : Int) ≤ (j5 : Int)) = false := decide_eq_false (by omega)
          have e6' : decide (j ≤ j5) = false := decide_eq_false (by omega)
          have e7 : decide (0 < ((k + 1 : Nat) : Int)) = true := decide_eq_true (by omega)
          have e7' : decide ((0 : Int) < (k : Int) + 1) = true := decide_eq_true (by omega)
          have e8 : (((k + 1 : Nat) : Int) == 0) = false := by simp; omega
          have e8' : ((k : Int) + 1 == 0) = false := by simp; omega
          have e9 : (k : Int) + 1 < (m : Int) := by omega
          have e10 : (k : Int) < (m : Int) := by omega
          have e11 : (0 : Int) ≤ (k : Int) + 1 := by omega
          have e12 : ((k : Int) + 1).toNat = k + 1 := by omega
          clear hx hj m1 m2 m3 m4 hy hy2 hye hx5 hj5
          go_wp2
          have w0 : IntKind.i64.wrap ((k : Int) + 1 - 1) = (k : Int) := by rw [show (k : Int) + 1 - 1 = (k : Int) by omega]; exact IntWalk.i64_in _ (by omega)
          refine wp_region_quiet_lit (by kernel_rfl) (by kernel_rfl) ?_
          try simp only [List.append]
          go_big_quiet_want; go_big_quiet_op; go_big_quiet_on
          go_big_quiet_want; go_big_quiet_op; go_big_quiet_on
          go_big_quiet_want; go_big_quiet_op; go_big_quiet_on
          go_big_quiet_want; go_big_quiet_op; go_big_quiet_on
          go_big_quiet_want; go_big_quiet_op; go_big_quiet_on
          go_big_quiet_want; go_big_quiet_op; go_big_quiet_on
          go_big_quiet_want; go_big_quiet_op; go_big_quiet_on
          go_big_quiet_want; go_big_quiet_op; go_big_quiet_on
          go_big_quiet_want; go_big_quiet_op; go_big_quiet_on
          go_big_quiet_want; go_big_quiet_op; go_big_quiet_on
          go_big_quiet_want; go_big_quiet_op; go_big_quiet_on
          go_big_quiet_want; go_big_quiet_op; go_big_quiet_on
          go_big_quiet_want; go_big_quiet_op; go_big_quiet_on
          go_big_quiet_want; go_big_quiet_op; go_big_quiet_on
          go_big_quiet_want; go_big_quiet_op; go_big_quiet_on
          go_big_quiet_want; go_big_quiet_op; go_big_quiet_on
          go_big_quiet_want; go_big_quiet_op; go_big_quiet_on
          go_big_quiet_want; go_big_quiet_op; go_big_quiet_on
          go_big_quiet_want; go_big_quiet_op; go_big_quiet_on
          go_big_quiet_want; go_big_quiet_op; go_big_quiet_on
          go_big_quiet_want; go_big_quiet_op; go_big_quiet_on
          go_big_quiet_want; go_big_quiet_op; go_big_quiet_on
          go_big_quiet_want; go_big_quiet_op; go_big_quiet_on
          go_big_quiet_want; go_big_quiet_op; go_big_quiet_on
          go_big_quiet_want; go_big_quiet_op; go_big_quiet_on
          go_big_quiet_want; go_big_quiet_op; go_big_quiet_on
          go_big_quiet_want; go_big_quiet_op; go_big_quiet_on
          go_big_quiet_want; go_big_quiet_op; go_big_quiet_on
          go_big_quiet_want; go_big_quiet_op; go_big_quiet_on
          go_big_quiet_want; go_big_quiet_op; go_big_quiet_on
          go_big_quiet_want; go_big_quiet_op; go_big_quiet_on
          go_big_quiet_want; go_big_quiet_op; go_big_quiet_on
          go_big_quiet_want; go_big_quiet_op; go_big_quiet_on
          go_big_quiet_want; go_big_quiet_op; go_big_quiet_on
          go_big_quiet_want; go_big_quiet_op; go_big_quiet_on
          go_big_quiet_want; go_big_quiet_op; go_big_quiet_on
          go_big_quiet_want; go_big_quiet_op; go_big_quiet_on
          go_big_quiet_want; go_big_quiet_op; go_big_quiet_on
          go_big_quiet_want; go_big_quiet_op; go_big_quiet_on
          go_big_quiet_want; go_big_quiet_op; go_big_quiet_on
          go_big_quiet_want; go_big_quiet_op; go_big_quiet_on
          go_big_quiet_want; go_big_quiet_op; go_big_quiet_on
          go_big_quiet_want; go_big_quiet_op; go_big_quiet_on
          go_big_quiet_want; go_big_quiet_op; go_big_quiet_on
          go_big_quiet_want; go_big_quiet_op; go_big_quiet_on
          go_big_quiet_want; go_big_quiet_op; go_big_quiet_on
          go_big_quiet_want; go_big_quiet_op; go_big_quiet_on
          go_big_quiet_want; go_big_quiet_op; go_big_quiet_on
          go_big_quiet_want; go_big_quiet_op; go_big_quiet_on
          go_big_quiet_want; go_big_quiet_op; go_big_quiet_on
          go_big_quiet_want; go_big_quiet_op; go_big_quiet_on
          go_big_quiet_want; go_big_quiet_op; go_big_quiet_on
          go_big_quiet_want; go_big_quiet_op; go_big_quiet_on
          go_big_quiet_want; go_big_quiet_op; go_big_quiet_on
          go_big_quiet_want; go_big_quiet_op; go_big_quiet_on
          go_big_quiet_want; go_big_quiet_op; go_big_quiet_on
          go_big_quiet_want; go_big_quiet_op; go_big_quiet_on
          go_big_quiet_want; go_big_quiet_op; go_big_quiet_on
          go_big_quiet_want; go_big_quiet_op; go_big_quiet_on
          go_big_quiet_want; go_big_quiet_op; go_big_quiet_on
          go_big_quiet_want; go_big_quiet_op; go_big_quiet_on
          go_big_quiet_skip
          go_big_quiet_skip
          go_big_quiet_skip
          go_big_quiet_skip
          go_big_quiet_skip
          go_big_quiet_skip
          go_big_quiet_skip
          go_big_quiet_skip
          go_big_quiet_skip
          go_big_quiet_want; go_big_quiet_op; go_big_quiet_on
          go_big_quiet_want; go_big_quiet_op; go_big_quiet_on
          refine wpQuiet_nil ?_
          intro _ hw'
          obtain ⟨nq, hw''⟩ := hw'
          subst hw''
          clear w0
          go_wp2
          go_roundw
          case rel => exact ⟨k + 1 + 1, _, by omega, by go_num, by first | rfl | rw [World.drewN_drewN]⟩
          case measure => simp [intOf]; omega
      · go_wp2_with fail
        refine (alive_any _).mono ?_
        rintro e w99 ⟨rfl, hb99⟩
        have hfin := hide ((below_drewN hend.out nq0).trans (hb99.mono send))
        clear hb99
        go_wp2
        go_ret
        exact ⟨rfl, hfin.out⟩
end Go.Proofs.Ytocaonlmlafjmaa
