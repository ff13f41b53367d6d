/- The walk through the law of the start of a line. No condition. -/
import Derived.Test.YtocaonlmlafjmaaWFIt1
namespace Go.Proofs.Ytocaonlmlafjmaa
open Go.RowKit
set_option linter.unusedVariables false
set_option linter.unusedSimpArgs false
set_option maxRecDepth 100000

theorem lineS_cases (L : List I) (t : Int) (n : Nat) (hL : L.length = n) : lineS L t = -1 ∨ ∃ q : Nat, t = (q : Int) - 1 ∧ q ≤ n ∧ lineS L t = (stA L q : Int) := by
  unfold lineS
  split
  · rename_i h
    rw [Bool.and_eq_true] at h
    have hb := inB_true h.2
    obtain ⟨q, hq⟩ := Int.eq_ofNat_of_zero_le (show 0 ≤ t + 1 by omega)
    exact .inr ⟨q, by omega, by omega, by rw [hq, Int.toNat_natCast]⟩
  · exact .inl rfl
set_option maxHeartbeats 4000000 in
theorem walkFnLineStart (A0 : Option Addr) (n0 c0 : Nat) (l0 : List Int) (w : World) (w0a : n0 ≤ c0) (w0b : c0 ≤ maxLen) (w0c : List.length l0 = n0) (w0d : Rd w 1 A0 n0 (cellsB l0)) (w0e : ∀ z ∈ l0, 0 ≤ z ∧ z ≤ 255) :
    Calls Try.prog 10 #[.slice A0 n0 c0] w fun e w' => e = .returned (.bool true) ∧ Below w.heap.size w w' := by
  by_cases hbig : 1048576 < n0
  · have hd : decide (1048576 < (n0 : Int)) = true := by simp; omega
    clear w0a w0b w0c w0d w0e hbig
    go_enter Try.func10, Try.ntmps10
    go_wp2
    go_ret
    exact ⟨rfl, Below.refl _ _⟩
  · have hd : decide (1048576 < (n0 : Int)) = false := by simp; omega
    have hdraw := hide (drawLineSt w A0 n0 c0 l0 w0c w0a (by omega) w0d w0e)
    clear w0a w0b w0c w0d w0e hbig
    go_enter Try.func10, Try.ntmps10
    go_wp2_with (fail)
    refine hdraw.out.mono ?_
    rintro e w1 ⟨L, v, n, t, rfl, hn, hL, ht, hown, hb1⟩
    obtain ⟨A1, c1, rfl, hnc, hrd⟩ := own_form hown
    have hcm := own_cap hown
    have hb1' := hide hb1
    have hsz1 := hb1.size
    have hrd' := hide hrd
    have hL' := hide hL
    have hnm : n ≤ maxLen := by unfold maxLen; omega
    clear hdraw hb1 hown hL hrd
    have ci := hide (implLineS A1 n c1 L t w1 hnm hL'.out hrd'.out)
    have cs := hide (fun W (h4 : Rd W 7 A1 n (cellsI L)) => specLineS A1 n c1 L t W hnm hL'.out h4)
    go_wp2_with fail
    refine (ci.out).mono ?_
    rintro e w1b ⟨rfl, hb⟩
    have bx1 := hide hb
    have t1 := hb.size
    clear hb
    go_wp2_with fail
    refine (cs.out _ (hrd'.out.below bx1.out)).mono ?_
    rintro e w2 ⟨rfl, hb⟩
    have bx2 := hide (bx1.out.trans (hb.mono t1))
    have bel2 := hide (hb1'.out.trans (bx2.out.mono hsz1))
    have sbel2 := bel2.out.size
    have hrd2 := hide (hrd'.out.below bx2.out)
    clear hb bx1 t1
    rcases lineS_cases L t n hL'.out with hs | ⟨q, rfl, hq, hs⟩
    · rw [hs]
      clear hs
      go_wp2_with fail
      refine (alive_any _).mono ?_
      rintro e w99 ⟨rfl, hb99⟩
      have hend := hide (bel2.out.trans (hb99.mono sbel2))
      clear hb99
      go_wp2
      go_ret
      exact ⟨rfl, hend.out⟩
    · rw [hs]
      have hab := stA_bd L q (by rw [hL'.out]; exact hq)
      rw [hL'.out] at hab
      have hbef := hide (fun k x (h1 : q ≤ k) (h2 : k < stA L q) (h3 : L[k]? = some x) => stA_before h1 h2 h3)
      have hat := hide (fun x (h : L[stA L q]? = some x) => stA_at h)
      generalize stA L q = a at *
      have g0 : (q : Int) - 1 + 1 = (q : Int) := by omega
      have a0 : decide ((a : Int) < 0) = false := decide_eq_false (by omega)
      have a1 : decide ((q : Int) - 1 < (a : Int)) = true := decide_eq_true (by omega)
      have a2 : decide ((a : Int) ≤ (n : Int)) = true := decide_eq_true (by omega)
      have a2' : decide (a ≤ n) = true := decide_eq_true (by omega)
      clear hs
      go_wp2
      go_loop [6] (fun i => ∃ k : Nat, q ≤ k ∧ k ≤ a ∧ i = .int .i64 k) (fun i => a - (intOf i).toNat)
      case atStart => exact ⟨q, Nat.le_refl _, hab.1, by first | rfl | (congr 1)⟩
      case round =>
        obtain ⟨k, hqk, hka, rfl⟩ := hrel
        clear g0
        by_cases hlt : k < a
        · have hkn : k < n := by omega
          have hkni : (k : Int) < (n : Int) := by omega
          have hkai : (k : Int) < (a : Int) := by omega
          obtain ⟨b, off, x, rfl, hbk, hx, c0, c1', c2, c3, c4, c5, c6⟩ := hrd2.out.item hL'.out hkn
          have hst := hbef.out k x hqk hlt hx
          unfold stopB at hst
          rw [Bool.or_eq_false_iff] at hst
          have hk1 := hst.1
          have hk3 := hst.2
          clear hx hst
          cases k3 : (x.k == 3) with
          | false =>
            clear hk3
            go_wp2
            go_round
            case rel => exact ⟨k + 1, by omega, by omega, by go_num⟩
            case measure => simp [intOf]; omega
          | true =>
            rw [k3, Bool.true_and] at hk3
            go_wp2
            go_round
            case rel => exact ⟨k + 1, by omega, by omega, by go_num⟩
            case measure => simp [intOf]; omega
        · obtain rfl : k = a := by omega
          have hkk : decide ((k : Int) < (k : Int)) = false := decide_eq_false (by omega)
          by_cases han : k = n
          · subst han
            have e1 : ((k : Int) == (k : Int)) = true := by simp
            go_wp2
            go_ret
            exact ⟨rfl, bel2.out⟩
          · have hkn : k < n := by omega
            have hkni : (k : Int) < (n : Int) := by omega
            have e1 : ((k : Int) == (n : Int)) = false := by simp; omega
            obtain ⟨b, off, x, rfl, hbk, hx, c0, c1', c2, c3, c4, c5, c6⟩ := hrd2.out.item hL'.out hkn
            have hst := hat.out x hx
            unfold stopB at hst
            clear hx
            cases k1 : (x.k == 1) with
            | true =>
              clear hst
              go_wp2
              go_ret
              exact ⟨rfl, bel2.out⟩
            | false =>
              rw [k1, Bool.false_or, Bool.and_eq_true] at hst
              have k3 := hst.1
              have kc := hst.2
              clear hst
              go_wp2
              go_ret
              exact ⟨rfl, bel2.out⟩
end Go.Proofs.Ytocaonlmlafjmaa
