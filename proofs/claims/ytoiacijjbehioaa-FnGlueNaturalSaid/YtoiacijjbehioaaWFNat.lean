/- The walk through the law of glues' own widths. No condition. -/
import Derived.Test.YtoiacijjbehioaaWFSc
import Derived.Deep.QuietTactic
namespace Go.Proofs.Ytoiacijjbehioaa
open Go.RowKit
set_option linter.unusedVariables false
set_option linter.unusedSimpArgs false
set_option maxRecDepth 100000

theorem nat_law (L : List G) (u : Int) : (SG L u).1.length ≠ L.length ∨ L.length = 0 ∨ SG L (GT L).w = (L.map G.w, true) := by
  cases h : (glues60 L && inB u 0 60000) with
  | false =>
    rw [sg_no h]
    cases L with
    | nil => exact .inr (.inl rfl)
    | cons g L => exact .inl (by simp)
  | true =>
    have h0 := h
    rw [Bool.and_eq_true] at h0
    obtain ⟨h1, h2⟩ := h0
    obtain ⟨hok, h60⟩ := glues60_ok h1
    obtain ⟨⟨b0, b1⟩, _⟩ := GT_bd L
    have hi : inB (GT L).w 0 60000 = true := by simp [inB]; omega
    have e1 : SG L (GT L).w = (setList L (GT L).w, (share L (GT L).w).ok) := by unfold SG; rw [h1, hi]; rfl
    refine .inr (.inr ?_)
    rw [e1, GT_yes h1, (set_own hok).1, (set_own hok).2]
set_option maxHeartbeats 8000000 in
theorem walkFnGlueNatural (A0 : Option Addr) (n0 c0 : Nat) (l0 : List Int) (w : World) (w0a : n0 ≤ c0) (w0b : c0 ≤ maxLen) (w0c : List.length l0 = n0) (w0d : Rd w 1 A0 n0 (cellsB l0)) (w0e : ∀ z ∈ l0, 0 ≤ z ∧ z ≤ 255) :
    Calls Try.prog 11 #[.slice A0 n0 c0] w fun e w' => e = .returned (.bool true) ∧ Below w.heap.size w w' := by
  by_cases hbig : 1048576 < n0
  · have hd : decide (1048576 < (n0 : Int)) = true := by simp; omega
    clear w0a w0b w0c w0d w0e hbig
    go_enter Try.func11, Try.ntmps11
    go_wp2
    go_ret
    exact ⟨rfl, Below.refl _ _⟩
  · have hd : decide (1048576 < (n0 : Int)) = false := by simp; omega
    have hdraw := hide (drawSG w A0 n0 c0 l0 w0c w0a (by omega) w0d w0e)
    clear w0a w0b w0c w0d w0e hbig
    go_enter Try.func11, Try.ntmps11
    go_wp2_with (fail)
    refine hdraw.out.mono ?_
    rintro e w1 ⟨L, v, n, u, rfl, hn, hL, hu, hown, hb1⟩
    obtain ⟨A1, c1, rfl, hnc, hrd⟩ := own_form hown
    have hb1' := hide hb1
    have hsz1 := hb1.size
    have hrd' := hide hrd
    have hL' := hide hL
    have hnm : n ≤ maxLen := by unfold maxLen; omega
    clear hdraw hb1 hown hL hrd
    have ci := hide (fun W U (h4 : Rd W 4 A1 n (cellsG L)) => implSG A1 n c1 L U W hnm hL'.out h4)
    have cs := hide (fun W (h4 : Rd W 4 A1 n (cellsG L)) => specSG A1 n c1 L u W hnm hL'.out h4)
    have cg := hide (fun W (h4 : Rd W 4 A1 n (cellsG L)) => implGT A1 n c1 L W hnm hL'.out h4)
    have law := hide (sg_law L u)
    have hci := ci.out w1 u hrd'.out
    unfold SGPost at hci
    have hcs := hide (fun W h4 => by have := cs.out W h4; unfold SGPost at this; exact this)
    have nat := hide (nat_law L u)
    clear cs
    generalize (SG L u).1 = R at *
    generalize (SG L u).2 = ok at *
    obtain ⟨m, hm⟩ : ∃ m, R.length = m := ⟨_, rfl⟩
    have hm' := hide hm
    have hci' := hide hci
    rw [hm] at hci'
    clear hm hci
    go_wp2_with fail
    refine hci'.out.mono ?_
    rintro e w2 ⟨v2, rfl, hown2, hb2⟩
    obtain ⟨A2, c2, rfl, _, hrd2⟩ := own_form hown2
    have hrd2' := hide hrd2
    have bel2 := hide hb2
    have s2 := hb2.size
    clear hown2 hrd2 hb2 hci'
    go_wp2_with fail
    refine (hcs.out w2 (hrd'.out.below bel2.out)).mono ?_
    rintro e w3 ⟨v3, rfl, hown3, hb3⟩
    rw [hm'.out] at hown3
    obtain ⟨A3, c3, rfl, _, hrd3⟩ := own_form hown3
    have hrd3' := hide hrd3
    have hrdR := hide (hrd2'.out.below hb3)
    have bel3 := hide (bel2.out.trans (hb3.mono s2))
    have s3 := bel3.out.size
    have hml : m ≤ n := by
      rcases law.out with ⟨h1, h2, h3⟩ | ⟨h1, _⟩
      · have := hm'.out; rw [h1] at this; simp at this; omega
      · have := hm'.out; have := hL'.out; omega
    clear hown3 hrd3 hb3 bel2 hrd2' hcs
    go_wp2_with fail
    refine (sameIntsL A2 A3 m c2 c3 R w3 (by unfold maxLen; omega) hm'.out hrdR.out hrd3'.out).mono ?_
    rintro e w4 ⟨rfl, hb4⟩
    have hrdR4 := hide (hrdR.out.below hb4)
    have bel4 := hide (bel3.out.trans (hb4.mono s3))
    have hrdL := hide (hrd'.out.below bel4.out)
    have hend := hide (hb1'.out.trans (bel4.out.mono hsz1))
    have send := hend.out.size
    have s4 := bel4.out.size
    clear hb4 bel3 hrd3' hrdR bel4 hrd' hb1'
    by_cases hmn : m = n
    · subst hmn
      have e0 : ((m : Int) != (m : Int)) = false := by simp
      have e00 : decide ((m : Int) = (m : Int)) = true := by simp
      by_cases hz : m = 0
      · subst hz
        have e2 : ((0 : Int) == 0) = true := rfl
        clear law nat hL' hm' ci cg hrdR4 hrdL
        go_wp2_with fail
        refine (alive_any _).mono ?_
        rintro e w99 ⟨rfl, hb99⟩
        have hfin := hide (hend.out.trans (hb99.mono send))
        clear hb99
        go_wp2
        go_ret
        exact ⟨rfl, hfin.out⟩
      · have hsg : SG L (GT L).w = (L.map G.w, true) := by
          rcases nat.out with h | h | h
          · exact absurd (hm'.out.trans hL'.out.symm) h
          · exact absurd (hL'.out.symm.trans h) hz
          · exact h
        have e2 : ((m : Int) == 0) = false := by simp; omega
        have cs2 := hide (fun W (h4 : Rd W 4 A1 m (cellsG L)) => show Calls Try.prog 32 #[.slice A1 m c1, .int .i64 (GT L).w] W (fun e w' => ∃ v, e = .returned (.tuple #[v, .bool true]) ∧ w'.ownsRow W.heap.size 3 1 v m (cellsN (L.map G.w)) ∧ Below W.heap.size W w') from by
          have := ci.out W (GT L).w h4
          unfold SGPost at this
          rw [hsg] at this
          simpa [hL'.out] using this)
        clear law nat hsg ci hrdR4
        go_wp2_with fail
        refine (cg.out w4 hrdL.out).mono ?_
        rintro e w5 ⟨rfl, hb5⟩
        have hrdL5 := hide (hrdL.out.below hb5)
        have hend5 := hide (hend.out.trans (hb5.mono send))
        have send5 := hend5.out.size
        clear hb5 cg hend hrdL
        have hfd : ∀ W : World, (Instr.field 26 (.agg #[.int .i64 (GT L).w, .int .i64 (GT L).st, .int .i64 (GT L).sh, .int .i64 (GT L).o]) 0).run Try.prog W = .ok (.int .i64 (GT L).w) W := fun _ => by kernel_rfl
        go_wp2_with fail
        clear hfd
        refine (cs2.out w5 hrdL5.out).mono ?_
        rintro e w6 ⟨v6, rfl, hown6, hb6⟩
        obtain ⟨A6, c6, rfl, _, hrd6⟩ := own_form hown6
        have hrdO := hide hrd6
        have hrdL6 := hide (hrdL5.out.below hb6)
        have hend6 := hide (hend5.out.trans (hb6.mono send5))
        have hlo := hide (show (L.map G.w).length = m by rw [List.length_map, hL'.out])
        clear hb6 hend5 hrdL5 hown6 hrd6 cs2
        go_wp2
        go_loopw [11] (fun i wr => ∃ (k nq : Nat), k ≤ m ∧ i = .int .i64 k ∧ wr = w6.drewN nq) (fun i _ => m - (intOf i).toNat)
        case atStart => exact ⟨0, 0, Nat.zero_le _, rfl, rfl⟩
        case round =>
          obtain ⟨k, nq0, hkm, rfl, rfl⟩ := hrel
          by_cases hlt : k < m
          · obtain ⟨b, off, z, rfl, hbk, hx, c0⟩ := hrdO.out.int hlo.out hlt
            obtain ⟨b2, off2, x, rfl, hbk2, hx2, d0, d1, d2, d3⟩ := hrdL6.out.glue hL'.out hlt
            have hzx : z = x.w := by rw [List.getElem?_map, hx2] at hx; exact (Option.some.inj hx).symm
            rw [hzx] at c0
            have hlti : (k : Int) < (m : Int) := by omega
            have e1 : decide ((m : Int) ≤ (k : Int)) = false := decide_eq_false (by omega)
            have e1' : decide (m ≤ k) = false := decide_eq_false (by omega)
            clear hx hx2 hzx
            go_wp2
            go_quiet (fail)
            go_wp2
            go_roundw
            case rel => exact ⟨k + 1, _, by omega, by go_num, by first | rfl | rw [World.drewN_drewN]⟩
            case measure => simp [intOf]; omega
          · obtain rfl : k = m := by omega
            go_wp2
            go_ret
            exact ⟨rfl, below_drewN hend6.out _⟩
    · have e0 : ((m : Int) != (n : Int)) = true := by simp; omega
      clear law nat hL' hm' ci cg hrdR4 hrdL
      go_wp2_with fail
      refine (alive_any _).mono ?_
      rintro e w99 ⟨rfl, hb99⟩
      have hfin := hide (hend.out.trans (hb99.mono send))
      clear hb99
      go_wp2
      go_ret
      exact ⟨rfl, hfin.out⟩
end Go.Proofs.Ytoiacijjbehioaa
