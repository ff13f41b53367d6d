/- The walk through the law of set glues. No condition. -/
import Derived.Test.YtoiacijjbehioaaWFSc
import Derived.Deep.QuietTactic
namespace Go.Proofs.Ytoiacijjbehioaa
open Go.RowKit
set_option linter.unusedVariables false
set_option linter.unusedSimpArgs false
set_option maxRecDepth 100000

set_option maxHeartbeats 8000000 in
theorem walkFnSetGlues (A0 : Option Addr) (n0 c0 : Nat) (l0 : List Int) (w : World) (w0a : n0 ≤ c0) (w0b : c0 ≤ maxLen) (w0c : List.length l0 = n0) (w0d : Rd w 1 A0 n0 (cellsB l0)) (w0e : ∀ z ∈ l0, 0 ≤ z ∧ z ≤ 255) :
    Calls Try.prog 10 #[.slice A0 n0 c0] w fun e w' => e = .returned (.bool true) ∧ Below w.heap.size w w' := by
  by_cases hbig : 1048576 < n0
  · have hd : decide (1048576 < (n0 : Int)) = true := by simp; omega
    clear w0a w0b w0c w0d w0e hbig
    go_enter Try.func10, Try.ntmps10
    go_wp2
    go_ret
    exact ⟨rfl, Below.refl _ _⟩
  · have hd : decide (1048576 < (n0 : Int)) = false := by simp; omega
    have hdraw := hide (drawSG w A0 n0 c0 l0 w0c w0a (by omega) w0d w0e)
    clear w0a w0b w0c w0d w0e hbig
    go_enter Try.func10, Try.ntmps10
    go_wp2_with (fail)
    refine hdraw.out.mono ?_
    rintro e w1 ⟨L, v, n, u, rfl, hn, hL, hu, hown, hb1⟩
    obtain ⟨A1, c1, rfl, hnc, hrd⟩ := own_form hown
    have hb1' := hide hb1
    have hsz1 := hb1.size
    have hrd' := hide hrd
    have hL' := hide hL
    have hnm : n ≤ maxLen := by unfold maxLen; omega
    clear hdraw hb1 hown hL hrd
    have ci := hide (fun W U (h4 : Rd W 4 A1 n (cellsG L)) => implSG A1 n c1 L U W hnm hL'.out h4)
    have cs := hide (fun W (h4 : Rd W 4 A1 n (cellsG L)) => specSG A1 n c1 L u W hnm hL'.out h4)
    have cg := hide (fun W (h4 : Rd W 4 A1 n (cellsG L)) => implGT A1 n c1 L W hnm hL'.out h4)
    have law := hide (sg_law L u)
    have hci := ci.out w1 u hrd'.out
    unfold SGPost at hci
    have hcs := hide (fun W h4 => by have := cs.out W h4; unfold SGPost at this; exact this)
    clear cs
    generalize (SG L u).1 = R at *
    generalize (SG L u).2 = ok at *
    obtain ⟨m, hm⟩ : ∃ m, R.length = m := ⟨_, rfl⟩
    have hm' := hide hm
    have hci' := hide hci
    rw [hm] at hci'
    clear hm hci
    go_wp2_with fail
    refine hci'.out.mono ?_
    rintro e w2 ⟨v2, rfl, hown2, hb2⟩
    obtain ⟨A2, c2, rfl, _, hrd2⟩ := own_form hown2
    have hrd2' := hide hrd2
    have bel2 := hide hb2
    have s2 := hb2.size
    clear hown2 hrd2 hb2 hci'
    go_wp2_with fail
    refine (hcs.out w2 (hrd'.out.below bel2.out)).mono ?_
    rintro e w3 ⟨v3, rfl, hown3, hb3⟩
    rw [hm'.out] at hown3
    obtain ⟨A3, c3, rfl, _, hrd3⟩ := own_form hown3
    have hrd3' := hide hrd3
    have hrdR := hide (hrd2'.out.below hb3)
    have bel3 := hide (bel2.out.trans (hb3.mono s2))
    have s3 := bel3.out.size
    have hml : m ≤ n := by
      rcases law.out with ⟨h1, h2, h3⟩ | ⟨h1, _⟩
      · have := hm'.out; rw [h1] at this; simp at this; omega
      · have := hm'.out; have := hL'.out; omega
    clear hown3 hrd3 hb3 bel2 hrd2' hcs
    go_wp2_with fail
    refine (sameIntsL A2 A3 m c2 c3 R w3 (by unfold maxLen; omega) hm'.out hrdR.out hrd3'.out).mono ?_
    rintro e w4 ⟨rfl, hb4⟩
    have hrdR4 := hide (hrdR.out.below hb4)
    have bel4 := hide (bel3.out.trans (hb4.mono s3))
    have hrdL := hide (hrd'.out.below bel4.out)
    have hend := hide (hb1'.out.trans (bel4.out.mono hsz1))
    have send := hend.out.size
    have s4 := bel4.out.size
    clear hb4 bel3 hrd3' hrdR bel4 hrd' hb1'
    rcases law.out with ⟨h1, rfl, h3⟩ | ⟨h1, h2, h3, h4, h5⟩
    · rw [hL'.out] at h3
      have hm0 : m = 0 := by have := hm'.out; rw [h1] at this; simpa using this.symm
      subst hm0
      have e0 : ((0 : Int) != (n : Int)) = true := by simp; omega
      have e00 : (((0 : Nat) : Int) != (n : Int)) = true := by simp; omega
      clear law h1 hL' hm' ci cg hrdR4 hrdL
      go_wp2_with fail
      refine (alive_any _).mono ?_
      rintro e w99 ⟨rfl, hb99⟩
      have hfin := hide (hend.out.trans (hb99.mono send))
      clear hb99
      go_wp2
      go_ret
      exact ⟨rfl, hfin.out⟩
    · have hmn : m = n := by have := hm'.out; have := hL'.out; omega
      subst hmn
      have hle := hide h2
      have hS := hide h4
      have hS2 := hide h5
      have hbd := hide h3
      have e0 : ((m : Int) != (m : Int)) = false := by simp
      clear law h1 h2 h3 h4 h5
      go_wp2_with fail
      refine (cg.out w4 hrdL.out).mono ?_
      rintro e w5 ⟨rfl, hb5⟩
      have bG := Blk.new w5 26 #[.int .i64 (GT L).w, .int .i64 (GT L).st, .int .i64 (GT L).sh, .int .i64 (GT L).o]
      have bel5 := hide (hb5.alloc hb5.size (.cells #[.int .i64 (GT L).w, .int .i64 (GT L).st, .int .i64 (GT L).sh, .int .i64 (GT L).o] 26))
      have hend5 := hide (hend.out.trans (bel5.out.mono send))
      have hgb := hide (GT_bd L)
      clear hb5 hend cg ci
      go_wp2_with fail
      generalize w5.heap.size = g at bG ⊢
      generalize w5.alloc (.cells #[.int .i64 (GT L).w, .int .i64 (GT L).st, .int .i64 (GT L).sh, .int .i64 (GT L).o] 26) = w6 at bG bel5 hend5 ⊢
      obtain ⟨k0, k1, k2, k3, f0, f1, f2, f3⟩ := bG.c4
      have bG' := hide bG
      have hrdR6 := hide (hrdR4.out.below bel5.out)
      have hrdL6 := hide (hrdL.out.below bel5.out)
      generalize (GT L).w = gw at *
      generalize (GT L).st = gst at *
      generalize (GT L).sh = gsh at *
      generalize (GT L).o = go at *
      clear bG bel5 hrdR4 hrdL f0 f1 f2 f3
      go_loopw [10] (fun i wr => ∃ (k nq : Nat), k ≤ m ∧ i = .int .i64 k ∧ wr = w6.drewN nq) (fun i _ => m - (intOf i).toNat)
      case atStart => exact ⟨0, 0, Nat.zero_le _, rfl, rfl⟩
      case round =>
        obtain ⟨k, nq0, hkm, rfl, rfl⟩ := hrel
        by_cases hlt : k < m
        · obtain ⟨b, off, z, rfl, hbk, hx, c0⟩ := hrdR6.out.int hm'.out hlt
          obtain ⟨b2, off2, x, rfl, hbk2, hx2, d0, d1, d2, d3⟩ := hrdL6.out.glue hL'.out hlt
          obtain ⟨l1, l2, l3⟩ := hle.out k x z hx2 hx
          have hlti : (k : Int) < (m : Int) := by omega
          have e1 : decide (z < x.w - x.sh) = false := decide_eq_false (by omega)
          clear hx hx2 hgb
          go_wp2
          go_quiet (fail)
          go_wp2
          go_roundw
          case rel => exact ⟨k + 1, _, by omega, by go_num, by first | rfl | rw [World.drewN_drewN]⟩
          case measure => simp [intOf]; omega
        · obtain rfl : k = m := by omega
          have ct := hide (fun N => (totalL A2 k c2 R (w6.drewN (nq0 + N)) hn hm'.out hbd.out (hrdR6.out.drewN _)).mono (fun e w'' (h : e = .returned (.int .i64 (sumOf (fun x => x) R)) ∧ w'' = w6.drewN (nq0 + N)) => show e = .returned (.int .i64 (sumOf (fun x => x) R)) ∧ ∃ n, w'' = w6.drewN (nq0 + n) from ⟨h.1, N, h.2⟩))
          obtain ⟨⟨bw0, bw1⟩, bs0, bs1⟩ := hgb.out
          clear hgb
          cases ok with
          | true =>
            have hq := hS.out rfl
            rw [hq] at ct
            have eu : (u == u) = true := by simp
            clear hq
            go_wp2
            go_quiet ((go_at_call 39; exact ct.out _))
            go_wp2
            go_ret
            exact ⟨rfl, below_drewN (below_drewN hend5.out _) _⟩
          | false =>
            rcases hS2.out rfl with hq | hq
            · rw [hq] at ct
              clear hq
              go_wp2
              go_quiet ((go_at_call 39; exact ct.out _))
              go_wp2
              go_ret
              exact ⟨rfl, below_drewN (below_drewN hend5.out _) _⟩
            · rw [hq] at ct
              clear hq
              by_cases hz : gsh = 0
              · subst hz
                rw [Int.sub_zero] at ct
                go_wp2
                go_quiet ((go_at_call 39; exact ct.out _))
                go_wp2
                go_ret
                exact ⟨rfl, below_drewN (below_drewN hend5.out _) _⟩
              · have en : (gw - gsh == gw) = false := by simp; omega
                go_wp2
                go_quiet ((go_at_call 39; exact ct.out _))
                go_wp2
                go_ret
                exact ⟨rfl, below_drewN (below_drewN hend5.out _) _⟩
end Go.Proofs.Ytoiacijjbehioaa
