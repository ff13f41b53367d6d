/- The walk through the law of levels of words. No condition. -/
import Derived.Test.YtgcbibabmfncmaaWFLev
import Derived.Test.YtgcbibabmfncmaaHypMath
import Derived.Test.YtgcbibabmfncmaaAppSub
namespace Go.Proofs.Ytgcbibabmfncmaa
open Go.RowKit
set_option linter.unusedVariables false
set_option linter.unusedSimpArgs false
set_option maxRecDepth 100000

theorem rd_take {w : World} {A : Option Addr} {n m : Nat} {L : List ByteArray} (h : Rd w 1 A n (cellsS L)) (hl : L.length = n) (hm : m ≤ n) : Rd w 1 A m (cellsS (L.take m)) := by
  refine ⟨?_, fun h0 => ?_⟩
  · have := len_cellsS (L.take m); rw [this, List.length_take]; omega
  · obtain ⟨b, off, e, hb, hx⟩ := h.2 (by omega)
    refine ⟨b, off, e, hb, fun j u hj => hx j u ?_⟩
    have e2 : cellsS (L.take m) = (cellsS L).take m := by simp [cellsS, List.map_take]
    rw [e2] at hj
    have hjm : j < m := by
      rcases Nat.lt_or_ge j m with h | h
      · exact h
      · rw [List.getElem?_eq_none (by simp; omega)] at hj; cases hj
    rwa [List.getElem?_take_of_lt hjm] at hj
theorem totalZero (A : Option Addr) (n c k : Nat) (w : World) (hn : n ≤ maxLen) (hk : k = n) (h : Rd w 1 A n (cellsN (List.replicate k 0))) :
    Calls Try.prog 79 #[.slice A n c] w fun e w' => e = .returned (.int .i64 0) ∧ w = w' := by
  unfold maxLen at hn
  have hl := hide (show (List.replicate k (0 : Int)).length = n by simp [hk])
  have hz := hide (show ∀ x ∈ List.replicate k (0 : Int), x = 0 from fun x hx => List.eq_of_mem_replicate hx)
  generalize List.replicate k (0 : Int) = R at *
  go_enter Try.func79, Try.ntmps79
  go_wp2
  go_loop [3, 4] (fun q i => ∃ k : Nat, k ≤ n ∧ i = .int .i64 k ∧ q = .int .i64 0) (fun _ i => n - (intOf i).toNat)
  case atStart => exact ⟨0, Nat.zero_le _, rfl, rfl⟩
  case round =>
    obtain ⟨k, hk, rfl, rfl⟩ := hrel
    by_cases hlt : k < n
    · obtain ⟨b, off, x, rfl, hbk, hx, d0⟩ := h.int hl.out hlt
      obtain rfl := hz.out x (List.mem_of_getElem? hx)
      clear hx
      go_wp2
      go_round
      case rel => exact ⟨k + 1, by omega, by go_num, rfl⟩
      case measure => simp [intOf]; omega
    · go_wp2
      go_ret
      exact ⟨rfl, rfl⟩
set_option maxHeartbeats 2000000 in
theorem walkFnWordLevels (A0 : Option Addr) (n0 c0 : Nat) (l0 : List Int) (w : World) (w0a : n0 ≤ c0) (w0b : c0 ≤ maxLen) (w0c : List.length l0 = n0) (w0d : Rd w 1 A0 n0 (cellsB l0)) (w0e : ∀ z ∈ l0, 0 ≤ z ∧ z ≤ 255) :
    Calls Try.prog 28 #[.slice A0 n0 c0] w fun e w' => e = .returned (.bool true) ∧ Below w.heap.size w w' := by
  by_cases hbig : 1048576 < n0
  · have hd : decide (1048576 < (n0 : Int)) = true := by simp; omega
    clear w0a w0b w0c w0d w0e hbig
    go_enter Try.func28, Try.ntmps28
    go_wp2
    go_ret
    exact ⟨rfl, Below.refl _ _⟩
  · have hd : decide (1048576 < (n0 : Int)) = false := by simp; omega
    have hdraw := hide (drawWL w A0 n0 c0 l0 w0c w0a (by omega) w0d w0e)
    clear w0a w0b w0c w0d w0e hbig
    go_enter Try.func28, Try.ntmps28
    go_wp2_with (fail)
    refine hdraw.out.mono ?_
    rintro e w1 ⟨s, L, v, n, rfl, hss, hn, hL, hLb, hown, hb1⟩
    obtain ⟨A1, c1, rfl, _, _⟩ := own_form hown
    have hb1' := hide hb1
    have hsz1 := hb1.size
    have own1 := hide hown
    have hL' := hide hL
    have hsm : s.size ≤ maxLen := by unfold maxLen; omega
    have hLz := hide (show ∀ x ∈ L, x.size ≤ maxLen from fun x hx => by have := hLb x hx; unfold maxLen; omega)
    have hnm : n ≤ maxLen := by unfold maxLen; omega
    clear hdraw hb1 hown hLb hL
    have ci := hide (fun W (M : List ByteArray) B m d (h1 : m ≤ maxLen) (h2 : List.length M = m) (h3 : ∀ s ∈ M, s.size ≤ maxLen) (h4 : Rd W 1 B m (cellsS M)) => implLevels s B m d M W hsm h1 h2 h3 h4)
    have cs := hide (fun W (h4 : Rd W 1 A1 n (cellsS L)) => specLevels s A1 n c1 L W hsm hnm hL'.out hLz.out h4)
    have hlen := hide (fun h1 h2 => levelsW_len (s := s) (l := L) h1 h2)
    have hno := hide (fun h => levelsW_no (s := s) (l := L) h)
    have h9 := hide (levelsW_9 s L)
    have hless := hide (fun h1 h2 => levels_less (s := s) (l := L) h1 h2)
    have hlen2 := hide (fun h1 (h2 : pats20 L = true) => levelsW_len (s := s) (l := L.take (L.length - 1)) h1 (pats20_dropLast h2))
    have hnone := hide (fun h1 => levels_none (s := s) h1)
    have cw := hide (fun W => specWord s W hsm)
    have cp := hide (fun W h4 => specPats A1 n c1 L W hnm hL'.out hLz.out h4)
    have h21 := levelsW_bd s L
    generalize hR : levelsW s L = R at *
    have hR' := hide hR
    have hRm : R.length ≤ maxLen := by unfold maxLen; omega
    clear hR
    go_wp2_with fail
    refine (ci.out w1 L A1 n c1 hnm hL'.out hLz.out (Rd.of_own own1.out)).mono ?_
    intro e w2 hp
    rw [hR'.out] at hp
    obtain ⟨v2, rfl, own2, hbX⟩ := hp
    obtain ⟨A2, c2, rfl, _, _⟩ := own_form own2
    have own2' := hide own2
    have own12 := hide (own_below own1.out hbX)
    have bel2 := hide (hb1'.out.trans (hbX.mono hsz1))
    have s2 := bel2.out.size
    clear hbX own2 own1
    go_wp2_with fail
    refine (cs.out w2 (Rd.of_own own12.out)).mono ?_
    intro e w3 hp
    obtain ⟨v3, rfl, own3, hbX⟩ := hp
    obtain ⟨A3, c3, rfl, _, _⟩ := own_form own3
    have own3' := hide own3
    have own13 := hide (own_below own12.out hbX)
    have own23 := hide (own_below own2'.out hbX)
    have bel3 := hide (bel2.out.trans (hbX.mono s2))
    have s3 := bel3.out.size
    clear hbX own3 own12 own2' cs
    go_wp2_with fail
    refine (sameInts_same _ _ R.length _ _ R _ hRm rfl (Rd.of_own own23.out) (Rd.of_own own3'.out)).mono ?_
    rintro e w4 ⟨rfl, hbX⟩
    have own14 := hide (own_below own13.out hbX)
    have own24 := hide (own_below own23.out hbX)
    have bel4 := hide (bel3.out.trans (hbX.mono s3))
    have s4 := bel4.out.size
    clear hbX own13 own23 own3'
    go_wp2_with fail
    refine (cw.out _).mono ?_
    rintro e w' ⟨rfl, rfl⟩
    cases hw : wordB s with
    | false =>
      obtain rfl : R = [] := hno.out (.inl hw)
      go_wp2_with fail
      refine (alive_any _).mono ?_
      rintro e w99 ⟨rfl, hb99⟩
      go_wp2
      go_ret
      exact ⟨rfl, bel4.out.trans (hb99.mono s4)⟩
    | true =>
      go_wp2_with fail
      refine (cp.out _ (Rd.of_own own14.out)).mono ?_
      rintro e w' ⟨rfl, rfl⟩
      cases hp : pats20 L with
      | false =>
        obtain rfl : R = [] := hno.out (.inr hp)
        go_wp2_with fail
        refine (alive_any _).mono ?_
        rintro e w99 ⟨rfl, hb99⟩
        go_wp2
        go_ret
        exact ⟨rfl, bel4.out.trans (hb99.mono s4)⟩
      | true =>
        obtain ⟨n2, hn2⟩ : ∃ n2, n2 = n - 1 := ⟨_, rfl⟩
        have htake := hide (show (L.take (L.length - 1)).length = n2 by rw [List.length_take, hL'.out]; omega)
        have hrt := hide (rd_take (Rd.of_own own14.out) hL'.out (show n2 ≤ n by omega))
        rw [show L.take n2 = L.take (L.length - 1) by rw [hL'.out, hn2]] at hrt
        have hRl := hide (hlen.out hw hp)
        have hRl2 := hide (hlen2.out hw hp)
        have hle := hide (hless.out hw hp)
        have hno2 := hide (hnone.out hw)
        have htz := hide (show ∀ x ∈ L.take (L.length - 1), x.size ≤ maxLen from fun x hx => hLz.out x (List.mem_of_mem_take hx))
        generalize L.take (L.length - 1) = L2 at *
        generalize hR2 : levelsW s L2 = R2 at *
        have hR2' := hide hR2
        have hmx : max (0 : Int) ((n : Int) - 1) = (n2 : Int) := by omega
        have hmx0 : (0 : Int) ≤ (n : Int) := by omega
        clear hR2 hw hp hlen hless hlen2 hnone hno cp cw hmx
        by_cases hn1 : 1 < n
        · obtain rfl : n2 = n - 1 := hn2
          have hq1 : (0 : Int) < (n : Int) - 1 := by omega
          go_wp2_with fail
          refine (ci.out w4 L2 A1 (n - 1) c1 (by unfold maxLen; omega) htake.out htz.out hrt.out).mono ?_
          intro e w5 hp
          rw [hR2'.out] at hp
          obtain ⟨v5, rfl, own5, hbX⟩ := hp
          obtain ⟨A5, c5, rfl, _, _⟩ := own_form own5
          have rx := hide (show Rd w5 1 A2 (s.size + 1) (cellsN R) from hRl.out ▸ Rd.of_own (own_below own24.out hbX))
          have rf := hide (show Rd w5 1 A5 (s.size + 1) (cellsN R2) from hRl2.out ▸ Rd.of_own own5)
          have bel5 := hide (bel4.out.trans (hbX.mono s4))
          have s5 := bel5.out.size
          rw [hRl.out, hRl2.out]
          clear hbX own5 own14 own24 hrt
          go_wp2
          go_loopw [7] (fun i wr => ∃ k : Nat, k ≤ s.size + 1 ∧ i = .int .i64 k ∧ Below w5.heap.size w5 wr) (fun i _ => s.size + 1 - (intOf i).toNat)
          case atStart => exact ⟨0, Nat.zero_le _, rfl, Below.refl _ _⟩
          case round =>
            obtain ⟨k, hk, rfl, hb⟩ := hrel
            have hb' := hide hb
            have hbs := hb.size
            by_cases hlt : k < s.size + 1
            · obtain ⟨b, off, x, rfl, hbk, hx, d0⟩ := (rx.out.below hb).int hRl.out hlt
              obtain ⟨b5, off5, f, rfl, hbk5, hf, d5⟩ := (rf.out.below hb).int hRl2.out hlt
              have hx9 := h9.out x (List.mem_of_getElem? hx)
              have hfx : f ≤ x := by have := hle.out k hlt; rw [gD hx, gD hf] at this; exact this
              have e1 : decide (((s.size + 1 : Nat) : Int) ≤ (k : Int)) = false := decide_eq_false (by omega)
              have e2 : decide (x < f) = false := decide_eq_false (by omega)
              have e3 : decide (9 < x) = false := decide_eq_false (by omega)
              have i1 : (k : Int) < ((s.size + 1 : Nat) : Int) := by omega
              have i0 : (0 : Int) ≤ (k : Int) := by omega
              have i2 : (k : Int).toNat = k := by omega
              clear hx hf hb
              go_wp2
              go_quiet (fail)
              have hb2 := hide (below_drewN hb'.out 1)
              go_wp2
              go_roundw
              case rel => exact ⟨k + 1, by omega, by go_num, by first | exact hb2.out | exact below_drewN hb'.out _⟩
              case measure => simp [intOf]; omega
            · have e1 : (((s.size + 1 : Nat) : Int) == (s.size : Int) + 1) = true := by simp
              obtain rfl : k = s.size + 1 := by omega
              have bel6 := hide (bel5.out.trans (hb.mono s5))
              have s6 := bel6.out.size
              go_wp2_with fail
              refine (ci.out wr [] none 0 0 (by unfold maxLen; omega) rfl (fun x hx => by cases hx) ⟨rfl, fun h => absurd h (by omega)⟩).mono ?_
              intro e w7 hp
              rw [hno2.out] at hp
              obtain ⟨v7, rfl, own7, hbX⟩ := hp
              rw [List.length_replicate] at own7
              obtain ⟨A7, c7, rfl, _, _⟩ := own_form own7
              have bel7 := hide (bel6.out.trans (hbX.mono s6))
              have own7' := hide own7
              clear hbX own7
              go_wp2_with fail
              refine (totalZero A7 (s.size + 1) c7 (s.size + 1) _ (by unfold maxLen; omega) rfl (Rd.of_own own7'.out)).mono ?_
              rintro e w' ⟨rfl, rfl⟩
              go_wp2
              go_ret
              exact ⟨rfl, bel7.out⟩
        · obtain rfl : n2 = 0 := by omega
          by_cases hn0 : n = 0
          · obtain rfl : n = 0 := hn0
            clear hn1 hn2
            go_wp2_with fail
            refine (ci.out w4 L2 A1 0 c1 (by unfold maxLen; omega) htake.out htz.out hrt.out).mono ?_
            intro e w5 hp
            rw [hR2'.out] at hp
            obtain ⟨v5, rfl, own5, hbX⟩ := hp
            obtain ⟨A5, c5, rfl, _, _⟩ := own_form own5
            have rx := hide (show Rd w5 1 A2 (s.size + 1) (cellsN R) from hRl.out ▸ Rd.of_own (own_below own24.out hbX))
            have rf := hide (show Rd w5 1 A5 (s.size + 1) (cellsN R2) from hRl2.out ▸ Rd.of_own own5)
            have bel5 := hide (bel4.out.trans (hbX.mono s4))
            have s5 := bel5.out.size
            rw [hRl.out, hRl2.out]
            clear hbX own5 own14 own24 hrt
            go_wp2
            go_loopw [7] (fun i wr => ∃ k : Nat, k ≤ s.size + 1 ∧ i = .int .i64 k ∧ Below w5.heap.size w5 wr) (fun i _ => s.size + 1 - (intOf i).toNat)
            case atStart => exact ⟨0, Nat.zero_le _, rfl, Below.refl _ _⟩
            case round =>
              obtain ⟨k, hk, rfl, hb⟩ := hrel
              have hb' := hide hb
              have hbs := hb.size
              by_cases hlt : k < s.size + 1
              · obtain ⟨b, off, x, rfl, hbk, hx, d0⟩ := (rx.out.below hb).int hRl.out hlt
                obtain ⟨b5, off5, f, rfl, hbk5, hf, d5⟩ := (rf.out.below hb).int hRl2.out hlt
                have hx9 := h9.out x (List.mem_of_getElem? hx)
                have hfx : f ≤ x := by have := hle.out k hlt; rw [gD hx, gD hf] at this; exact this
                have e1 : decide (((s.size + 1 : Nat) : Int) ≤ (k : Int)) = false := decide_eq_false (by omega)
                have e2 : decide (x < f) = false := decide_eq_false (by omega)
                have e3 : decide (9 < x) = false := decide_eq_false (by omega)
                have i1 : (k : Int) < ((s.size + 1 : Nat) : Int) := by omega
                have i0 : (0 : Int) ≤ (k : Int) := by omega
                have i2 : (k : Int).toNat = k := by omega
                clear hx hf hb
                go_wp2
                go_quiet (fail)
                have hb2 := hide (below_drewN hb'.out 1)
                go_wp2
                go_roundw
                case rel => exact ⟨k + 1, by omega, by go_num, by first | exact hb2.out | exact below_drewN hb'.out _⟩
                case measure => simp [intOf]; omega
              · have e1 : (((s.size + 1 : Nat) : Int) == (s.size : Int) + 1) = true := by simp
                obtain rfl : k = s.size + 1 := by omega
                have bel6 := hide (bel5.out.trans (hb.mono s5))
                have s6 := bel6.out.size
                go_wp2_with fail
                refine (ci.out wr [] none 0 0 (by unfold maxLen; omega) rfl (fun x hx => by cases hx) ⟨rfl, fun h => absurd h (by omega)⟩).mono ?_
                intro e w7 hp
                rw [hno2.out] at hp
                obtain ⟨v7, rfl, own7, hbX⟩ := hp
                rw [List.length_replicate] at own7
                obtain ⟨A7, c7, rfl, _, _⟩ := own_form own7
                have bel7 := hide (bel6.out.trans (hbX.mono s6))
                have own7' := hide own7
                clear hbX own7
                go_wp2_with fail
                refine (totalZero A7 (s.size + 1) c7 (s.size + 1) _ (by unfold maxLen; omega) rfl (Rd.of_own own7'.out)).mono ?_
                rintro e w' ⟨rfl, rfl⟩
                go_wp2
                go_ret
                exact ⟨rfl, bel7.out⟩
          · obtain rfl : n = 1 := by omega
            clear hn1 hn2 hn0
            go_wp2_with fail
            refine (ci.out w4 L2 A1 0 c1 (by unfold maxLen; omega) htake.out htz.out hrt.out).mono ?_
            intro e w5 hp
            rw [hR2'.out] at hp
            obtain ⟨v5, rfl, own5, hbX⟩ := hp
            obtain ⟨A5, c5, rfl, _, _⟩ := own_form own5
            have rx := hide (show Rd w5 1 A2 (s.size + 1) (cellsN R) from hRl.out ▸ Rd.of_own (own_below own24.out hbX))
            have rf := hide (show Rd w5 1 A5 (s.size + 1) (cellsN R2) from hRl2.out ▸ Rd.of_own own5)
            have bel5 := hide (bel4.out.trans (hbX.mono s4))
            have s5 := bel5.out.size
            rw [hRl.out, hRl2.out]
            clear hbX own5 own14 own24 hrt
            go_wp2
            go_loopw [7] (fun i wr => ∃ k : Nat, k ≤ s.size + 1 ∧ i = .int .i64 k ∧ Below w5.heap.size w5 wr) (fun i _ => s.size + 1 - (intOf i).toNat)
            case atStart => exact ⟨0, Nat.zero_le _, rfl, Below.refl _ _⟩
            case round =>
              obtain ⟨k, hk, rfl, hb⟩ := hrel
              have hb' := hide hb
              have hbs := hb.size
              by_cases hlt : k < s.size + 1
              · obtain ⟨b, off, x, rfl, hbk, hx, d0⟩ := (rx.out.below hb).int hRl.out hlt
                obtain ⟨b5, off5, f, rfl, hbk5, hf, d5⟩ := (rf.out.below hb).int hRl2.out hlt
                have hx9 := h9.out x (List.mem_of_getElem? hx)
                have hfx : f ≤ x := by have := hle.out k hlt; rw [gD hx, gD hf] at this; exact this
                have e1 : decide (((s.size + 1 : Nat) : Int) ≤ (k : Int)) = false := decide_eq_false (by omega)
                have e2 : decide (x < f) = false := decide_eq_false (by omega)
                have e3 : decide (9 < x) = false := decide_eq_false (by omega)
                have i1 : (k : Int) < ((s.size + 1 : Nat) : Int) := by omega
                have i0 : (0 : Int) ≤ (k : Int) := by omega
                have i2 : (k : Int).toNat = k := by omega
                clear hx hf hb
                go_wp2
                go_quiet (fail)
                have hb2 := hide (below_drewN hb'.out 1)
                go_wp2
                go_roundw
                case rel => exact ⟨k + 1, by omega, by go_num, by first | exact hb2.out | exact below_drewN hb'.out _⟩
                case measure => simp [intOf]; omega
              · have e1 : (((s.size + 1 : Nat) : Int) == (s.size : Int) + 1) = true := by simp
                obtain rfl : k = s.size + 1 := by omega
                have bel6 := hide (bel5.out.trans (hb.mono s5))
                have s6 := bel6.out.size
                go_wp2_with fail
                refine (ci.out wr [] none 0 0 (by unfold maxLen; omega) rfl (fun x hx => by cases hx) ⟨rfl, fun h => absurd h (by omega)⟩).mono ?_
                intro e w7 hp
                rw [hno2.out] at hp
                obtain ⟨v7, rfl, own7, hbX⟩ := hp
                rw [List.length_replicate] at own7
                obtain ⟨A7, c7, rfl, _, _⟩ := own_form own7
                have bel7 := hide (bel6.out.trans (hbX.mono s6))
                have own7' := hide own7
                clear hbX own7
                go_wp2_with fail
                refine (totalZero A7 (s.size + 1) c7 (s.size + 1) _ (by unfold maxLen; omega) rfl (Rd.of_own own7'.out)).mono ?_
                rintro e w' ⟨rfl, rfl⟩
                go_wp2
                go_ret
                exact ⟨rfl, bel7.out⟩
end Go.Proofs.Ytgcbibabmfncmaa
