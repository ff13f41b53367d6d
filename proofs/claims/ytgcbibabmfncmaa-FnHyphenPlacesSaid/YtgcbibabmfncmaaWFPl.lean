/- The walk through the law of places. No condition. -/
import Derived.Test.YtgcbibabmfncmaaArgs
import Derived.Test.YtgcbibabmfncmaaDrLev
import Derived.Test.YtgcbibabmfncmaaPlaces
import Derived.Test.YtgcbibabmfncmaaWFPat
import Derived.BigQuiet
namespace Go.Proofs.Ytgcbibabmfncmaa
open Go.RowKit
set_option linter.unusedVariables false
set_option linter.unusedSimpArgs false
set_option maxRecDepth 100000

theorem place_fact {s : ByteArray} {l : List ByteArray} {k : Nat} {x : Int} (hx : (toI (placesN s l))[k]? = some x) :
    ∃ p : Nat, x = (p : Int) ∧ 2 ≤ p ∧ p + 3 < (levelsW s l).length ∧ (levelsW s l).getD p 0 % 2 = 1 ∧ (levelsW s l).length = s.size + 1 ∧ ∀ j y, j < k → (toI (placesN s l))[j]? = some y → y < (p : Int) := by
  unfold toI at hx
  rw [List.getElem?_map, Option.map_eq_some_iff] at hx
  obtain ⟨p, hp, rfl⟩ := hx
  have hb := hyB_true (hpTo_mem p (List.mem_of_getElem? hp)).2
  refine ⟨p, rfl, hb.1, hb.2.1, hb.2.2, ?_, ?_⟩
  · cases h1 : wordB s with
    | false => rw [levelsW_no (.inl h1)] at hb; simp at hb
    | true =>
      cases h2 : pats20 l with
      | false => rw [levelsW_no (.inr h2)] at hb; simp at hb
      | true => exact levelsW_len h1 h2
  · intro j y hj hy
    unfold toI at hy
    rw [List.getElem?_map, Option.map_eq_some_iff] at hy
    obtain ⟨q, hq, rfl⟩ := hy
    obtain ⟨h1, e1⟩ := List.getElem?_eq_some_iff.1 hp
    obtain ⟨h2, e2⟩ := List.getElem?_eq_some_iff.1 hq
    have := (List.pairwise_iff_getElem.1 (hpTo_asc (lev := levelsW s l) (k := (levelsW s l).length))) j k h2 h1 hj
    have e3 : q < p := by rw [← e1, ← e2]; exact this
    omega
theorem places_short (s : ByteArray) (l : List ByteArray) : (toI (placesN s l)).length ≤ s.size := by
  cases hl : (toI (placesN s l)).length with
  | zero => omega
  | succ n =>
    -- the last place lies at n or later
    have hasc : ∀ (k : Nat) (x : Int), (toI (placesN s l))[k]? = some x → (k : Int) ≤ x := by
      intro k
      induction k with
      | zero => intro x hx; obtain ⟨p, rfl, _⟩ := place_fact hx; omega
      | succ k ih =>
        intro x hx
        obtain ⟨p, rfl, _, _, _, _, h⟩ := place_fact hx
        have hk : k < (toI (placesN s l)).length := by
          have := (List.getElem?_eq_some_iff.1 hx).1
          omega
        have h1 := ih _ (List.getElem?_eq_getElem hk)
        have h2 := h k _ (by omega) (List.getElem?_eq_getElem hk)
        omega
    have hx := List.getElem?_eq_getElem (show n < (toI (placesN s l)).length by omega)
    have h1 := hasc n _ hx
    obtain ⟨p, e, h2, h3, _, h4, _⟩ := place_fact hx
    rw [e] at h1
    omega
set_option maxHeartbeats 2000000 in
theorem walkFnHyphenPlaces (A0 : Option Addr) (n0 c0 : Nat) (l0 : List Int) (w : World) (w0a : n0 ≤ c0) (w0b : c0 ≤ maxLen) (w0c : List.length l0 = n0) (w0d : Rd w 1 A0 n0 (cellsB l0)) (w0e : ∀ z ∈ l0, 0 ≤ z ∧ z ≤ 255) :
    Calls Try.prog 29 #[.slice A0 n0 c0] w fun e w' => e = .returned (.bool true) ∧ Below w.heap.size w w' := by
  by_cases hbig : 1048576 < n0
  · have hd : decide (1048576 < (n0 : Int)) = true := by simp; omega
    clear w0a w0b w0c w0d w0e hbig
    go_enter Try.func29, Try.ntmps29
    go_wp2
    go_ret
    exact ⟨rfl, Below.refl _ _⟩
  · have hd : decide (1048576 < (n0 : Int)) = false := by simp; omega
    have hdraw := hide (drawHP w A0 n0 c0 l0 w0c w0a (by omega) w0d w0e)
    clear w0a w0b w0c w0d w0e hbig
    go_enter Try.func29, Try.ntmps29
    go_wp2_with (fail)
    refine hdraw.out.mono ?_
    rintro e w1 ⟨s, L, v, n, rfl, hss, hn, hL, hLb, hown, hb1⟩
    obtain ⟨A1, c1, rfl, _, _⟩ := own_form hown
    have hb1' := hide hb1
    have hsz1 := hb1.size
    have own1 := hide hown
    have hL' := hide hL
    have hsm : s.size ≤ maxLen := by unfold maxLen; omega
    have hLz := hide (show ∀ x ∈ L, x.size ≤ maxLen from fun x hx => by have := hLb x hx; unfold maxLen; omega)
    have hnm : n ≤ maxLen := by unfold maxLen; omega
    clear hdraw hb1 hown hLb hL
    have ci := hide (fun W (M : List ByteArray) B m d (h1 : m ≤ maxLen) (h2 : List.length M = m) (h3 : ∀ s ∈ M, s.size ≤ maxLen) (h4 : Rd W 1 B m (cellsS M)) => implPlaces s B m d M W hsm h1 h2 h3 h4)
    have cs := hide (fun W (h4 : Rd W 1 A1 n (cellsS L)) => specPlaces s A1 n c1 L W hsm hnm hL'.out hLz.out h4)
    have hpf := hide (fun (k : Nat) (x : Int) (hx : (toI (placesN s L))[k]? = some x) => place_fact hx)
    have hps := hide (places_short s L)
    have h21 := placesI_bd s L
    have hlv := hide (fun W h4 => implLevels s A1 n c1 L W hsm hnm hL'.out hLz.out h4)
    have hlv21 := levelsW_bd s L
    have hlv9 := hide (levelsW_9 s L)
    generalize levelsW s L = V at *
    generalize hR : toI (placesN s L) = R at *
    have hR' := hide hR
    have hRm : R.length ≤ maxLen := by unfold maxLen; omega
    clear hR
    go_wp2_with fail
    refine (ci.out w1 L A1 n c1 hnm hL'.out hLz.out (Rd.of_own own1.out)).mono ?_
    intro e w2 hp
    rw [hR'.out] at hp
    obtain ⟨v2, rfl, own2, hbX⟩ := hp
    obtain ⟨A2, c2, rfl, _, _⟩ := own_form own2
    have own2' := hide own2
    have own12 := hide (own_below own1.out hbX)
    have bel2 := hide (hb1'.out.trans (hbX.mono hsz1))
    have s2 := bel2.out.size
    clear hbX own2 own1
    go_wp2_with fail
    refine (cs.out w2 (Rd.of_own own12.out)).mono ?_
    intro e w3 hp
    obtain ⟨v3, rfl, own3, hbX⟩ := hp
    obtain ⟨A3, c3, rfl, _, _⟩ := own_form own3
    have own3' := hide own3
    have own13 := hide (own_below own12.out hbX)
    have own23 := hide (own_below own2'.out hbX)
    have bel3 := hide (bel2.out.trans (hbX.mono s2))
    have s3 := bel3.out.size
    clear hbX own3 own12 own2' cs
    go_wp2_with fail
    refine (sameInts_same _ _ R.length _ _ R _ hRm rfl (Rd.of_own own23.out) (Rd.of_own own3'.out)).mono ?_
    rintro e w4 ⟨rfl, hbX⟩
    have own14 := hide (own_below own13.out hbX)
    have own24 := hide (own_below own23.out hbX)
    have bel4 := hide (bel3.out.trans (hbX.mono s3))
    have s4 := bel4.out.size
    clear hbX own13 own23 own3'
    go_wp2_with fail
    refine (hlv.out _ (Rd.of_own own14.out)).mono ?_
    rintro e w5 ⟨v5, rfl, own5, hbX⟩
    obtain ⟨A5, c5, rfl, _, _⟩ := own_form own5
    have rv := hide (Rd.of_own own5)
    have rx := hide (Rd.of_own (own_below own24.out hbX))
    have bel5 := hide (bel4.out.trans (hbX.mono s4))
    have s5 := bel5.out.size
    clear hbX own5 own14 own24 hlv
    obtain ⟨m, hm⟩ : ∃ m, R.length = m := ⟨_, rfl⟩
    obtain ⟨q, hq⟩ : ∃ q, V.length = q := ⟨_, rfl⟩
    have hm' := hide hm
    have hq' := hide hq
    rw [hm] at h21 rx hps
    rw [hq] at rv hlv21
    rw [hm, hq]
    clear hm hq
    go_wp2
    go_loopw [7] (fun i wr => ∃ k : Nat, k ≤ m ∧ i = .int .i64 k ∧ Below w5.heap.size w5 wr) (fun i _ => m - (intOf i).toNat)
    case atStart => exact ⟨0, Nat.zero_le _, rfl, Below.refl _ _⟩
    case round =>
      obtain ⟨k, hk, rfl, hb⟩ := hrel
      have hb' := hide hb
      have hbs := hb.size
      by_cases hlt : k < m
      · obtain ⟨b, off, x, rfl, hbk, hx, d0⟩ := (rx.out.below hb).int hm'.out hlt
        obtain ⟨p, hpx, hp2, hp3, hpo, hps1, hpl⟩ := hpf.out k x hx
        rw [hq'.out] at hp3 hps1
        obtain ⟨b5, off5, y, rfl, hbk5, hy, d5⟩ := (rv.out.below hb).int hq'.out (show p < q by omega)
        have hy9 := hlv9.out y (List.mem_of_getElem? hy)
        rw [gD hy] at hpo
        have f1 : decide (x < 2) = false := decide_eq_false (by omega)
        have f2 : decide ((s.size : Int) - 3 < x) = false := decide_eq_false (by omega)
        have f3 : decide ((q : Int) ≤ x) = false := decide_eq_false (by omega)
        have y0 : (0 : Int) ≤ y := hy9.1
        have f7 : y.tmod 2 = 1 := by rw [Int.tmod_eq_emod_of_nonneg y0]; exact hpo
        have i1 : (0 : Int) ≤ x := by omega
        have i5 : x.toNat = p := by omega
        have i2 : x < (q : Int) := by omega
        have i3 : (0 : Int) ≤ (k : Int) := by omega
        have i4 : (k : Int) < (m : Int) := by omega
        by_cases hk0 : 0 < k
        · obtain ⟨b3, off3, x3, hA3, hbk3, hx3, d3⟩ := (rx.out.below hb).int hm'.out (show k - 1 < m by omega)
          injection hA3 with hA3
          injection hA3 with hA3 hA4
          subst hA3
          subst hA4
          have hless := hpl (k - 1) x3 (by omega) hx3
          have f6 : decide (x ≤ x3) = false := decide_eq_false (by omega)
          have g1 : (0 : Int) ≤ (k : Int) - 1 := by omega
          have g2 : (k : Int) - 1 < (m : Int) := by omega
          have g3 : ((k : Int) - 1).toNat = k - 1 := by omega
          have f5 : decide ((0 : Int) < (k : Int)) = true := decide_eq_true (by omega)
          have f8 : decide (0 < k) = true := decide_eq_true (by omega)
          have f9 : (0 : Nat) < k := by omega
          clear hx3 hless
          clear hx hy hpl hb hk0 hpx hps1
          go_wp2
          have w0 : IntKind.i64.wrap ((k : Int) - 1) = (k : Int) - 1 := IntWalk.i64_in _ (by omega)
          have w1 : IntKind.i64.wrap ((s.size : Int) - 3) = (s.size : Int) - 3 := IntWalk.i64_in _ (by omega)
          go_quiet (fail)
          clear w0 w1
          go_wp2
          go_roundw
          case rel => exact ⟨k + 1, by omega, by go_num, below_drewN hb'.out _⟩
          case measure => simp [intOf]; omega
        · have f5 : decide ((0 : Int) < (k : Int)) = false := decide_eq_false (by omega)
          have f8 : decide (0 < k) = false := decide_eq_false (by omega)
          clear hx hy hpl hb hk0 hpx hps1
          go_wp2
          have w1 : IntKind.i64.wrap ((s.size : Int) - 3) = (s.size : Int) - 3 := IntWalk.i64_in _ (by omega)
          go_quiet (fail)
          clear w1
          go_wp2
          go_roundw
          case rel => exact ⟨k + 1, by omega, by go_num, below_drewN hb'.out _⟩
          case measure => simp [intOf]; omega
      · have e1 : decide ((m : Int) ≤ (s.size : Int)) = true := decide_eq_true (by have := hps.out; omega)
        have bel6 := hide (bel5.out.trans (hb.mono s5))
        have s6 := bel6.out.size
        go_wp2_with fail
        refine (alive_any _).mono ?_
        rintro e w99 ⟨rfl, hb99⟩
        go_wp2
        go_ret
        exact ⟨rfl, bel6.out.trans (hb99.mono s6)⟩
end Go.Proofs.Ytgcbibabmfncmaa
