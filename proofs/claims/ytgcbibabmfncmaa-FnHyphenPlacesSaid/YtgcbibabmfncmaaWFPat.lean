/- The walks through the laws of one pattern. No condition. -/
import Derived.Test.YtgcbibabmfncmaaArgs
import Derived.Test.YtgcbibabmfncmaaDrLet
import Derived.Test.YtgcbibabmfncmaaPat2
import Derived.Test.YtgcbibabmfncmaaPatLaw
namespace Go.Proofs.Ytgcbibabmfncmaa
open Go.RowKit
set_option linter.unusedVariables false
set_option linter.unusedSimpArgs false

set_option maxRecDepth 100000 in
set_option maxHeartbeats 2000000 in
theorem walkFnPatternValid (A0 : Option Addr) (n0 c0 : Nat) (l0 : List Int) (w : World) (w0a : n0 ≤ c0) (w0b : c0 ≤ maxLen) (w0c : List.length l0 = n0) (w0d : Rd w 1 A0 n0 (cellsB l0)) (w0e : ∀ z ∈ l0, 0 ≤ z ∧ z ≤ 255) :
    Calls Try.prog 23 #[.slice A0 n0 c0] w fun e w' => e = .returned (.bool true) ∧ Below w.heap.size w w' := by
  by_cases hbig : 1048576 < n0
  · have hd : decide (1048576 < (n0 : Int)) = true := by simp; omega
    clear w0a w0b w0c w0d w0e hbig
    go_enter Try.func23, Try.ntmps23
    go_wp2
    go_ret
    exact ⟨rfl, Below.refl _ _⟩
  · have hd : decide (1048576 < (n0 : Int)) = false := by simp; omega
    have hdraw := hide (drawPatV w A0 n0 c0 l0 w0c w0a (by omega) w0d w0e)
    clear w0a w0b w0c w0d w0e hbig
    go_enter Try.func23, Try.ntmps23
    go_wp2_with (fail)
    refine hdraw.out.mono ?_
    rintro e w1 ⟨p, rfl, hpp, hb1⟩
    have hb1' := hide hb1
    have hsz1 := hb1.size
    clear hdraw hb1
    have ci := hide (fun W => implPat p W (by unfold maxLen; omega))
    have cs := hide (fun W => specPat p W (by unfold maxLen; omega))
    have c1 := hide (fun W => implPat ⟨#[49]⟩ W (by unfold maxLen; show 1 ≤ _; omega))
    have c2 := hide (fun W => implPat ⟨#[97, 49, 50, 98]⟩ W (by unfold maxLen; show 4 ≤ _; omega))
    rw [pat_one] at c1
    rw [pat_a12b] at c2
    cases hv : patB p with
    | false =>
      rw [hv] at ci cs
      clear hv
      go_wp2_with fail
      refine (ci.out _).mono ?_
      rintro e w' ⟨rfl, rfl⟩
      go_wp2_with fail
      refine (cs.out _).mono ?_
      rintro e w' ⟨rfl, rfl⟩
      go_wp2_with fail
      refine (c1.out _).mono ?_
      rintro e w' ⟨rfl, rfl⟩
      go_wp2_with fail
      refine (c2.out _).mono ?_
      rintro e w' ⟨rfl, rfl⟩
      go_wp2_with fail
      refine (alive_any _).mono ?_
      rintro e w99 ⟨rfl, hb99⟩
      go_wp2
      go_ret
      exact ⟨rfl, hb1'.out.trans (hb99.mono hsz1)⟩
    | true =>
      have hp12 := (patB_true hv).2.2
      have hp1 : 0 < p.size := by have h1 := (patB_true hv).2.1; have h2 := smN_bd (bl p) p.size; omega
      have c3 := hide (fun W => implPat ((⟨#[97]⟩ : ByteArray) ++ p) W (by rw [ByteArray.size_append]; unfold maxLen; show 1 + p.size ≤ _; omega))
      have hz1 : (⟨#[97]⟩ : ByteArray).size + p.size ≤ 9223372036854775807 := by show 1 + p.size ≤ _; omega
      have hi0 : (0 : Int) < (p.size : Int) := by omega
      have hgd := hide (bl_getD p 0 hp1)
      have hpa := hide (fun h => pat_a (p := p) hv h)
      rw [hv] at ci cs
      clear hv
      go_wp2_with fail
      refine (ci.out _).mono ?_
      rintro e w' ⟨rfl, rfl⟩
      go_wp2_with fail
      refine (cs.out _).mono ?_
      rintro e w' ⟨rfl, rfl⟩
      go_wp2_with fail
      refine (c1.out _).mono ?_
      rintro e w' ⟨rfl, rfl⟩
      go_wp2_with fail
      refine (c2.out _).mono ?_
      rintro e w' ⟨rfl, rfl⟩
      go_wp2_with fail
      refine (c3.out _).mono ?_
      rintro e w' ⟨rfl, rfl⟩
      by_cases h11 : p.size ≤ 11
      · by_cases h46 : ((p[0].toNat : Nat) : Int) = 46
        · have d1 : ((p.size : Int) == 12) = false := by simp; omega
          have d2 : (((p[0].toNat : Nat) : Int) == 46) = true := by simpa using h46
          cases patB ((⟨#[97]⟩ : ByteArray) ++ p) with
          | false =>
            go_wp2_with fail
            refine (alive_any _).mono ?_
            rintro e w99 ⟨rfl, hb99⟩
            go_wp2
            go_ret
            exact ⟨rfl, hb1'.out.trans (hb99.mono hsz1)⟩
          | true =>
            go_wp2_with fail
            refine (alive_any _).mono ?_
            rintro e w99 ⟨rfl, hb99⟩
            go_wp2
            go_ret
            exact ⟨rfl, hb1'.out.trans (hb99.mono hsz1)⟩
        · have hok := hpa.out h11 (by rw [hgd.out]; exact h46)
          rw [hok]
          go_wp2_with fail
          refine (alive_any _).mono ?_
          rintro e w99 ⟨rfl, hb99⟩
          go_wp2
          go_ret
          exact ⟨rfl, hb1'.out.trans (hb99.mono hsz1)⟩
      · have d1 : ((p.size : Int) == 12) = true := by simp; omega
        cases patB ((⟨#[97]⟩ : ByteArray) ++ p) with
        | false =>
          go_wp2_with fail
          refine (alive_any _).mono ?_
          rintro e w99 ⟨rfl, hb99⟩
          go_wp2
          go_ret
          exact ⟨rfl, hb1'.out.trans (hb99.mono hsz1)⟩
        | true =>
          go_wp2_with fail
          refine (alive_any _).mono ?_
          rintro e w99 ⟨rfl, hb99⟩
          go_wp2
          go_ret
          exact ⟨rfl, hb1'.out.trans (hb99.mono hsz1)⟩
set_option maxRecDepth 100000 in
set_option maxHeartbeats 2000000 in
theorem walkFnPatternLetters (A0 : Option Addr) (n0 c0 : Nat) (l0 : List Int) (w : World) (w0a : n0 ≤ c0) (w0b : c0 ≤ maxLen) (w0c : List.length l0 = n0) (w0d : Rd w 1 A0 n0 (cellsB l0)) (w0e : ∀ z ∈ l0, 0 ≤ z ∧ z ≤ 255) :
    Calls Try.prog 24 #[.slice A0 n0 c0] w fun e w' => e = .returned (.bool true) ∧ Below w.heap.size w w' := by
  by_cases hbig : 1048576 < n0
  · have hd : decide (1048576 < (n0 : Int)) = true := by simp; omega
    clear w0a w0b w0c w0d w0e hbig
    go_enter Try.func24, Try.ntmps24
    go_wp2
    go_ret
    exact ⟨rfl, Below.refl _ _⟩
  · have hd : decide (1048576 < (n0 : Int)) = false := by simp; omega
    have hdraw := hide (drawPatL w A0 n0 c0 l0 w0c w0a (by omega) w0d w0e)
    clear w0a w0b w0c w0d w0e hbig
    go_enter Try.func24, Try.ntmps24
    go_wp2_with (fail)
    refine hdraw.out.mono ?_
    rintro e w1 ⟨p, rfl, hpp, hb1⟩
    have hb1' := hide hb1
    have hsz1 := hb1.size
    clear hdraw hb1
    have hpm : p.size ≤ maxLen := by unfold maxLen; omega
    have ci := hide (implPatLetters p w1 hpm)
    have cs := hide (fun W => specPatLetters p W hpm)
    have cv := hide (fun W => specPat p W hpm)
    clear hpm
    go_wp2_with fail
    refine (ci.out).mono ?_
    rintro e w2 ⟨rfl, hbX⟩
    have bel2 := hide (hb1'.out.trans (hbX.mono hsz1))
    have s2 := bel2.out.size
    clear hbX
    go_wp2_with fail
    refine (cs.out _).mono ?_
    rintro e w' ⟨rfl, rfl⟩
    go_wp2_with fail
    refine (cv.out _).mono ?_
    rintro e w' ⟨rfl, rfl⟩
    cases hv : patB p with
    | false =>
      rw [patS_no hv]
      clear hv
      go_wp2_with fail
      refine (alive_any _).mono ?_
      rintro e w99 ⟨rfl, hb99⟩
      go_wp2
      go_ret
      exact ⟨rfl, bel2.out.trans (hb99.mono s2)⟩
    | true =>
      have hsz := letters_size hv
      have hnd := hide (letters_nodg hv)
      have htw := letters_twice hv
      generalize patS p = s at *
      obtain ⟨hz1, hz2, hz3⟩ := hsz
      have c2 := hide (fun W => implPatLetters s W (by unfold maxLen; omega))
      rw [htw] at c2
      clear htw hv
      go_wp2
      go_loop [5] (fun i => ∃ k : Nat, k ≤ s.size ∧ i = .int .i64 k) (fun i => s.size - (intOf i).toNat)
      case atStart => exact ⟨0, Nat.zero_le _, rfl⟩
      case round =>
        obtain ⟨k, hk, rfl⟩ := hrel
        by_cases hlt : k < s.size
        · have hd2 := isDg_nb (hnd.out _ (List.mem_of_getElem? (bl_at s k hlt)))
          by_cases h48 : ((s[k].toNat : Nat) : Int) < 48
          · have d1 : decide (48 ≤ ((s[k].toNat : Nat) : Int)) = false := decide_eq_false (by omega)
            clear h48 hd2
            go_wp2
            go_round
            case rel => exact ⟨k + 1, by omega, by go_num⟩
            case measure => simp [intOf]; omega
          · have d1 : 48 ≤ ((s[k].toNat : Nat) : Int) := by omega
            have d2 : decide (((s[k].toNat : Nat) : Int) ≤ 57) = false := decide_eq_false (by omega)
            clear h48 hd2
            go_wp2
            go_round
            case rel => exact ⟨k + 1, by omega, by go_num⟩
            case measure => simp [intOf]; omega
        · have g1 : (1 : Int) ≤ (s.size : Int) := by omega
          have g2 : (s.size : Int) ≤ (p.size : Int) := by omega
          go_wp2_with fail
          refine (c2.out _).mono ?_
          rintro e w3 ⟨rfl, hb3⟩
          have bel3 := hide (bel2.out.trans (hb3.mono s2))
          clear hb3
          go_wp2
          go_ret
          exact ⟨rfl, bel3.out⟩
theorem sameInts_same (A B : Option Addr) (n c d : Nat) (l : List Int) (w : World) (hn : n ≤ maxLen) (hl : l.length = n) (ha : Rd w 1 A n (cellsN l)) (hb : Rd w 1 B n (cellsN l)) :
    Calls Try.prog 76 #[.slice A n c, .slice B n d] w fun e w' => e = .returned (.bool true) ∧ Below w.heap.size w w' := by
  unfold maxLen at hn
  have hl' := hide hl
  clear hl
  go_enter Try.func76, Try.ntmps76
  go_wp2
  go_loopw [5] (fun i wr => ∃ k : Nat, k ≤ n ∧ i = .int .i64 k ∧ Below w.heap.size w wr) (fun i _ => n - (intOf i).toNat)
  case atStart => exact ⟨0, Nat.zero_le _, rfl, Below.refl _ _⟩
  case round =>
    obtain ⟨k, hk, rfl, hw⟩ := hrel
    by_cases hlt : k < n
    · obtain ⟨b, off, x, rfl, hbs, hx, c0⟩ := (ha.below hw).int hl'.out hlt
      obtain ⟨b2, off2, x2, rfl, hbs2, hx2, c1⟩ := (hb.below hw).int hl'.out hlt
      rw [hx] at hx2
      obtain rfl := Option.some.inj hx2
      have hw' := hide hw
      have hlt' : (k : Int) < (n : Int) := by omega
      clear hx hw hx2
      go_wp2
      go_quiet (fail)
      go_wp2
      go_roundw
      case rel => exact ⟨k + 1, by omega, by go_num, below_drewN hw'.out _⟩
      case measure => simp [intOf]; omega
    · go_wp2
      go_ret
      exact ⟨rfl, hw⟩
set_option maxRecDepth 100000 in
set_option maxHeartbeats 2000000 in
theorem walkFnPatternLevels (A0 : Option Addr) (n0 c0 : Nat) (l0 : List Int) (w : World) (w0a : n0 ≤ c0) (w0b : c0 ≤ maxLen) (w0c : List.length l0 = n0) (w0d : Rd w 1 A0 n0 (cellsB l0)) (w0e : ∀ z ∈ l0, 0 ≤ z ∧ z ≤ 255) :
    Calls Try.prog 25 #[.slice A0 n0 c0] w fun e w' => e = .returned (.bool true) ∧ Below w.heap.size w w' := by
  by_cases hbig : 1048576 < n0
  · have hd : decide (1048576 < (n0 : Int)) = true := by simp; omega
    clear w0a w0b w0c w0d w0e hbig
    go_enter Try.func25, Try.ntmps25
    go_wp2
    go_ret
    exact ⟨rfl, Below.refl _ _⟩
  · have hd : decide (1048576 < (n0 : Int)) = false := by simp; omega
    have hdraw := hide (drawPatLv w A0 n0 c0 l0 w0c w0a (by omega) w0d w0e)
    clear w0a w0b w0c w0d w0e hbig
    go_enter Try.func25, Try.ntmps25
    go_wp2_with (fail)
    refine hdraw.out.mono ?_
    rintro e w1 ⟨p, rfl, hpp, hb1⟩
    have hb1' := hide hb1
    have hsz1 := hb1.size
    clear hdraw hb1
    have hpm : p.size ≤ maxLen := by unfold maxLen; omega
    have ci := hide (implPatLevels p w1 hpm)
    have cs := hide (fun W => specPatLevels p W hpm)
    have cv := hide (fun W => specPat p W hpm)
    have cl := hide (fun W => implPatLetters p W hpm)
    have h13 := patLv_bd p
    have h9 := hide (patLv_9 p)
    have hno := hide (fun h => patLv_no (p := p) h)
    have hlen := hide (fun h => levels_letters (p := p) h)
    generalize patLv p = L at *
    obtain ⟨m, hm⟩ : ∃ m, L.length = m := ⟨_, rfl⟩
    have hm' := hide hm
    rw [hm] at h13
    clear hm hpm
    go_wp2_with fail
    refine ci.out.mono ?_
    rintro e w2 ⟨v, rfl, own2, hbX⟩
    obtain ⟨A2, c2, rfl, _, _⟩ := own_form own2
    have own2' := hide own2
    have bel2 := hide (hb1'.out.trans (hbX.mono hsz1))
    have s2 := bel2.out.size
    clear hbX own2 ci
    go_wp2_with fail
    refine (cs.out _).mono ?_
    rintro e w3 ⟨v3, rfl, own3, hbX⟩
    obtain ⟨A3, c3, rfl, _, _⟩ := own_form own3
    have own2b := hide (own_below own2'.out hbX)
    have own3' := hide own3
    have bel3 := hide (bel2.out.trans (hbX.mono s2))
    have s3 := bel3.out.size
    clear hbX own3 own2' cs
    go_wp2_with fail
    refine (sameInts_same _ _ L.length _ _ L _ (by have := hm'.out; unfold maxLen; omega) rfl (Rd.of_own own2b.out) (Rd.of_own own3'.out)).mono ?_
    rintro e w4 ⟨rfl, hbX⟩
    have hrd := hide (Rd.of_own (own_below own2b.out hbX))
    have bel4 := hide (bel3.out.trans (hbX.mono s3))
    have s4 := bel4.out.size
    clear hbX own2b own3'
    go_wp2_with fail
    refine (cv.out _).mono ?_
    rintro e w' ⟨rfl, rfl⟩
    cases hv : patB p with
    | false =>
      obtain rfl : L = [] := hno.out hv
      clear hv
      go_wp2_with fail
      refine (alive_any _).mono ?_
      rintro e w99 ⟨rfl, hb99⟩
      go_wp2
      go_ret
      exact ⟨rfl, bel4.out.trans (hb99.mono s4)⟩
    | true =>
      have hll := hide (hlen.out hv)
      clear hv
      rw [hm'.out] at hrd ⊢
      go_wp2
      go_loop [5] (fun i => ∃ k : Nat, k ≤ m ∧ i = .int .i64 k) (fun i => m - (intOf i).toNat)
      case atStart => exact ⟨0, Nat.zero_le _, rfl⟩
      case round =>
        obtain ⟨k, hk, rfl⟩ := hrel
        by_cases hlt : k < m
        · obtain ⟨b, off, x, rfl, hbk, hx, d0⟩ := hrd.out.int hm'.out hlt
          have hx9 := h9.out x (List.mem_of_getElem? hx)
          have e1 : decide (x < 0) = false := decide_eq_false (by omega)
          have e2 : decide (9 < x) = false := decide_eq_false (by omega)
          clear hx
          go_wp2
          go_round
          case rel => exact ⟨k + 1, by omega, by go_num⟩
          case measure => simp [intOf]; omega
        · go_wp2_with fail
          refine (cl.out _).mono ?_
          rintro e w5 ⟨rfl, hbX⟩
          have bel5 := hide (bel4.out.trans (hbX.mono s4))
          have hps := patS_bd p
          have e1 : ((m : Int) == ((patS p).size : Int) + 1) = true := by have := hll.out; have := hm'.out; simp; omega
          clear hbX
          go_wp2
          go_ret
          exact ⟨rfl, bel5.out⟩
end Go.Proofs.Ytgcbibabmfncmaa
