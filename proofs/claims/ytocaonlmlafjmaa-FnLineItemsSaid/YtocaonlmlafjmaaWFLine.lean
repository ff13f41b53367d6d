/- The walks through the laws of lines. No condition. -/
import Derived.Test.YtocaonlmlafjmaaKCore
import Derived.Test.YtocaonlmlafjmaaKDrEn
import Derived.Test.YtocaonlmlafjmaaLImp
import Derived.Test.YtocaonlmlafjmaaKSpec
namespace Go.Proofs.Ytocaonlmlafjmaa
open Go.RowKit
set_option linter.unusedVariables false
set_option linter.unusedSimpArgs false
set_option maxRecDepth 100000

theorem gAt_bd {L : List I} (h : items60 L = true) {j : Nat} (hj : j < L.length) : 0 ≤ (gAt L j).w ∧ (gAt L j).w ≤ 1000 := by
  have hx : L[j]? = some L[j] := List.getElem?_eq_getElem hj
  rw [gAt_of hx]
  exact (glueOk_true (itemOk_bd ((items60_true h).1 _ (List.getElem_mem hj))).1).1
theorem sameIntsL (A B : Option Addr) (n c d : Nat) (l : List Int) (w : World) (hn : n ≤ maxLen) (hl : l.length = n) (ha : Rd w 1 A n (cellsN l)) (hb : Rd w 1 B n (cellsN l)) :
    Calls Try.prog 59 #[.slice A n c, .slice B n d] w fun e w' => e = .returned (.bool true) ∧ Below w.heap.size w w' := by
  unfold maxLen at hn
  have hl' := hide hl
  clear hl
  go_enter Try.func59, Try.ntmps59
  go_wp2
  go_loopw [5] (fun i wr => ∃ k : Nat, k ≤ n ∧ i = .int .i64 k ∧ Below w.heap.size w wr) (fun i _ => n - (intOf i).toNat)
  case atStart => exact ⟨0, Nat.zero_le _, rfl, Below.refl _ _⟩
  case round =>
    obtain ⟨k, hk, rfl, hw⟩ := hrel
    by_cases hlt : k < n
    · obtain ⟨b, off, x, rfl, hbs, hx, c0⟩ := (ha.below hw).int hl'.out hlt
      obtain ⟨b2, off2, x2, rfl, hbs2, hx2, c1⟩ := (hb.below hw).int hl'.out hlt
      rw [hx] at hx2
      obtain rfl := Option.some.inj hx2
      have hw' := hide hw
      have hlt' : (k : Int) < (n : Int) := by omega
      clear hx hw hx2
      go_wp2
      go_quiet (fail)
      go_wp2
      go_roundw
      case rel => exact ⟨k + 1, by omega, by go_num, below_drewN hw'.out _⟩
      case measure => simp [intOf]; omega
    · go_wp2
      go_ret
      exact ⟨rfl, hw⟩
set_option maxHeartbeats 4000000 in
theorem walkFnLineGlue (A0 : Option Addr) (n0 c0 : Nat) (l0 : List Int) (w : World) (w0a : n0 ≤ c0) (w0b : c0 ≤ maxLen) (w0c : List.length l0 = n0) (w0d : Rd w 1 A0 n0 (cellsB l0)) (w0e : ∀ z ∈ l0, 0 ≤ z ∧ z ≤ 255) :
    Calls Try.prog 18 #[.slice A0 n0 c0] w fun e w' => e = .returned (.bool true) ∧ Below w.heap.size w w' := by
  by_cases hbig : 1048576 < n0
  · have hd : decide (1048576 < (n0 : Int)) = true := by simp; omega
    clear w0a w0b w0c w0d w0e hbig
    go_enter Try.func18, Try.ntmps18
    go_wp2
    go_ret
    exact ⟨rfl, Below.refl _ _⟩
  · have hd : decide (1048576 < (n0 : Int)) = false := by simp; omega
    have hdraw := hide (drawLG w A0 n0 c0 l0 w0c w0a (by omega) w0d w0e)
    clear w0a w0b w0c w0d w0e hbig
    go_enter Try.func18, Try.ntmps18
    go_wp2_with (fail)
    refine hdraw.out.mono ?_
    rintro e w1 ⟨L, v, n, t, u, rfl, hn, hL, ht, hu, hown, hb1⟩
    obtain ⟨A1, c1, rfl, hnc, hrd⟩ := own_form hown
    have hcm := own_cap hown
    have hb1' := hide hb1
    have hsz1 := hb1.size
    have hrd' := hide hrd
    have hL' := hide hL
    have hnm : n ≤ maxLen := by unfold maxLen; omega
    clear hdraw hb1 hown hL hrd
    have ci := hide (implLG A1 n c1 L t u w1 hnm hL'.out hrd'.out)
    have cs := hide (fun W (h4 : Rd W 7 A1 n (cellsI L)) => specLG A1 n c1 L t u W hnm hL'.out h4)
    have cl := hide (fun W (h4 : Rd W 7 A1 n (cellsI L)) => implLineIts A1 n c1 L t u W hnm hL'.out h4)
    go_wp2_with fail
    refine ci.out.mono ?_
    rintro e w2 ⟨rfl, hb2⟩
    have bG := Blk.new w2 27 #[.int .i64 (lineG L t u).w, .int .i64 (lineG L t u).st, .int .i64 (lineG L t u).sh, .int .i64 (lineG L t u).o]
    have bel2 := hide (hb2.alloc hb2.size (.cells #[.int .i64 (lineG L t u).w, .int .i64 (lineG L t u).st, .int .i64 (lineG L t u).sh, .int .i64 (lineG L t u).o] 27))
    clear hb2 ci
    go_wp2_with fail
    generalize w2.heap.size = g at bG ⊢
    generalize w2.alloc (.cells #[.int .i64 (lineG L t u).w, .int .i64 (lineG L t u).st, .int .i64 (lineG L t u).sh, .int .i64 (lineG L t u).o] 27) = w2b at bG bel2 ⊢
    have s2 := bel2.out.size
    refine (cs.out _ (hrd'.out.below bel2.out)).mono ?_
    rintro e w3 ⟨rfl, hb3⟩
    have bG3 := (bG.below' hb3).alloc (.cells #[.int .i64 (lineG L t u).w, .int .i64 (lineG L t u).st, .int .i64 (lineG L t u).sh, .int .i64 (lineG L t u).o] 27)
    have hg3 : g < w3.heap.size := Nat.lt_of_lt_of_le bG.lt hb3.size
    have bel3 := hide ((bel2.out.trans (hb3.mono s2)).alloc (Nat.le_trans s2 hb3.size) (.cells #[.int .i64 (lineG L t u).w, .int .i64 (lineG L t u).st, .int .i64 (lineG L t u).sh, .int .i64 (lineG L t u).o] 27))
    obtain ⟨k0, k1, k2, k3, f0, f1, f2, f3⟩ := bG3.c4
    have bG3' := hide bG3
    clear hb3 bG bel2 cs bG3
    cases hk : lineOk L t u with
    | false =>
      have e0 := lineG_bad hk
      rw [e0] at k0 k1 k2 k3 ⊢
      have bel := hide (hb1'.out.trans (by rw [e0] at bel3; exact bel3.out.mono hsz1))
      have sbel := bel.out.size
      clear bel3 bG3' hk
      go_wp2_with fail
      refine (alive_any _).mono ?_
      rintro e w99 ⟨rfl, hb99⟩
      have hend := hide (bel.out.trans (hb99.mono sbel))
      clear hb99
      go_wp2
      go_ret
      exact ⟨rfl, hend.out⟩
    | true =>
      have s3 := bel3.out.size
      have hrd3 := hide (hrd'.out.below bel3.out)
      obtain ⟨ho, -, b2, -, -, -⟩ := lineOk_true hk
      have b2' := mayI_bd b2
      obtain ⟨r, rfl⟩ := Int.eq_ofNat_of_zero_le b2'.1
      have hrn : r < n := by have := hL'.out; omega
      have hrni : (r : Int) < (n : Int) := by omega
      have hmem := hide (fun x (hx : x ∈ lineI L t (r : Int)) => lineI_mem hx)
      have h60 := lineI_len L t (r : Int)
      have hw := hide (lineG_w hk)
      have hsh := lineG_sh hk
      have hbd := lineG_bd hk
      have hgb := hide (fun j (hj : j < L.length) => gAt_bd ho hj)
      rw [Int.toNat_natCast] at hw
      generalize lineI L t (r : Int) = R at *
      generalize lineG L t (r : Int) = S at *
      obtain ⟨m, hm⟩ : ∃ m, R.length = m := ⟨_, rfl⟩
      have hm' := hide hm
      rw [hm] at h60
      have hsum := hide (fun k => sumOf_bd (fun x => (gAt L x).w) 1000 (R.take k) (fun a ha => hgb.out a (hmem.out a (List.mem_of_mem_take ha)).2.2.1))
      clear hk hm ho b2 b2'
      go_wp2_with fail
      refine (cl.out _ hrd3.out).mono ?_
      rintro e w4 ⟨v4, rfl, hown4, hb4⟩
      obtain ⟨A4, c4, rfl, _, hrd4⟩ := own_form hown4
      rw [toI_len, hm'.out] at hrd4 ⊢
      have hx4 := bG3'.out.below' hb4
      obtain ⟨p0, p1, p2, p3, q0, q1, q2, q3⟩ := hx4.c4
      have hrdL := hide (hrd3.out.below hb4)
      have hrdR := hide hrd4
      have hend := hide (hb1'.out.trans ((bel3.out.trans (hb4.mono s3)).mono hsz1))
      clear hown4 hrd4 hb4 hx4 bG3' bel3 hrd3 k0 k1 k2 k3 f0 f1 f2 f3 cl
      go_wp2
      go_loop [10, 12] (fun q i => ∃ k : Nat, k ≤ m ∧ i = .int .i64 k ∧ q = .int .i64 (sumOf (fun x => (gAt L x).w) (R.take k))) (fun _ i => m - (intOf i).toNat)
      case atStart => exact ⟨0, Nat.zero_le _, rfl, by simp [sumOf]⟩
      case round =>
        obtain ⟨k, hkm, rfl, rfl⟩ := hrel
        by_cases hlt : k < m
        · obtain ⟨b, off, z, rfl, hbk, hx, c0⟩ := hrdR.out.int ((toI_len R).trans hm'.out) hlt
          obtain ⟨j, rfl, hj⟩ := toI_nat hx
          have hjL := (hmem.out j (List.mem_of_getElem? hj)).2.2.1
          have hjn : j < n := by have := hL'.out; omega
          obtain ⟨b2, off2, y, rfl, hbk2, hy, d0, d1, d2, d3, d4, d5, d6⟩ := hrdL.out.item hL'.out hjn
          have hgy := hgb.out j hjL
          rw [gAt_of hy] at hgy
          have hS := hsum.out k
          have hlk : (R.take k).length ≤ 60 := by rw [List.length_take]; omega
          have es := hide (show sumOf (fun x => (gAt L x).w) (R.take (k + 1)) = sumOf (fun x => (gAt L x).w) (R.take k) + y.g.w from by rw [take_snoc' _ _ _ hj, sumOf_snoc, gAt_of hy])
          generalize sumOf (fun x => (gAt L x).w) (R.take k) = Q at *
          have hQ : 0 ≤ Q ∧ Q ≤ 60000 := by omega
          have e1 : decide ((j : Int) < 0) = false := decide_eq_false (by omega)
          have e2 : decide ((n : Int) ≤ (j : Int)) = false := decide_eq_false (by omega)
          have e2' : decide (n ≤ j) = false := decide_eq_false (by omega)
          have hjni : (j : Int) < (n : Int) := by omega
          have hkmi : (k : Int) < (m : Int) := by omega
          clear hx hj hy hS
          go_wp2
          go_round
          case rel => exact ⟨k + 1, by omega, by go_num, by rw [es.out]⟩
          case measure => simp [intOf]; omega
        · obtain rfl : k = m := by omega
          obtain ⟨b2, off2, y, rfl, hbk2, hy, d0, d1, d2, d3, d4, d5, d6⟩ := hrdL.out.item hL'.out hrn
          have eT : R.take k = R := List.take_of_length_le (by have := hm'.out; omega)
          have hS := hsum.out k
          have hlk : (R.take k).length ≤ 60 := by rw [List.length_take]; omega
          rw [eT] at hS hlk ⊢
          have hgy := hgb.out r (by have := hL'.out; omega)
          rw [gAt_of hy] at hgy
          rw [isBr_of hy, gAt_of hy] at hw
          have e1 : decide ((r : Int) < 0) = false := decide_eq_false (by omega)
          have e2 : decide ((n : Int) ≤ (r : Int)) = false := decide_eq_false (by omega)
          have e2' : decide (n ≤ r) = false := decide_eq_false (by omega)
          have e5 : decide (S.sh ≤ S.w) = true := decide_eq_true hsh
          generalize sumOf (fun x => (gAt L x).w) R = Q at *
          have hQ : 0 ≤ Q ∧ Q ≤ 60000 := by omega
          clear eT hy hS
          cases kk : (y.k == 3) with
          | false =>
            have eW : (S.w == Q) = true := by rw [hw.out, kk]; simp
            clear hw
            go_wp2
            go_ret
            exact ⟨rfl, hend.out⟩
          | true =>
            have eW : (S.w == Q + y.g.w) = true := by rw [hw.out, kk]; simp
            clear hw
            go_wp2
            go_ret
            exact ⟨rfl, hend.out⟩
end Go.Proofs.Ytocaonlmlafjmaa
