/- The walk through the law of paragraphs. No condition. -/
import Derived.Test.YtocaonlmlafjmaaKCore
import Derived.Test.YtocaonlmlafjmaaKDrTx
import Derived.Test.YtocaonlmlafjmaaPar3
import Derived.Test.YtocaonlmlafjmaaKItems
import Derived.Test.YtocaonlmlafjmaaKRead
namespace Go.Proofs.Ytocaonlmlafjmaa
open Go.RowKit
set_option linter.unusedVariables false
set_option linter.unusedSimpArgs false
set_option maxRecDepth 100000

def TwoLs (w : World) (e : Ending) (w' : World) : Prop := ∃ (W : List ByteArray) (v : Value) (n : Nat) (l : List ByteArray) (t : Value) (m : Nat), e = .returned (.tuple #[v, t]) ∧ n ≤ 13 ∧ List.length W = n ∧ (∀ x ∈ W, x.size ≤ 21) ∧ w'.ownsRow w.heap.size 9 1 v n (cellsS W) ∧
  m ≤ 21 ∧ List.length l = m ∧ (∀ x ∈ l, x.size ≤ 13) ∧ w'.ownsRow w.heap.size 9 1 t m (cellsS l) ∧ Below w.heap.size w w'
theorem drawPI (w : World) (A : Option Addr) (n c : Nat) (l : List Int) (hl : List.length l = n) (hc : n ≤ c) (hn63 : n < 4611686018427387904) (h : Rd w 1 A n (cellsB l)) (h5 : ∀ z ∈ l, 0 ≤ z ∧ z ≤ 255) :
    Calls Try.prog 50 #[.slice A n c] w (TwoLs w) := by
  go_enter Try.func50, Try.ntmps50
  go_wp2_with (fail)
  refine (l20Open_any w A n c l hl hc hn63 h h5).mono ?_
  rintro e w1 ⟨rfl, hr, hb⟩
  have hz1 := hb.size
  have hg0 : w.heap.size < w1.heap.size := hr.lt
  clear h h5 hl
  go_wp2_with (fail)
  refine (l20Words_any w.heap.size 0 12 w1 hr (by omega) (by omega)).mono ?_
  rintro e w2 ⟨W, v, k, q, rfl, hk, hW, hWb, hown, hq, hr2, hg2⟩
  have hne := hide (fun kk hkk => hown.lt kk hkk)
  have hb2 := Below.only hb hg2 hz1 (Nat.le_refl _)
  have hz2 := hb2.size
  clear hr hg2 hb
  go_wp2_with (fail)
  refine (l20Patterns_any w.heap.size q 12 w2 hr2 (by omega) (by omega)).mono ?_
  rintro e w3 ⟨L, t, m, q3, rfl, hm, hL, hLb, hown3, hq3, hr3, hg3⟩
  have hb3 := hide (Below.only hb2 hg3 hz2 (Nat.le_refl _))
  have hown2 := hide (own_mono (own_keep hown (fun kk hkk => hg3.block kk ((hne.out kk hkk).2) (fun e => by have := (hne.out kk hkk).1; injection e with e; omega))) hz1)
  have hown3' := hide (own_mono hown3 hz2)
  clear hr2 hg3 hb2 hr3 hq3 hown hown3 hne
  go_wp2
  unfold TwoLs
  go_ret2
  exact ⟨W, _, k, L, _, m, rfl, hk, hW, hWb, hown2.out, hm, hL, hLb, hown3'.out, hb3.out⟩
set_option maxHeartbeats 1000000 in
theorem sameItemsL (A B : Option Addr) (n c d : Nat) (l : List I) (w : World) (hn : n ≤ maxLen) (hl : l.length = n) (ha : Rd w 7 A n (cellsI l)) (hb : Rd w 7 B n (cellsI l)) :
    Calls Try.prog 51 #[.slice A n c, .slice B n d] w fun e w' => e = .returned (.bool true) ∧ Below w.heap.size w w' := by
  unfold maxLen at hn
  have hl' := hide hl
  clear hl
  go_enter Try.func51, Try.ntmps51
  go_wp2
  go_loopw [5] (fun i wr => ∃ k nq : Nat, k ≤ n ∧ i = .int .i64 k ∧ wr = w.drewN nq) (fun i _ => n - (intOf i).toNat)
  case atStart => exact ⟨0, 0, Nat.zero_le _, rfl, rfl⟩
  case round =>
    obtain ⟨k, nq0, hk, rfl, rfl⟩ := hrel
    by_cases hlt : k < n
    · obtain ⟨b, off, x, rfl, hbs, hx, c0, c1, c2, c3, c4, c5, c6⟩ := ha.item hl'.out hlt
      obtain ⟨b2, off2, x2, rfl, hbs2, hx2, d0, d1, d2, d3, d4, d5, d6⟩ := hb.item hl'.out hlt
      rw [hx] at hx2
      obtain rfl := Option.some.inj hx2
      have hlt' : (k : Int) < (n : Int) := by omega
      clear hx hx2
      go_wp2
      go_quiet (fail)
      go_wp2
      go_roundw
      case rel => exact ⟨k + 1, _, by omega, by go_num, by first | rfl | rw [World.drewN_drewN]⟩
      case measure => simp [intOf]; omega
    · go_wp2
      go_ret
      exact ⟨rfl, below_drewN (Below.refl _ _) _⟩
theorem parR_len60 (W l : List ByteArray) : (parR W l).length ≤ 60 := by
  cases h : parB W l with
  | false => rw [parR_no h]; simp
  | true => rw [parR_yes h]; exact parB_len h
set_option maxHeartbeats 8000000 in
theorem walkFnParagraphItems (A0 : Option Addr) (n0 c0 : Nat) (l0 : List Int) (w : World) (w0a : n0 ≤ c0) (w0b : c0 ≤ maxLen) (w0c : List.length l0 = n0) (w0d : Rd w 1 A0 n0 (cellsB l0)) (w0e : ∀ z ∈ l0, 0 ≤ z ∧ z ≤ 255) :
    Calls Try.prog 14 #[.slice A0 n0 c0] w fun e w' => e = .returned (.bool true) ∧ Below w.heap.size w w' := by
  by_cases hbig : 1048576 < n0
  · have hd : decide (1048576 < (n0 : Int)) = true := by simp; omega
    clear w0a w0b w0c w0d w0e hbig
    go_enter Try.func14, Try.ntmps14
    go_wp2
    go_ret
    exact ⟨rfl, Below.refl _ _⟩
  · have hd : decide (1048576 < (n0 : Int)) = false := by simp; omega
    have hdraw := hide (drawPI w A0 n0 c0 l0 w0c w0a (by omega) w0d w0e)
    clear w0a w0b w0c w0d w0e hbig
    go_enter Try.func14, Try.ntmps14
    go_wp2_with (fail)
    refine hdraw.out.mono ?_
    rintro e w1 ⟨W, v, n, l, t, m, rfl, hn, hW, hWb, hown, hm, hl, hlb, hown2, hb1⟩
    obtain ⟨A1, c1, rfl, _, hrd⟩ := own_form hown
    obtain ⟨A2, c2, rfl, _, hrd2⟩ := own_form hown2
    have hb1' := hide hb1
    have hsz1 := hb1.size
    have hrW := hide hrd
    have hrl := hide hrd2
    have hW' := hide hW
    have hl' := hide hl
    have hWz := hide (show ∀ x ∈ W, x.size ≤ maxLen from fun x hx => by have := hWb x hx; unfold maxLen; omega)
    have hlz := hide (show ∀ x ∈ l, x.size ≤ maxLen from fun x hx => by have := hlb x hx; unfold maxLen; omega)
    have hnm : n ≤ maxLen := by unfold maxLen; omega
    have hmm : m ≤ maxLen := by unfold maxLen; omega
    clear hdraw hb1 hown hown2 hW hl hWb hlb hrd hrd2
    have ci := hide (implPar A1 n c1 W A2 m c2 l w1 hnm hW'.out hWz.out hrW.out hmm hl'.out hlz.out hrl.out)
    have cs := hide (fun W0 (h1 : Rd W0 1 A1 n (cellsS W)) (h2 : Rd W0 1 A2 m (cellsS l)) => specPar A1 n c1 W A2 m c2 l W0 hnm hW'.out hWz.out h1 hmm hl'.out hlz.out h2)
    have cn := hide (fun W0 (h1 : Rd W0 1 A1 n (cellsS W)) => implPar A1 n c1 W none 0 0 [] W0 hnm hW'.out hWz.out h1 (Nat.zero_le _) rfl (fun s hs => by cases hs) Rd.nil_)
    have cq := hide (fun s W0 (hs : s.size ≤ maxLen) (h2 : Rd W0 1 A2 m (cellsS l)) => implParts s A2 m c2 l W0 hs hmm hl'.out hlz.out h2)
    go_wp2_with fail
    refine ci.out.mono ?_
    rintro e w2 ⟨v5, rfl, hown5, hb2⟩
    obtain ⟨A5, c5, rfl, _, hrd5⟩ := own_form hown5
    have bel2 := hide hb2
    have s2 := hb2.size
    have rx2 := hide hrd5
    clear hown5 hrd5 hb2 ci
    go_wp2_with fail
    refine (cs.out _ (hrW.out.below bel2.out) (hrl.out.below bel2.out)).mono ?_
    rintro e w3 ⟨v7, rfl, hown7, hb3⟩
    obtain ⟨A7, c7, rfl, _, hrd7⟩ := own_form hown7
    have bel3 := hide (bel2.out.trans (hb3.mono s2))
    have s3 := bel3.out.size
    have rx3 := hide (rx2.out.below hb3)
    have ry3 := hide hrd7
    have hR60 := hide (parR_len60 W l)
    clear hown7 hrd7 hb3 cs bel2 rx2
    go_wp2_with fail
    refine (sameItemsL A5 A7 (parR W l).length c5 c7 (parR W l) w3 (by have := hR60.out; unfold maxLen; omega) rfl rx3.out ry3.out).mono ?_
    rintro e w4 ⟨rfl, hb4⟩
    have bel4 := hide (bel3.out.trans (hb4.mono s3))
    have s4 := bel4.out.size
    have rx4 := hide (rx3.out.below hb4)
    clear hb4 bel3 rx3 ry3
    cases hB : parB W l with
    | false =>
      have hR := parR_no hB
      rw [hR]
      have bel := hide (hb1'.out.trans (bel4.out.mono hsz1))
      have sbel := bel.out.size
      clear rx4 hB hR bel4
      go_wp2_with fail
      refine (alive_any _).mono ?_
      rintro e w99 ⟨rfl, hb99⟩
      have hend := hide (bel.out.trans (hb99.mono sbel))
      clear hb99
      go_wp2
      go_ret
      exact ⟨rfl, hend.out⟩
    | true =>
      have hR := parR_yes hB
      rw [hR] at rx4 ⊢
      have hK60 := parB_len hB
      have hK3 := parI_pos W l
      have hiv := hide (parI_ok hB)
      have hml := hide (parI_last W l)
      have hbx := hide (par_boxes hB)
      have hno := par_none hB
      have hno1 := hide hno.1
      have hno2 := hide hno.2
      have hpn := hide (fun k => partsN_bd W l k)
      have hKn := hide (show (parI W []).length ≤ 60 from parB_len hno.1)
      have hRn := parR_yes hno.1
      have hBn := hno.1
      generalize hX : parI W l = X at *
      clear hX hR hno
      obtain ⟨K, hK⟩ : ∃ K, X.length = K := ⟨_, rfl⟩
      have hK' := hide hK
      rw [hK] at rx4 hK60 hK3 hml ⊢
      clear hK
      have cv := hide (fun W0 (h : Rd W0 7 A5 K (cellsI X)) => implItems A5 K c5 X W0 (by unfold maxLen; omega) hK'.out h)
      have cm := hide (fun W0 (h : Rd W0 7 A5 K (cellsI X)) => implMay A5 K c5 X ((K : Int) - 1) W0 (by unfold maxLen; omega) hK'.out h)
      have cb := hide (fun W0 (h : Rd W0 7 A5 K (cellsI X)) => implBoxes A5 K c5 X W0 (by unfold maxLen; omega) hK'.out h)
      have hmb := hide (show (items60 X && mayI X ((K : Int) - 1)) = true from by rw [hiv.out, hml.out]; rfl)
      clear hB
      go_wp2
      go_loopw [9, 10] (fun q i wr => ∃ k : Nat, k ≤ n ∧ i = .int .i64 k ∧ q = .int .i64 (partsN W l k : Int) ∧ Below w1.heap.size w1 wr ∧ Below w4.heap.size w4 wr) (fun _ i _ => n - (intOf i).toNat)
      case atStart => exact ⟨0, Nat.zero_le _, rfl, rfl, bel4.out, Below.refl _ _⟩
      case round =>
        obtain ⟨k, hk, rfl, rfl, hbl, hbq0⟩ := hrel
        have hbq := hide hbq0
        have hwq := hbq0.size
        clear hbq0
        have hbl' := hide hbl
        have hws := hbl.size
        have hp22 := hpn.out k
        by_cases hlt : k < n
        · obtain ⟨b, off, x, rfl, hbk, hx, c0⟩ := (hrW.out.below hbl).str hW'.out hlt
          have hxz := hide (hWz.out x (List.mem_of_getElem? hx))
          have eS := hide (partsN_step (l := l) hx)
          have hpl := parts_bd x l
          have hlti : (k : Int) < (n : Int) := by omega
          clear hx hbl
          go_wp2_with fail
          refine (cq.out x _ hxz.out (hrl.out.below hbl'.out)).mono ?_
          rintro e w5 ⟨v6, rfl, hown6, hb5⟩
          obtain ⟨A6, c6, rfl, _, _⟩ := own_form hown6
          have hfin := hide (hbl'.out.trans (hb5.mono hws))
          have hfiq := hide (hbq.out.trans (hb5.mono hwq))
          clear hown6 hb5
          generalize (partsW x l).length = pl at *
          go_wp2
          go_roundw
          case rel => exact ⟨k + 1, by omega, by go_num, by rw [eS.out]; first | rfl | go_num, hfin.out, hfiq.out⟩
          case measure => simp [intOf]; omega
        · obtain rfl : n = k := by omega
          go_wp2_with fail
          refine (cn.out _ (hrW.out.below hbl'.out)).mono ?_
          rintro e w6 ⟨v8, rfl, hown8, hb6⟩
          rw [hRn] at hown8
          obtain ⟨A8, c8, rfl, _, hrd8⟩ := own_form hown8
          have bel6 := hide (hbl'.out.trans (hb6.mono hws))
          have s6 := bel6.out.size
          have rp6 := hide hrd8
          have rx6 := hide ((rx4.out.below hbq.out).below hb6)
          clear hown8 hrd8 hb6 hbl
          go_wp2_with fail
          refine (cv.out _ rx6.out).mono ?_
          rintro e w7 ⟨rfl, hb7⟩
          rw [hiv.out]
          have bel7 := hide (bel6.out.trans (hb7.mono s6))
          have s7 := bel7.out.size
          have rp7 := hide (rp6.out.below hb7)
          have rx7 := hide (rx6.out.below hb7)
          clear hb7 bel6 rp6 rx6
          go_wp2_with fail
          refine (cm.out _ rx7.out).mono ?_
          rintro e w8 ⟨rfl, hb8⟩
          rw [hmb.out]
          have bel8 := hide (bel7.out.trans (hb8.mono s7))
          have s8 := bel8.out.size
          have rp8 := hide (rp7.out.below hb8)
          have rx8 := hide (rx7.out.below hb8)
          clear hb8 bel7 rp7 rx7
          go_wp2_with fail
          refine (cb.out _ rx8.out).mono ?_
          rintro e w9 ⟨v9, rfl, hown9, hb9⟩
          obtain ⟨A9, c9, rfl, _, _⟩ := own_form hown9
          rw [hbx.out, hW'.out]
          have bel9 := hide (bel8.out.trans (hb9.mono s8))
          have s9 := bel9.out.size
          have rp9 := hide (rp8.out.below hb9)
          clear hb9 bel8 rp8 rx8 hown9

          go_wp2_with fail
          refine (implBoxes A8 (parI W []).length c8 (parI W []) _ (by have := hKn.out; unfold maxLen; omega) rfl rp9.out).mono ?_
          rintro e w10 ⟨v10, rfl, hown10, hb10⟩
          obtain ⟨A10, c10, rfl, _, _⟩ := own_form hown10
          rw [hno2.out, hW'.out]
          have bel10 := hide (hb1'.out.trans ((bel9.out.trans (hb10.mono s9)).mono hsz1))
          clear hb10 bel9 rp9 hown10
          go_wp2
          go_ret
          exact ⟨rfl, bel10.out⟩
end Go.Proofs.Ytocaonlmlafjmaa
