/- The walks through the laws of words, of signs and of widths. No condition. -/
import Derived.Test.YtfhhfibjjpiccaaArgs
import Derived.Test.YtfhhfibjjpiccaaDrLet
import Derived.Test.YtfhhfibjjpiccaaWidth
import Derived.Test.YtfhhfibjjpiccaaWidMath
namespace Go.Proofs.Ytfhhfibjjpiccaa
open Go.RowKit
set_option linter.unusedVariables false
set_option linter.unusedSimpArgs false

theorem word_part {s : ByteArray} (h : wordB s = true) (i j : Nat) (hij : i < j) (hj : j ≤ s.size) : wordB (s.extract i j) = true := by
  have h1 := wordB_true h
  unfold wordB
  rw [bl_extract, size_extract _ _ _ hj]
  rw [Bool.and_eq_true]
  refine ⟨List.all_eq_true.2 fun c hc => List.all_eq_true.1 h1.1 c (List.mem_of_mem_drop (List.mem_of_mem_take hc)), inB_mk (by omega)⟩
theorem word_sp (s : ByteArray) : wordB (s ++ ⟨#[32]⟩) = false := by
  unfold wordB
  rw [bl_append, List.all_append]
  have : (bl ⟨#[32]⟩).all isSm = false := by decide
  rw [this, Bool.and_false]; rfl
theorem word_empty : wordB ⟨#[]⟩ = false := by decide
set_option maxRecDepth 100000 in
theorem walkFnWordValid (A0 : Option Addr) (n0 c0 : Nat) (l0 : List Int) (w : World) (w0a : n0 ≤ c0) (w0b : c0 ≤ maxLen) (w0c : List.length l0 = n0) (w0d : Rd w 1 A0 n0 (cellsB l0)) (w0e : ∀ z ∈ l0, 0 ≤ z ∧ z ≤ 255) :
    Calls Try.prog 6 #[.slice A0 n0 c0] w fun e w' => e = .returned (.bool true) ∧ Below w.heap.size w w' := by
  by_cases hbig : 1048576 < n0
  · have hd : decide (1048576 < (n0 : Int)) = true := by simp; omega
    clear w0a w0b w0c w0d w0e hbig
    go_enter Try.func6, Try.ntmps6
    go_wp2
    go_ret
    exact ⟨rfl, Below.refl _ _⟩
  · have hd : decide (1048576 < (n0 : Int)) = false := by simp; omega
    have hdraw := hide (drawWordV w A0 n0 c0 l0 w0c w0a (by omega) w0d w0e)
    clear w0a w0b w0c w0d w0e hbig
    go_enter Try.func6, Try.ntmps6
    go_wp2_with (fail)
    refine hdraw.out.mono ?_
    rintro e w1 ⟨s, rfl, hss, hb1⟩
    have hb1' := hide hb1
    have hsz1 := hb1.size
    clear hdraw hb1
    have ci := hide (fun W => implWord s W (by unfold maxLen; omega))
    have cs := hide (fun W => specWord s W (by unfold maxLen; omega))
    have f2 := word_sp s
    have f3 := word_empty
    have c2 := hide (fun W => implWord (s ++ ⟨#[32]⟩) W (by rw [ByteArray.size_append]; unfold maxLen; show s.size + 1 ≤ _; omega))
    have c3 := hide (fun W => implWord ⟨#[]⟩ W (by unfold maxLen; show 0 ≤ _; omega))
    rw [f2] at c2
    rw [f3] at c3
    clear f2 f3
    have hz1 : s.size + (⟨#[32]⟩ : ByteArray).size ≤ 9223372036854775807 := by show s.size + 1 ≤ _; omega
    cases hv : wordB s with
    | false =>
      rw [hv] at ci cs
      clear hv
      go_wp2_with fail
      refine (ci.out _).mono ?_
      rintro e w' ⟨rfl, rfl⟩
      go_wp2_with fail
      refine (cs.out _).mono ?_
      rintro e w' ⟨rfl, rfl⟩
      go_wp2_with fail
      refine (c2.out _).mono ?_
      rintro e w' ⟨rfl, rfl⟩
      go_wp2_with fail
      refine (c3.out _).mono ?_
      rintro e w' ⟨rfl, rfl⟩
      go_wp2_with fail
      refine (alive_any _).mono ?_
      rintro e w6 ⟨rfl, hb6⟩
      go_wp2
      go_ret
      exact ⟨rfl, hb1'.out.trans (hb6.mono hsz1)⟩
    | true =>
      have hw20 := (wordB_true hv).2
      have f1 := word_part hv (s.size / 2) s.size (by omega) (Nat.le_refl _)
      have c1 := hide (fun W => implWord (s.extract (s.size / 2) s.size) W (by rw [size_extract _ _ _ (Nat.le_refl _)]; unfold maxLen; omega))
      rw [f1] at c1
      rw [hv] at ci cs
      have g1 : ((s.size : Int) / 2).toNat = s.size / 2 := by omega
      have g2 : (0 : Int) ≤ (s.size : Int) / 2 := by omega
      have g3 : (s.size : Int) / 2 ≤ (s.size : Int) := by omega
      clear f1 hv
      go_wp2_with fail
      refine (ci.out _).mono ?_
      rintro e w' ⟨rfl, rfl⟩
      go_wp2_with fail
      refine (cs.out _).mono ?_
      rintro e w' ⟨rfl, rfl⟩
      go_wp2_with fail
      refine (c1.out _).mono ?_
      rintro e w' ⟨rfl, rfl⟩
      go_wp2_with fail
      refine (c2.out _).mono ?_
      rintro e w' ⟨rfl, rfl⟩
      go_wp2_with fail
      refine (c3.out _).mono ?_
      rintro e w' ⟨rfl, rfl⟩
      go_wp2_with fail
      refine (alive_any _).mono ?_
      rintro e w6 ⟨rfl, hb6⟩
      go_wp2
      go_ret
      exact ⟨rfl, hb1'.out.trans (hb6.mono hsz1)⟩

theorem sameTexts_same (A B : Option Addr) (n c d : Nat) (l : List ByteArray) (w : World) (hn : n ≤ maxLen) (hl : l.length = n) (ha : Rd w 1 A n (cellsS l)) (hb : Rd w 1 B n (cellsS l)) :
    Calls Try.prog 27 #[.slice A n c, .slice B n d] w fun e w' => e = .returned (.bool true) ∧ Below w.heap.size w w' := by
  unfold maxLen at hn
  have hl' := hide hl
  clear hl
  go_enter Try.func27, Try.ntmps27
  go_wp2
  go_loopw [5] (fun i wr => ∃ k : Nat, k ≤ n ∧ i = .int .i64 k ∧ Below w.heap.size w wr) (fun i _ => n - (intOf i).toNat)
  case atStart => exact ⟨0, Nat.zero_le _, rfl, Below.refl _ _⟩
  case round =>
    obtain ⟨k, hk, rfl, hw⟩ := hrel
    by_cases hlt : k < n
    · obtain ⟨b, off, x, rfl, hbs, hx, c0⟩ := (ha.below hw).str hl'.out hlt
      obtain ⟨b2, off2, x2, rfl, hbs2, hx2, c1⟩ := (hb.below hw).str hl'.out hlt
      rw [hx] at hx2
      obtain rfl := Option.some.inj hx2
      have hw' := hide hw
      have hlt' : (k : Int) < (n : Int) := by omega
      clear hx hw hx2
      go_wp2
      go_quiet (fail)
      go_wp2
      go_roundw
      case rel => exact ⟨k + 1, by omega, by go_num, below_drewN hw'.out _⟩
      case measure => simp [intOf]; omega
    · go_wp2
      go_ret
      exact ⟨rfl, hw⟩
theorem signs_cat {s : ByteArray} (h : wordB s = true) : catTo (signsL s) (signsL s).length = s := by
  unfold signsL
  rw [if_pos h]
  exact catTo_full _ _ (by rw [sg_cat]; rfl)
theorem signs_join {s : ByteArray} : ∀ t ∈ signsL s, t.size = 2 → joinB ((bl t).getD 0 0) ((bl t).getD 1 0) = true := by
  unfold signsL
  split
  · exact sg_join s 0
  · intro t ht; cases ht
set_option maxRecDepth 100000 in
set_option maxHeartbeats 2000000 in
theorem walkFnSignsOf (A0 : Option Addr) (n0 c0 : Nat) (l0 : List Int) (w : World) (w0a : n0 ≤ c0) (w0b : c0 ≤ maxLen) (w0c : List.length l0 = n0) (w0d : Rd w 1 A0 n0 (cellsB l0)) (w0e : ∀ z ∈ l0, 0 ≤ z ∧ z ≤ 255) :
    Calls Try.prog 7 #[.slice A0 n0 c0] w fun e w' => e = .returned (.bool true) ∧ Below w.heap.size w w' := by
  by_cases hbig : 1048576 < n0
  · have hd : decide (1048576 < (n0 : Int)) = true := by simp; omega
    clear w0a w0b w0c w0d w0e hbig
    go_enter Try.func7, Try.ntmps7
    go_wp2
    go_ret
    exact ⟨rfl, Below.refl _ _⟩
  · have hd : decide (1048576 < (n0 : Int)) = false := by simp; omega
    have hdraw := hide (drawSigns w A0 n0 c0 l0 w0c w0a (by omega) w0d w0e)
    clear w0a w0b w0c w0d w0e hbig
    go_enter Try.func7, Try.ntmps7
    go_wp2_with (fail)
    refine hdraw.out.mono ?_
    rintro e w1 ⟨s, rfl, hss, hb1⟩
    have hb1' := hide hb1
    have hsz1 := hb1.size
    clear hdraw hb1
    have hsm : s.size ≤ maxLen := by unfold maxLen; omega
    have ci := hide (implSigns s w1 hsm)
    have cs := hide (fun W => specSigns s W hsm)
    have cw := hide (fun W => specWord s W hsm)
    have h20 := signsL_bd s
    have hsz := hide (signsL_size s)
    have hjn := hide (signs_join (s := s))
    have hnil := hide (signsL_nil s)
    have hcat := hide (fun h => signs_cat (s := s) h)
    generalize signsL s = L at *
    obtain ⟨m, hm⟩ : ∃ m, L.length = m := ⟨_, rfl⟩
    have hm' := hide hm
    rw [hm] at h20
    clear hm hsm
    go_wp2_with fail
    refine ci.out.mono ?_
    rintro e w2 ⟨v, rfl, own2, hb2⟩
    obtain ⟨A2, c2, rfl, _, _⟩ := own_form own2
    have own2' := hide own2
    have bel2 := hide (hb1'.out.trans (hb2.mono hsz1))
    have s2 := bel2.out.size
    clear hb2 own2 ci
    go_wp2_with fail
    refine (cs.out _).mono ?_
    rintro e w3 ⟨v3, rfl, own3, hb3⟩
    obtain ⟨A3, c3, rfl, _, _⟩ := own_form own3
    have own2b := hide (own_below own2'.out hb3)
    have own3' := hide own3
    have bel3 := hide (bel2.out.trans (hb3.mono s2))
    have s3 := bel3.out.size
    clear hb3 own3 own2' cs
    go_wp2_with fail
    refine (sameTexts_same _ _ L.length _ _ L _ (by have := hm'.out; unfold maxLen; omega) rfl (Rd.of_own own2b.out) (Rd.of_own own3'.out)).mono ?_
    rintro e w4 ⟨rfl, hb4⟩
    have hrd := hide (Rd.of_own (own_below own2b.out hb4))
    have bel4 := hide (bel3.out.trans (hb4.mono s3))
    have s4 := bel4.out.size
    clear hb4 own2b own3'
    go_wp2_with fail
    refine (cw.out _).mono ?_
    rintro e w' ⟨rfl, rfl⟩
    cases hv : wordB s with
    | false =>
      obtain rfl : L = [] := hnil.out.2 hv
      clear hv
      go_wp2_with fail
      refine (alive_any _).mono ?_
      rintro e w6 ⟨rfl, hb6⟩
      go_wp2
      go_ret
      exact ⟨rfl, bel4.out.trans (hb6.mono s4)⟩
    | true =>
      have hall := hide (hcat.out hv)
      clear hv
      rw [hm'.out] at hrd ⊢
      go_wp2
      go_loopw [5, 6] (fun q i wr => ∃ (k : Nat) (o : ByteArray), k ≤ m ∧ i = .int .i64 k ∧ q = .string o ∧ o.size ≤ 2 * k ∧ Hid (o = catTo L k) ∧ Below w4.heap.size w4 wr) (fun _ i _ => m - (intOf i).toNat)
      case atStart => exact ⟨0, ByteArray.empty, Nat.zero_le _, rfl, rfl, by simp, rfl, Below.refl _ _⟩
      case round =>
        obtain ⟨k, o, hk, rfl, rfl, hos, ho, hwr⟩ := hrel
        have hwr' := hide hwr
        by_cases hlt : k < m
        · obtain ⟨b, off, t, rfl, hbk, ht, d0⟩ := (hrd.out.below hwr).str hm'.out hlt
          have hts := hsz.out t (List.mem_of_getElem? ht)
          have hj := hide (hjn.out t (List.mem_of_getElem? ht))
          have hst := hide (show catTo L (k + 1) = catTo L k ++ t by rw [catTo, getD_some ht])
          have hki : (k : Int) < (m : Int) := by omega
          have hz1 : o.size + t.size ≤ 9223372036854775807 := by omega
          have g0 : decide ((t.size : Int) < 1) = false := decide_eq_false (by omega)
          have g1 : decide ((2 : Int) < (t.size : Int)) = false := decide_eq_false (by omega)
          clear ht hwr
          by_cases h2 : t.size = 2
          · have hx0 : 0 < t.size := by omega
            have hx1 : 1 < t.size := by omega
            have hi0 : (0 : Int) < (t.size : Int) := by omega
            have hi1 : (1 : Int) < (t.size : Int) := by omega
            have g2 : ((t.size : Int) == 2) = true := by simp; omega
            have hjt : joinB ((t[0].toNat : Nat) : Int) ((t[1].toNat : Nat) : Int) = true := by
              have := hj.out h2
              rw [bl_getD t 0 hx0, bl_getD t 1 hx1] at this
              exact this
            have hbb := byte_bd t 1 hx1
            clear h2
            go_wp2
            go_quiet ((go_at_call 13; exact Calls.quiet_of_same (quiet_eq (implJoins _ _ _ hbb))))
            go_wp2
            go_roundw
            case rel => exact ⟨k + 1, _, by omega, by go_num, rfl, by rw [ByteArray.size_append]; omega, by show _ = _; rw [hst.out, ho.out], below_drewN hwr'.out _⟩
            case measure => simp [intOf]; omega
          · have g2 : ((t.size : Int) == 2) = false := by simp; omega
            clear h2
            go_wp2
            go_quiet (fail)
            go_wp2
            go_roundw
            case rel => exact ⟨k + 1, _, by omega, by go_num, rfl, by rw [ByteArray.size_append]; omega, by show _ = _; rw [hst.out, ho.out], below_drewN hwr'.out _⟩
            case measure => simp [intOf]; omega
        · obtain rfl : k = m := by omega
          have hos' : o = s := by rw [ho.out, ← hm'.out, hall.out]
          subst hos'
          clear hwr
          go_wp2
          go_ret
          exact ⟨rfl, bel4.out.trans (hwr'.out.mono s4)⟩
set_option maxRecDepth 100000 in
set_option maxHeartbeats 2000000 in
theorem walkFnWordWidth (A0 : Option Addr) (n0 c0 : Nat) (l0 : List Int) (w : World) (w0a : n0 ≤ c0) (w0b : c0 ≤ maxLen) (w0c : List.length l0 = n0) (w0d : Rd w 1 A0 n0 (cellsB l0)) (w0e : ∀ z ∈ l0, 0 ≤ z ∧ z ≤ 255) :
    Calls Try.prog 8 #[.slice A0 n0 c0] w fun e w' => e = .returned (.bool true) ∧ Below w.heap.size w w' := by
  by_cases hbig : 1048576 < n0
  · have hd : decide (1048576 < (n0 : Int)) = true := by simp; omega
    clear w0a w0b w0c w0d w0e hbig
    go_enter Try.func8, Try.ntmps8
    go_wp2
    go_ret
    exact ⟨rfl, Below.refl _ _⟩
  · have hd : decide (1048576 < (n0 : Int)) = false := by simp; omega
    have hdraw := hide (drawWidth w A0 n0 c0 l0 w0c w0a (by omega) w0d w0e)
    clear w0a w0b w0c w0d w0e hbig
    go_enter Try.func8, Try.ntmps8
    go_wp2_with (fail)
    refine hdraw.out.mono ?_
    rintro e w1 ⟨s, rfl, hss, hb1⟩
    have hb1' := hide hb1
    have hsz1 := hb1.size
    clear hdraw hb1
    have hsm : s.size ≤ maxLen := by unfold maxLen; omega
    have ci := hide (implWidth s w1 hsm)
    have cs := hide (fun W => specWidth s W hsm)
    have cw := hide (fun W => specWord s W hsm)
    clear hsm
    go_wp2_with fail
    refine ci.out.mono ?_
    rintro e w2 ⟨rfl, hb2⟩
    have bel2 := hide (hb1'.out.trans (hb2.mono hsz1))
    have s2 := bel2.out.size
    clear hb2 ci
    go_wp2_with fail
    refine (cs.out _).mono ?_
    rintro e w3 ⟨rfl, hb3⟩
    have bel3 := hide (bel2.out.trans (hb3.mono s2))
    have s3 := bel3.out.size
    clear hb3 cs
    go_wp2_with fail
    refine (cw.out _).mono ?_
    rintro e w' ⟨rfl, rfl⟩
    cases hv : wordB s with
    | false =>
      have hx : widthW s = -1 := by unfold widthW; rw [if_neg (by rw [hv]; exact Bool.false_ne_true)]
      rw [hx]
      clear hx hv
      go_wp2_with fail
      refine (alive_any _).mono ?_
      rintro e w6 ⟨rfl, hb6⟩
      go_wp2
      go_ret
      exact ⟨rfl, bel3.out.trans (hb6.mono s3)⟩
    | true =>
      have hx := hide (widthW_eq s hv)
      have hw1 := wordB_true hv
      have hlaw := hide (widthL_bd (bl s) hw1.1 (by rw [bl_len]; omega))
      clear hv hw1
      generalize hX : widthW s = X at *
      clear hX
      go_wp2
      go_loop [5, 6] (fun q i => ∃ (k : Nat) (r : Int), k ≤ s.size ∧ i = .int .i64 k ∧ q = .int .i64 r ∧ Hid (r = sumOf lw ((bl s).take k))) (fun _ i => s.size - (intOf i).toNat)
      case atStart => exact ⟨0, 0, Nat.zero_le _, rfl, rfl, by show (0 : Int) = sumOf lw ((bl s).take 0); simp [sumOf]⟩
      case round =>
        obtain ⟨k, r, hk, rfl, rfl, hr⟩ := hrel
        have hrb : 0 ≤ r ∧ r ≤ 168 := by
          have h1 := sumOf_bd lw 8 ((bl s).take k) (fun c _ => lw_bd c)
          have h2 : ((bl s).take k).length ≤ 21 := by rw [List.length_take, bl_len]; omega
          rw [hr.out]
          omega
        by_cases hlt : k < s.size
        · have hst := hide (letters_step hlt)
          have hlw := lw_bd ((s[k].toNat : Nat) : Int)
          have hbb := byte_bd s k hlt
          go_wp2_with (go_at_call 20; refine (implLW _ _ hbb).mono ?_; rintro e w' ⟨rfl, rfl⟩)
          go_round
          case rel => exact ⟨k + 1, _, by omega, by go_num, rfl, by show _ = _; rw [hst.out, hr.out]⟩
          case measure => simp [intOf]; omega
        · have hall := letters_all hlt
          have hfin : X ≤ r ∧ r - 2 * (s.size : Int) ≤ X ∧ 0 < X := by
            have h1 := hlaw.out
            rw [← hx.out, bl_len] at h1
            have h2 := hr.out
            rw [hall] at h2
            rw [h2]
            exact h1
          obtain ⟨e1, e2, e3⟩ := hfin
          clear hall
          go_wp2
          go_ret
          exact ⟨rfl, bel3.out⟩
end Go.Proofs.Ytfhhfibjjpiccaa
