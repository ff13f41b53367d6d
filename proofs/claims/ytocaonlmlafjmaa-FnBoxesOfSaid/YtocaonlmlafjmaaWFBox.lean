/- The walk through the law of boxes. No condition. -/
import Derived.Test.YtocaonlmlafjmaaKCore
import Derived.Test.YtocaonlmlafjmaaKDrIt
import Derived.Test.YtocaonlmlafjmaaKItems
import Derived.Test.YtocaonlmlafjmaaAppAll
import Derived.Deep.RegionHeld3
namespace Go.Proofs.Ytocaonlmlafjmaa
open Go.RowKit
set_option linter.unusedVariables false
set_option linter.unusedSimpArgs false
set_option maxRecDepth 100000

theorem sameIntsB (A B : Option Addr) (n c d : Nat) (l : List Int) (w : World) (hn : n ≤ maxLen) (hl : l.length = n) (ha : Rd w 1 A n (cellsN l)) (hb : Rd w 1 B n (cellsN l)) :
    Calls Try.prog 59 #[.slice A n c, .slice B n d] w fun e w' => e = .returned (.bool true) ∧ Below w.heap.size w w' := by
  unfold maxLen at hn
  have hl' := hide hl
  clear hl
  go_enter Try.func59, Try.ntmps59
  go_wp2
  go_loopw [5] (fun i wr => ∃ k : Nat, k ≤ n ∧ i = .int .i64 k ∧ Below w.heap.size w wr) (fun i _ => n - (intOf i).toNat)
  case atStart => exact ⟨0, Nat.zero_le _, rfl, Below.refl _ _⟩
  case round =>
    obtain ⟨k, hk, rfl, hw⟩ := hrel
    by_cases hlt : k < n
    · obtain ⟨b, off, x, rfl, hbs, hx, c0⟩ := (ha.below hw).int hl'.out hlt
      obtain ⟨b2, off2, x2, rfl, hbs2, hx2, c1⟩ := (hb.below hw).int hl'.out hlt
      rw [hx] at hx2
      obtain rfl := Option.some.inj hx2
      have hw' := hide hw
      have hlt' : (k : Int) < (n : Int) := by omega
      clear hx hw hx2
      go_wp2
      go_quiet (fail)
      go_wp2
      go_roundw
      case rel => exact ⟨k + 1, by omega, by go_num, below_drewN hw'.out _⟩
      case measure => simp [intOf]; omega
    · go_wp2
      go_ret
      exact ⟨rfl, hw⟩
theorem boxesW_full {l : List I} (h : items60 l = true) : boxesW l = (l.filter boxB).map (fun i => i.g.w) := by
  rw [boxesW_yes h rfl]
  unfold boxTo
  rw [List.take_length]
theorem items60_sub {l m : List I} (h : items60 l = true) (hs : List.Sublist m l) : items60 m = true := by
  have h1 := items60_true h
  have h2 := hs.length_le
  unfold items60 at h ⊢
  simp only [Bool.and_eq_true, decide_eq_true_eq, List.all_eq_true] at h ⊢
  exact ⟨fun x hx => h.1 x (hs.mem hx), by omega⟩
theorem boxes_parts {l : List I} (h : items60 l = true) (k : Nat) : boxesW l = boxesW (l.take k) ++ boxesW (l.drop k) := by
  rw [boxesW_full h, boxesW_full (items60_sub h (List.take_sublist k l)), boxesW_full (items60_sub h (List.drop_sublist k l)), ← List.map_append, ← List.filter_append, List.take_append_drop]
theorem boxesW_le {l : List I} : (boxesW l).length ≤ l.length := by
  unfold boxesW
  split
  · unfold boxTo
    rw [List.length_map, List.take_length]
    exact List.length_filter_le _ _
  · exact Nat.zero_le _
set_option maxHeartbeats 4000000 in
theorem walkFnBoxesOf (A0 : Option Addr) (n0 c0 : Nat) (l0 : List Int) (w : World) (w0a : n0 ≤ c0) (w0b : c0 ≤ maxLen) (w0c : List.length l0 = n0) (w0d : Rd w 1 A0 n0 (cellsB l0)) (w0e : ∀ z ∈ l0, 0 ≤ z ∧ z ≤ 255) :
    Calls Try.prog 16 #[.slice A0 n0 c0] w fun e w' => e = .returned (.bool true) ∧ Below w.heap.size w w' := by
  by_cases hbig : 1048576 < n0
  · have hd : decide (1048576 < (n0 : Int)) = true := by simp; omega
    clear w0a w0b w0c w0d w0e hbig
    go_enter Try.func16, Try.ntmps16
    go_wp2
    go_ret
    exact ⟨rfl, Below.refl _ _⟩
  · have hd : decide (1048576 < (n0 : Int)) = false := by simp; omega
    have hdraw := hide (drawBoxesO w A0 n0 c0 l0 w0c w0a (by omega) w0d w0e)
    clear w0a w0b w0c w0d w0e hbig
    go_enter Try.func16, Try.ntmps16
    go_wp2_with (fail)
    refine hdraw.out.mono ?_
    rintro e w1 ⟨L, v, n, rfl, hn, hL, hown, hb1⟩
    obtain ⟨A1, c1, rfl, hnc, hrd⟩ := own_form hown
    have hcm := own_cap hown
    have hb1' := hide hb1
    have hsz1 := hb1.size
    have hrd' := hide hrd
    have hL' := hide hL
    have hnm : n ≤ maxLen := by unfold maxLen; omega
    clear hdraw hb1 hown hL hrd
    have ci := hide (fun W B (d m : Nat) (M : List I) (h1 : m ≤ maxLen) (h2 : M.length = m) (h3 : Rd W 7 B m (cellsI M)) => implBoxes B m d M W h1 h2 h3)
    have cs := hide (fun W (h3 : Rd W 7 A1 n (cellsI L)) => specBoxes A1 n c1 L W hnm hL'.out h3)
    have cv := hide (fun W (h3 : Rd W 7 A1 n (cellsI L)) => specItems A1 n c1 L W hnm hL'.out h3)
    have hci := hide (ci.out w1 A1 c1 n L hnm hL'.out hrd'.out)
    obtain ⟨m, hm⟩ : ∃ m, (boxesW L).length = m := ⟨_, rfl⟩
    have hm' := hide hm
    have hmn := boxesW_le (l := L)
    rw [hm, hL'.out] at hmn
    clear hm
    go_wp2_with fail
    refine hci.out.mono ?_
    rintro e w2 ⟨v2, rfl, own2, hb2⟩
    rw [hm'.out] at own2
    obtain ⟨A2, c2, rfl, _, rd2⟩ := own_form own2
    have rd2' := hide rd2
    have bel2 := hide hb2
    have s2 := hb2.size
    clear own2 rd2 hb2 hci
    go_wp2_with fail
    refine (cs.out w2 (hrd'.out.below bel2.out)).mono ?_
    rintro e w3 ⟨v3, rfl, own3, hb3⟩
    rw [hm'.out] at own3
    obtain ⟨A3, c3, rfl, _, rd3⟩ := own_form own3
    have rd3' := hide rd3
    have rd2b := hide (rd2'.out.below hb3)
    have bel3 := hide (bel2.out.trans (hb3.mono s2))
    have s3 := bel3.out.size
    clear own3 rd3 hb3 bel2 rd2' cs
    go_wp2_with fail
    refine (sameIntsB A2 A3 m c2 c3 (boxesW L) w3 (by unfold maxLen; omega) hm'.out rd2b.out rd3'.out).mono ?_
    rintro e w4 ⟨rfl, hb4⟩
    have rd2c := hide (rd2b.out.below hb4)
    have bel4 := hide (bel3.out.trans (hb4.mono s3))
    have s4 := bel4.out.size
    clear hb4 rd2b rd3' bel3
    go_wp2_with fail
    refine (cv.out w4 (hrd'.out.below bel4.out)).mono ?_
    rintro e w5 ⟨rfl, hb5⟩
    have rd2d := hide (rd2c.out.below hb5)
    have bel5 := hide (bel4.out.trans (hb5.mono s4))
    have s5 := bel5.out.size
    clear hb5 rd2c bel4 cv
    cases hv : items60 L with
    | false =>
      have e0 := boxesW_no hv
      obtain rfl : m = 0 := by have := hm'.out; rw [e0] at this; simpa using this.symm
      have hend0 := hide (hb1'.out.trans (bel5.out.mono hsz1))
      have sh := hend0.out.size
      clear ci hm' rd2d bel5 hL' hrd' hb1' hv e0
      go_wp2_with fail
      refine (alive_any _).mono ?_
      rintro e w99 ⟨rfl, hb99⟩
      have hend := hide (hend0.out.trans (hb99.mono sh))
      clear hb99
      go_wp2
      go_ret
      exact ⟨rfl, hend.out⟩
    | true =>
      have hpart := hide (boxes_parts hv (n / 2))
      have hrd5 := hide (hrd'.out.below bel5.out)
      have hend0 := hide (hb1'.out.trans (bel5.out.mono hsz1))
      have hle : decide ((m : Int) ≤ (n : Int)) = true := decide_eq_true (by omega)
      have hle2 : decide (m ≤ n) = true := decide_eq_true hmn
      have hmn2 : n / 2 ≤ n := by omega
      have q1 : ((n : Int) / 2).toNat = n / 2 := by omega
      have q2 : (0 : Int) ≤ (n : Int) / 2 := by omega
      have q3 : (n : Int) / 2 ≤ (n : Int) := by omega
      have q5 : (n : Int) / 2 ≤ (c1 : Int) := by omega
      have htk := hide (rdI_take hrd5.out hmn2)
      have hdr := hide (rdI_drop hrd5.out hnc hmn2)
      have hLt : (L.take (n / 2)).length = n / 2 := by rw [List.length_take, hL'.out]; omega
      have hLd : (L.drop (n / 2)).length = n - n / 2 := by rw [List.length_drop, hL'.out]
      obtain ⟨i0, hi, hz0, hz1, hz2⟩ := info_parts int_info
      clear bel5 hrd' hb1' hv
      by_cases hn0 : n = 0
      · subst hn0
        obtain rfl : L = [] := List.length_eq_zero_iff.1 hL'.out
        have e0 : boxesW [] = [] := rfl
        obtain rfl : m = 0 := by have := hm'.out; rw [e0] at this; simpa using this.symm
        rw [e0] at rd2d
        have cb0 := hide (fun W B d => ci.out W B d 0 [] (Nat.zero_le _) rfl Rd.nil_)
        unfold RowB at cb0
        rw [e0] at cb0
        have hlen12 := hide (show ([] : List Int).length = 0 from rfl)
        have send0 := hend0.out.size
        clear hmn2 q1 q2 q3 q5 htk hdr hLt hLd hm' ci hpart e0 hrd5 hL' hle hle2
        by_cases hc0 : c1 = 0
        · subst hc0
          go_wp2
          go_region_held3 (fun W => Below w5.heap.size w5 W) (first | assumption | exact (Below.refl _ _).drew | exact Below.alloc (by assumption) (Below.size (by assumption)) _) (first | (have _own7 := own7; go_at_call 53; refine (cb0.out _ _ _).mono ?_; rintro e w8 ⟨v8, rfl, own8, hb8⟩; obtain ⟨A8, c8, rfl, _, rd8⟩ := own_form own8; have hS8 : Below w5.heap.size w5 w8 := Below.trans (by assumption) (hb8.mono (Below.size (by assumption)))) | (go_at_call 53; refine (cb0.out _ _ _).mono ?_; rintro e w6 ⟨v6, rfl, own6, hb6⟩; obtain ⟨A6, c6, rfl, _, rd6⟩ := own_form own6; have hS6 : Below w5.heap.size w5 w6 := Below.trans (by assumption) (hb6.mono (Below.size (by assumption)))) | (go_at_call 59; refine (sameIntsB _ _ 0 _ _ [] _ (by unfold maxLen; omega) hlen12.out (Rd.of_own own9) (rd2d.out.below hS9)).mono ?_; rintro e w10 ⟨rfl, hb10⟩; have hS10 : Below w5.heap.size w5 w10 := Below.trans (by assumption) (hb10.mono (Below.size (by assumption)))) | (refine step_append_is (.tmp 41) (.tmp 45) 60 rfl (by first | rfl | simp [Region.wanted, yielded]) (fun ho => ?_); refine wp_append_all _ ho w5.heap.size 3 i0 (.int .i64 0) 1 8 Try.underlying60 hi hz0 hz1 hz2 rfl (by decide) _ 0 (cellsN []) rfl (own_below own7 hb8) _ 0 _ rfl (cellsN []) rd8 (one_ints _) (by unfold maxLen; omega) (by omega) (Below.size (by assumption)) 0 (by omega) (cellsN []) (by simp [cellsN]) ?_; intro A9 c9 w9 own9 hg9 hk9; have hS9 : Below w5.heap.size w5 w9 := Below.grown (by assumption) hg9 (Below.size (by assumption)) hk9) | (refine step_append_is (.tmp 36) (.tmp 40) 60 rfl (by first | rfl | simp [Region.wanted, yielded]) (fun ho => ?_); refine wp_append_all _ ho w5.heap.size 3 i0 (.int .i64 0) 1 8 Try.underlying60 hi hz0 hz1 hz2 rfl (by decide) _ 0 [] rfl (by first | exact own_empty1 (Blk.new w6 _ _) (Below.size hS6) | exact own_below (own_empty1 (Blk.drew (Blk.new w5 _ _)) (Nat.le_refl _)) hb6) _ 0 _ rfl (cellsN []) (by first | exact rd6 | exact rd6.alloc _) (one_ints _) (by unfold maxLen; omega) (by omega) (Below.size (by assumption)) 0 (by omega) (cellsN []) (by simp [cellsN]) ?_; intro A7 c7 w7 own7 hg7 hk7; have hS7 : Below w5.heap.size w5 w7 := Below.grown (by assumption) hg7 (Below.size (by assumption)) hk7))
          all_goals
            go_wp2
            go_ret
            exact ⟨rfl, hend0.out.trans (hS10.mono send0)⟩
        · have hc1 : ¬ 0 = c1 := by omega
          go_wp2
          go_region_held3 (fun W => Below w5.heap.size w5 W) (first | assumption | exact (Below.refl _ _).drew | exact Below.alloc (by assumption) (Below.size (by assumption)) _) (first | (have _own7 := own7; go_at_call 53; refine (cb0.out _ _ _).mono ?_; rintro e w8 ⟨v8, rfl, own8, hb8⟩; obtain ⟨A8, c8, rfl, _, rd8⟩ := own_form own8; have hS8 : Below w5.heap.size w5 w8 := Below.trans (by assumption) (hb8.mono (Below.size (by assumption)))) | (go_at_call 53; refine (cb0.out _ _ _).mono ?_; rintro e w6 ⟨v6, rfl, own6, hb6⟩; obtain ⟨A6, c6, rfl, _, rd6⟩ := own_form own6; have hS6 : Below w5.heap.size w5 w6 := Below.trans (by assumption) (hb6.mono (Below.size (by assumption)))) | (go_at_call 59; refine (sameIntsB _ _ 0 _ _ [] _ (by unfold maxLen; omega) hlen12.out (Rd.of_own own9) (rd2d.out.below hS9)).mono ?_; rintro e w10 ⟨rfl, hb10⟩; have hS10 : Below w5.heap.size w5 w10 := Below.trans (by assumption) (hb10.mono (Below.size (by assumption)))) | (refine step_append_is (.tmp 41) (.tmp 45) 60 rfl (by first | rfl | simp [Region.wanted, yielded]) (fun ho => ?_); refine wp_append_all _ ho w5.heap.size 3 i0 (.int .i64 0) 1 8 Try.underlying60 hi hz0 hz1 hz2 rfl (by decide) _ 0 (cellsN []) rfl (own_below own7 hb8) _ 0 _ rfl (cellsN []) rd8 (one_ints _) (by unfold maxLen; omega) (by omega) (Below.size (by assumption)) 0 (by omega) (cellsN []) (by simp [cellsN]) ?_; intro A9 c9 w9 own9 hg9 hk9; have hS9 : Below w5.heap.size w5 w9 := Below.grown (by assumption) hg9 (Below.size (by assumption)) hk9) | (refine step_append_is (.tmp 36) (.tmp 40) 60 rfl (by first | rfl | simp [Region.wanted, yielded]) (fun ho => ?_); refine wp_append_all _ ho w5.heap.size 3 i0 (.int .i64 0) 1 8 Try.underlying60 hi hz0 hz1 hz2 rfl (by decide) _ 0 [] rfl (by first | exact own_empty1 (Blk.new w6 _ _) (Below.size hS6) | exact own_below (own_empty1 (Blk.drew (Blk.new w5 _ _)) (Nat.le_refl _)) hb6) _ 0 _ rfl (cellsN []) (by first | exact rd6 | exact rd6.alloc _) (one_ints _) (by unfold maxLen; omega) (by omega) (Below.size (by assumption)) 0 (by omega) (cellsN []) (by simp [cellsN]) ?_; intro A7 c7 w7 own7 hg7 hk7; have hS7 : Below w5.heap.size w5 w7 := Below.grown (by assumption) hg7 (Below.size (by assumption)) hk7))
          all_goals
            go_wp2
            go_ret
            exact ⟨rfl, hend0.out.trans (hS10.mono send0)⟩
      have hcc : ¬ c1 = n / 2 := by omega
      rw [if_neg hcc] at hdr
      obtain ⟨ba, offa, rfl, _, _⟩ := hrd5.out.2 (by omega)
      simp only [Option.map_some, addr_add] at hdr
      have cb1 := hide (fun W (hW : Below w5.heap.size w5 W) => ci.out W _ c1 (n / 2) (L.take (n / 2)) (by omega) hLt (htk.out.below hW))
      have cb2 := hide (fun W (hW : Below w5.heap.size w5 W) => ci.out W _ (c1 - n / 2) (n - n / 2) (L.drop (n / 2)) (by omega) hLd (hdr.out.below hW))
      generalize boxesW (L.take (n / 2)) = R1 at *
      generalize boxesW (L.drop (n / 2)) = R2 at *
      obtain ⟨k, hk⟩ : ∃ k, n / 2 = k := ⟨_, rfl⟩
      rw [hk] at q1 cb1 cb2 hcc
      have hm2 := hm'.out
      rw [hpart.out, List.length_append] at hm2
      rw [hpart.out] at rd2d
      unfold RowB at cb1 cb2
      obtain ⟨m1, hm1⟩ : ∃ m1, R1.length = m1 := ⟨_, rfl⟩
      obtain ⟨m2, hm2b⟩ : ∃ m2, R2.length = m2 := ⟨_, rfl⟩
      rw [hm1, hm2b] at hm2
      subst hm2
      rw [hm1] at cb1
      rw [hm2b] at cb2
      have hR1 := hide hm1
      have hR2 := hide hm2b
      have hle3 : decide ((m1 : Int) + (m2 : Int) ≤ (n : Int)) = true := decide_eq_true (by omega)
      have hlen12 := hide (show (R1 ++ R2).length = m1 + m2 by rw [List.length_append, hm1, hm2b])
      have send0 := hend0.out.size
      have h60 : m1 + m2 ≤ 62 := by omega
      clear hm1 hm2b hm' ci htk hdr hLt hLd hpart hk
      go_wp2
      go_region_held3 (fun W => Below w5.heap.size w5 W) (first | assumption | exact (Below.refl _ _).drew | exact Below.alloc (by assumption) (Below.size (by assumption)) _) (first | (have _own7 := own7; go_at_call 53; refine (cb2.out _ (by assumption)).mono ?_; rintro e w8 ⟨v8, rfl, own8, hb8⟩; obtain ⟨A8, c8, rfl, _, rd8⟩ := own_form own8; have hS8 : Below w5.heap.size w5 w8 := Below.trans (by assumption) (hb8.mono (Below.size (by assumption)))) | (go_at_call 53; refine (cb1.out _ (by assumption)).mono ?_; rintro e w6 ⟨v6, rfl, own6, hb6⟩; obtain ⟨A6, c6, rfl, _, rd6⟩ := own_form own6; have hS6 : Below w5.heap.size w5 w6 := Below.trans (by assumption) (hb6.mono (Below.size (by assumption)))) | (go_at_call 59; refine (sameIntsB _ _ (m1 + m2) _ _ (R1 ++ R2) _ (by unfold maxLen; omega) hlen12.out (Rd.of_own own9) (rd2d.out.below hS9)).mono ?_; rintro e w10 ⟨rfl, hb10⟩; have hS10 : Below w5.heap.size w5 w10 := Below.trans (by assumption) (hb10.mono (Below.size (by assumption)))) | (refine step_append_is (.tmp 41) (.tmp 45) 60 rfl (by first | rfl | simp [Region.wanted, yielded]) (fun ho => ?_); refine wp_append_all _ ho w5.heap.size 3 i0 (.int .i64 0) 1 8 Try.underlying60 hi hz0 hz1 hz2 rfl (by decide) _ m1 (cellsN R1) rfl (own_below own7 hb8) _ m2 _ rfl (cellsN R2) rd8 (one_ints _) (by unfold maxLen; omega) (by omega) (Below.size (by assumption)) (m1 + m2) (by omega) (cellsN (R1 ++ R2)) (by simp [cellsN]) ?_; intro A9 c9 w9 own9 hg9 hk9; have hS9 : Below w5.heap.size w5 w9 := Below.grown (by assumption) hg9 (Below.size (by assumption)) hk9) | (refine step_append_is (.tmp 36) (.tmp 40) 60 rfl (by first | rfl | simp [Region.wanted, yielded]) (fun ho => ?_); refine wp_append_all _ ho w5.heap.size 3 i0 (.int .i64 0) 1 8 Try.underlying60 hi hz0 hz1 hz2 rfl (by decide) _ 0 [] rfl (by first | exact own_empty1 (Blk.new w6 _ _) (Below.size hS6) | exact own_below (own_empty1 (Blk.drew (Blk.new w5 _ _)) (Nat.le_refl _)) hb6) _ m1 _ rfl (cellsN R1) (by first | exact rd6 | exact rd6.alloc _) (one_ints _) (by unfold maxLen; omega) (by omega) (Below.size (by assumption)) m1 (by omega) (cellsN R1) (by simp [cellsN]) ?_; intro A7 c7 w7 own7 hg7 hk7; have hS7 : Below w5.heap.size w5 w7 := Below.grown (by assumption) hg7 (Below.size (by assumption)) hk7))
      all_goals
        go_wp2
        go_ret
        exact ⟨rfl, hend0.out.trans (hS10.mono send0)⟩
end Go.Proofs.Ytocaonlmlafjmaa
