/- The walk through the law of the totals of parts. No condition. -/
import Derived.Test.YtoiacijjbehioaaArgs
import Derived.Test.YtoiacijjbehioaaDrGl2
import Derived.Test.YtoiacijjbehioaaGlMath
import Derived.Test.YtoiacijjbehioaaSub
import Derived.Deep.RegionHeld3
namespace Go.Proofs.Ytoiacijjbehioaa
open Go.RowKit
set_option linter.unusedVariables false
set_option linter.unusedSimpArgs false
set_option maxRecDepth 100000

def okTo (L : List G) (k : Nat) : Bool := decide (L.length ≤ 60) && (L.take k).all glueOk
theorem okTo_zero (L : List G) : okTo L 0 = decide (L.length ≤ 60) := by simp [okTo]
theorem okTo_step {L : List G} {k : Nat} {g : G} (h : L[k]? = some g) : okTo L (k + 1) = (okTo L k && glueOk g) := by
  unfold okTo
  rw [all_snoc _ _ _ _ h, Bool.and_assoc]
theorem okTo_all {L : List G} {n : Nat} (h : L.length = n) : okTo L n = glues60 L := by
  unfold okTo glues60
  rw [List.take_of_length_le (by omega), Bool.and_comm]
theorem GT_bd {L : List G} (h : glues60 L = true) : (0 ≤ (GT L).w ∧ (GT L).w ≤ 60000) ∧ (0 ≤ (GT L).sh ∧ (GT L).sh ≤ 60000) := by
  rw [GT_yes h]
  have hb := totG_bd (glues60_ok h).1
  have hl := (glues60_ok h).2
  have hl' : (1000 : Int) * L.length ≤ 60000 := by omega
  omega
set_option maxHeartbeats 8000000 in
theorem walkFnGlueParts (A0 : Option Addr) (n0 c0 : Nat) (l0 : List Int) (w : World) (w0a : n0 ≤ c0) (w0b : c0 ≤ maxLen) (w0c : List.length l0 = n0) (w0d : Rd w 1 A0 n0 (cellsB l0)) (w0e : ∀ z ∈ l0, 0 ≤ z ∧ z ≤ 255) :
    Calls Try.prog 8 #[.slice A0 n0 c0] w fun e w' => e = .returned (.bool true) ∧ Below w.heap.size w w' := by
  by_cases hbig : 1048576 < n0
  · have hd : decide (1048576 < (n0 : Int)) = true := by simp; omega
    clear w0a w0b w0c w0d w0e hbig
    go_enter Try.func8, Try.ntmps8
    go_wp2
    go_ret
    exact ⟨rfl, Below.refl _ _⟩
  · have hd : decide (1048576 < (n0 : Int)) = false := by simp; omega
    have hdraw := hide (drawGT w A0 n0 c0 l0 w0c w0a (by omega) w0d w0e)
    clear w0a w0b w0c w0d w0e hbig
    go_enter Try.func8, Try.ntmps8
    go_wp2_with (fail)
    refine hdraw.out.mono ?_
    rintro e w1 ⟨L, v, n, rfl, hn, hL, hLb, hown, hb1⟩
    obtain ⟨A1, c1, rfl, hnc, hrd⟩ := own_form hown
    have hb1' := hide hb1
    have hsz1 := hb1.size
    have hrd' := hide hrd
    have hL' := hide hL
    have hnm : n ≤ maxLen := by unfold maxLen; omega
    clear hdraw hb1 hown hLb hL hrd
    have ci := hide (fun W (M : List G) B m d (h1 : m ≤ maxLen) (h2 : List.length M = m) (h3 : Rd W 4 B m (cellsG M)) => implGT B m d M W h1 h2 h3)
    have cs := hide (fun W (h3 : Rd W 4 A1 n (cellsG L)) => specGT A1 n c1 L W hnm hL'.out h3)
    go_wp2_with fail
    refine (ci.out w1 L A1 n c1 hnm hL'.out hrd'.out).mono ?_
    rintro e w2 ⟨rfl, hb2⟩
    have hk2 := hide (Blk.new w2 26 #[.int .i64 (GT L).w, .int .i64 (GT L).st, .int .i64 (GT L).sh, .int .i64 (GT L).o])
    have hs2 := hb2.size
    have bel2 := hide ((hb2.alloc hb2.size (.cells #[.int .i64 (GT L).w, .int .i64 (GT L).st, .int .i64 (GT L).sh, .int .i64 (GT L).o] 26)))
    clear hb2
    go_wp2_with fail
    obtain ⟨g, hg⟩ : ∃ g, g = w2.heap.size := ⟨_, rfl⟩
    rw [← hg] at hk2 ⊢
    have hgs : w1.heap.size ≤ g := by omega
    generalize w2.alloc (.cells #[.int .i64 (GT L).w, .int .i64 (GT L).st, .int .i64 (GT L).sh, .int .i64 (GT L).o] 26) = wb at hk2 bel2 ⊢
    clear hg hs2
    obtain ⟨k0, k1, k2, k3, f0, f1, f2, f3⟩ := hk2.out.c4
    have hgl := hk2.out.lt
    have rdb := hide (hrd'.out.below bel2.out)
    go_region_held3 (fun W => W.cell? ⟨g, 0, none⟩ = some (.int .i64 (GT L).w) ∧ W.cell? ⟨g, 1, none⟩ = some (.int .i64 (GT L).st) ∧ W.cell? ⟨g, 2, none⟩ = some (.int .i64 (GT L).sh) ∧ W.cell? ⟨g, 3, none⟩ = some (.int .i64 (GT L).o) ∧ Below wb.heap.size wb W) (first | exact ⟨k0, k1, k2, k3, (Below.refl _ _).drew⟩ | assumption | (go_split_ands; refine ⟨((bcell hb3).1 _ _ (Nat.lt_of_lt_of_le hgl (Below.size (w := wb) (B := wb.heap.size) (by assumption)))).trans (by assumption), ((bcell hb3).1 _ _ (Nat.lt_of_lt_of_le hgl (Below.size (w := wb) (B := wb.heap.size) (by assumption)))).trans (by assumption), ((bcell hb3).1 _ _ (Nat.lt_of_lt_of_le hgl (Below.size (w := wb) (B := wb.heap.size) (by assumption)))).trans (by assumption), ((bcell hb3).1 _ _ (Nat.lt_of_lt_of_le hgl (Below.size (w := wb) (B := wb.heap.size) (by assumption)))).trans (by assumption), Below.trans (by assumption) (hb3.mono (Below.size (by assumption)))⟩)) ((go_at_call 25; refine (cs.out _ (rdb.out.below (by first | assumption | exact (Below.refl _ _).drew))).mono ?_; rintro e w3 ⟨rfl, hb3⟩))
    all_goals
      have bel3 := hide (bel2.out.trans (((Below.refl wb.heap.size wb).drew.trans hb3).mono bel2.out.size))
      have hk3 := hide ((Blk.drew hk2.out).below' hb3)
      have hgl3 := hk3.out.lt
      have hgs3 := Nat.le_trans hgs (Nat.le_of_lt hgl3)
      clear hb3 hk2 bel2 k0 k1 k2 k3 f0 f1 f2 f3 hgl rdb
      have hmn : n / 2 ≤ n := by omega
      have q1 : ((n : Int) / 2).toNat = n / 2 := by omega
      have q2 : (0 : Int) ≤ (n : Int) / 2 := by omega
      have q3 : (n : Int) / 2 ≤ (n : Int) := by omega
      have q5 : (n : Int) / 2 ≤ (c1 : Int) := by omega
      have htk := hide (rdG_take hrd'.out hmn)
      have hdr := hide (rdG_drop hrd'.out hnc hmn)
      have hLt : (L.take (n / 2)).length = n / 2 := by rw [List.length_take, hL'.out]; omega
      have hLd : (L.drop (n / 2)).length = n - n / 2 := by rw [List.length_drop, hL'.out]
      by_cases hn0 : n = 0
      · subst hn0
        obtain rfl : L = [] := List.length_eq_zero_iff.1 hL'.out
        clear hmn q1 q2 q3 q5 htk hdr hLt hLd
        by_cases hc0 : c1 = 0
        · subst hc0
          go_wp2_with fail
          refine (ci.out w3 [] _ 0 _ (Nat.zero_le _) rfl Rd.nil_).mono ?_
          rintro e w4 ⟨rfl, hb4⟩
          have hs4 := Nat.le_trans hgs3 hb4.size
          have hk4 := Blk.new w4 26 #[.int .i64 (GT []).w, .int .i64 (GT []).st, .int .i64 (GT []).sh, .int .i64 (GT []).o]
          have bel4 := hide ((bel3.out.trans (hb4.mono hgs3)).alloc hs4 (.cells #[.int .i64 (GT []).w, .int .i64 (GT []).st, .int .i64 (GT []).sh, .int .i64 (GT []).o] 26))
          have hk3b := (hk3.out.below' hb4).alloc (.cells #[.int .i64 (GT []).w, .int .i64 (GT []).st, .int .i64 (GT []).sh, .int .i64 (GT []).o] 26)
          have hgd : g < w4.heap.size := Nat.lt_of_lt_of_le hgl3 hb4.size
          clear hb4
          go_wp2_with fail
          generalize w4.heap.size = d at hk4 hgd hs4 ⊢
          generalize w4.alloc (.cells #[.int .i64 (GT []).w, .int .i64 (GT []).st, .int .i64 (GT []).sh, .int .i64 (GT []).o] 26) = wc at hk4 bel4 hk3b ⊢
          have hs4c := bel4.out.size
          refine (ci.out wc [] _ 0 _ (Nat.zero_le _) rfl Rd.nil_).mono ?_
          rintro e w5 ⟨rfl, hb5⟩
          have hk5 := Blk.new w5 26 #[.int .i64 (GT []).w, .int .i64 (GT []).st, .int .i64 (GT []).sh, .int .i64 (GT []).o]
          have hs5 := Nat.le_trans hs4c hb5.size
          have bel5 := hide ((bel4.out.trans (hb5.mono hs4c)).alloc hs5 (.cells #[.int .i64 (GT []).w, .int .i64 (GT []).st, .int .i64 (GT []).sh, .int .i64 (GT []).o] 26))
          have hk4b := (hk4.below' hb5).alloc (.cells #[.int .i64 (GT []).w, .int .i64 (GT []).st, .int .i64 (GT []).sh, .int .i64 (GT []).o] 26)
          have hk3c := (hk3b.below' hb5).alloc (.cells #[.int .i64 (GT []).w, .int .i64 (GT []).st, .int .i64 (GT []).sh, .int .i64 (GT []).o] 26)
          have hdd : d < w5.heap.size := Nat.lt_of_lt_of_le hk4.lt hb5.size
          clear hb5 hk4 hk3b
          have hbe5 := hide (show Below w1.heap.size w1 _ from bel5.out)
          have hk3' := hide hk3c
          have hk4' := hide hk4b
          have hk5' := hide hk5
          clear hk3c hk4b hk5 bel5 bel4 bel3 hk3
          go_wp2
          generalize w5.alloc (.cells #[.int .i64 (GT []).w, .int .i64 (GT []).st, .int .i64 (GT []).sh, .int .i64 (GT []).o] 26) = we at hk3' hk4' hk5' hbe5 ⊢
          generalize w5.heap.size = f at hk5' hdd ⊢
          have hwe := hbe5.out.size
          have hlt5 := hk5'.out.lt
          go_loopw [8, 9] (fun q i wr => ∃ k : Nat, k ≤ 0 ∧ i = .int .i64 k ∧ q = .bool (okTo [] k) ∧ Below we.heap.size we wr) (fun _ i _ => 0 - (intOf i).toNat)
          case atStart => exact ⟨0, Nat.zero_le _, rfl, by rw [okTo_zero]; first | rfl | (rw [hL'.out]; exact congrArg Value.bool (decide_eq_decide.2 (by omega))), Below.refl _ _⟩
          case round =>
            obtain ⟨k, hk, rfl, rfl, hbl⟩ := hrel
            have hbl' := hide hbl
            have hws := hbl.size
            by_cases hlt : k < 0
            · exact absurd hlt (by omega)
            · obtain rfl : k = 0 := by omega
              have eA := okTo_all hL'.out
              rw [eA]
              have hend0 := hide (hb1'.out.trans ((hbe5.out.trans (hbl.mono hwe)).mono hsz1))
              have hse := hend0.out.size
              have hx3 := hk3'.out.below hbl (by omega)
              have hx4 := hk4'.out.below hbl (by omega)
              have hx5 := hk5'.out.below hbl (by omega)
              obtain ⟨a0, a1, a2, a3, a4, a5, a6, a7⟩ := hx3.c4
              obtain ⟨b0, b1, b2, b3, b4, b5, b6, b7⟩ := hx4.c4
              obtain ⟨f0, f1, f2, f3, f4, f5, f6, f7⟩ := hx5.c4
              clear hbl eA hx3 hx4 hx5 hbl'
              cases hv : glues60 [] with
              | false =>
                go_wp2_with fail
                refine (alive_any _).mono ?_
                rintro e w99 ⟨rfl, hb99⟩
                have hend := hide (hend0.out.trans (hb99.mono hse))
                clear hb99
                go_wp2
                go_ret
                exact ⟨rfl, hend.out⟩
              | true =>
                have hp := GT_parts hv (0 / 2)
                have hp1 := hide hp.1
                have hp2 := hide hp.2.1
                have hp3 := hide hp.2.2
                have t1 := GT_bd (glues60_take hv (0 / 2))
                have t2 := GT_bd (glues60_drop hv (0 / 2))
                simp only [List.take_nil, List.drop_nil] at hp1 hp2 hp3 t1 t2
                clear hp hv
                have m1 : ((GT []).w + (GT []).w == (GT []).w) = true := by rw [hp1.out]; simp
                have m2 : ((GT []).sh + (GT []).sh == (GT []).sh) = true := by rw [hp2.out]; simp
                clear hp1 hp2
                have m4 : ((GT []).o == (GT []).o) = true := by simp
                clear hp3
                go_wp2
                go_ret
                exact ⟨by first | rfl | (show Ending.returned (Value.bool _) = _; rw [m4]), hend0.out⟩
        · have hc1 : ¬ 0 = c1 := by omega
          go_wp2_with fail
          refine (ci.out w3 [] _ 0 _ (Nat.zero_le _) rfl Rd.nil_).mono ?_
          rintro e w4 ⟨rfl, hb4⟩
          have hs4 := Nat.le_trans hgs3 hb4.size
          have hk4 := Blk.new w4 26 #[.int .i64 (GT []).w, .int .i64 (GT []).st, .int .i64 (GT []).sh, .int .i64 (GT []).o]
          have bel4 := hide ((bel3.out.trans (hb4.mono hgs3)).alloc hs4 (.cells #[.int .i64 (GT []).w, .int .i64 (GT []).st, .int .i64 (GT []).sh, .int .i64 (GT []).o] 26))
          have hk3b := (hk3.out.below' hb4).alloc (.cells #[.int .i64 (GT []).w, .int .i64 (GT []).st, .int .i64 (GT []).sh, .int .i64 (GT []).o] 26)
          have hgd : g < w4.heap.size := Nat.lt_of_lt_of_le hgl3 hb4.size
          clear hb4
          go_wp2_with fail
          generalize w4.heap.size = d at hk4 hgd hs4 ⊢
          generalize w4.alloc (.cells #[.int .i64 (GT []).w, .int .i64 (GT []).st, .int .i64 (GT []).sh, .int .i64 (GT []).o] 26) = wc at hk4 bel4 hk3b ⊢
          have hs4c := bel4.out.size
          refine (ci.out wc [] _ 0 _ (Nat.zero_le _) rfl Rd.nil_).mono ?_
          rintro e w5 ⟨rfl, hb5⟩
          have hk5 := Blk.new w5 26 #[.int .i64 (GT []).w, .int .i64 (GT []).st, .int .i64 (GT []).sh, .int .i64 (GT []).o]
          have hs5 := Nat.le_trans hs4c hb5.size
          have bel5 := hide ((bel4.out.trans (hb5.mono hs4c)).alloc hs5 (.cells #[.int .i64 (GT []).w, .int .i64 (GT []).st, .int .i64 (GT []).sh, .int .i64 (GT []).o] 26))
          have hk4b := (hk4.below' hb5).alloc (.cells #[.int .i64 (GT []).w, .int .i64 (GT []).st, .int .i64 (GT []).sh, .int .i64 (GT []).o] 26)
          have hk3c := (hk3b.below' hb5).alloc (.cells #[.int .i64 (GT []).w, .int .i64 (GT []).st, .int .i64 (GT []).sh, .int .i64 (GT []).o] 26)
          have hdd : d < w5.heap.size := Nat.lt_of_lt_of_le hk4.lt hb5.size
          clear hb5 hk4 hk3b
          have hbe5 := hide (show Below w1.heap.size w1 _ from bel5.out)
          have hk3' := hide hk3c
          have hk4' := hide hk4b
          have hk5' := hide hk5
          clear hk3c hk4b hk5 bel5 bel4 bel3 hk3
          go_wp2
          generalize w5.alloc (.cells #[.int .i64 (GT []).w, .int .i64 (GT []).st, .int .i64 (GT []).sh, .int .i64 (GT []).o] 26) = we at hk3' hk4' hk5' hbe5 ⊢
          generalize w5.heap.size = f at hk5' hdd ⊢
          have hwe := hbe5.out.size
          have hlt5 := hk5'.out.lt
          go_loopw [8, 9] (fun q i wr => ∃ k : Nat, k ≤ 0 ∧ i = .int .i64 k ∧ q = .bool (okTo [] k) ∧ Below we.heap.size we wr) (fun _ i _ => 0 - (intOf i).toNat)
          case atStart => exact ⟨0, Nat.zero_le _, rfl, by rw [okTo_zero]; first | rfl | (rw [hL'.out]; exact congrArg Value.bool (decide_eq_decide.2 (by omega))), Below.refl _ _⟩
          case round =>
            obtain ⟨k, hk, rfl, rfl, hbl⟩ := hrel
            have hbl' := hide hbl
            have hws := hbl.size
            by_cases hlt : k < 0
            · exact absurd hlt (by omega)
            · obtain rfl : k = 0 := by omega
              have eA := okTo_all hL'.out
              rw [eA]
              have hend0 := hide (hb1'.out.trans ((hbe5.out.trans (hbl.mono hwe)).mono hsz1))
              have hse := hend0.out.size
              have hx3 := hk3'.out.below hbl (by omega)
              have hx4 := hk4'.out.below hbl (by omega)
              have hx5 := hk5'.out.below hbl (by omega)
              obtain ⟨a0, a1, a2, a3, a4, a5, a6, a7⟩ := hx3.c4
              obtain ⟨b0, b1, b2, b3, b4, b5, b6, b7⟩ := hx4.c4
              obtain ⟨f0, f1, f2, f3, f4, f5, f6, f7⟩ := hx5.c4
              clear hbl eA hx3 hx4 hx5 hbl'
              cases hv : glues60 [] with
              | false =>
                go_wp2_with fail
                refine (alive_any _).mono ?_
                rintro e w99 ⟨rfl, hb99⟩
                have hend := hide (hend0.out.trans (hb99.mono hse))
                clear hb99
                go_wp2
                go_ret
                exact ⟨rfl, hend.out⟩
              | true =>
                have hp := GT_parts hv (0 / 2)
                have hp1 := hide hp.1
                have hp2 := hide hp.2.1
                have hp3 := hide hp.2.2
                have t1 := GT_bd (glues60_take hv (0 / 2))
                have t2 := GT_bd (glues60_drop hv (0 / 2))
                simp only [List.take_nil, List.drop_nil] at hp1 hp2 hp3 t1 t2
                clear hp hv
                have m1 : ((GT []).w + (GT []).w == (GT []).w) = true := by rw [hp1.out]; simp
                have m2 : ((GT []).sh + (GT []).sh == (GT []).sh) = true := by rw [hp2.out]; simp
                clear hp1 hp2
                have m4 : ((GT []).o == (GT []).o) = true := by simp
                clear hp3
                go_wp2
                go_ret
                exact ⟨by first | rfl | (show Ending.returned (Value.bool _) = _; rw [m4]), hend0.out⟩
      have hcc : ¬ c1 = n / 2 := by omega
      rw [if_neg hcc] at hdr
      obtain ⟨ba, offa, rfl, _, _⟩ := hrd'.out.2 (by omega)
      simp only [Option.map_some, addr_add] at hdr
      go_wp2_with fail
      refine (ci.out w3 (L.take (n / 2)) _ (n / 2) c1 (by omega) hLt (htk.out.below bel3.out)).mono ?_
      rintro e w4 ⟨rfl, hb4⟩
      have hs4 := Nat.le_trans hgs3 hb4.size
      have hk4 := Blk.new w4 26 #[.int .i64 (GT (L.take (n / 2))).w, .int .i64 (GT (L.take (n / 2))).st, .int .i64 (GT (L.take (n / 2))).sh, .int .i64 (GT (L.take (n / 2))).o]
      have bel4 := hide ((bel3.out.trans (hb4.mono hgs3)).alloc hs4 (.cells #[.int .i64 (GT (L.take (n / 2))).w, .int .i64 (GT (L.take (n / 2))).st, .int .i64 (GT (L.take (n / 2))).sh, .int .i64 (GT (L.take (n / 2))).o] 26))
      have hk3b := (hk3.out.below' hb4).alloc (.cells #[.int .i64 (GT (L.take (n / 2))).w, .int .i64 (GT (L.take (n / 2))).st, .int .i64 (GT (L.take (n / 2))).sh, .int .i64 (GT (L.take (n / 2))).o] 26)
      have hgd : g < w4.heap.size := Nat.lt_of_lt_of_le hgl3 hb4.size
      clear hb4
      go_wp2_with fail
      generalize w4.heap.size = d at hk4 hgd hs4 ⊢
      generalize w4.alloc (.cells #[.int .i64 (GT (L.take (n / 2))).w, .int .i64 (GT (L.take (n / 2))).st, .int .i64 (GT (L.take (n / 2))).sh, .int .i64 (GT (L.take (n / 2))).o] 26) = wc at hk4 bel4 hk3b ⊢
      have hs4c := bel4.out.size
      refine (ci.out wc (L.drop (n / 2)) _ (n - n / 2) (c1 - n / 2) (by omega) hLd (hdr.out.below bel4.out)).mono ?_
      rintro e w5 ⟨rfl, hb5⟩
      have hk5 := Blk.new w5 26 #[.int .i64 (GT (L.drop (n / 2))).w, .int .i64 (GT (L.drop (n / 2))).st, .int .i64 (GT (L.drop (n / 2))).sh, .int .i64 (GT (L.drop (n / 2))).o]
      have hs5 := Nat.le_trans hs4c hb5.size
      have bel5 := hide ((bel4.out.trans (hb5.mono hs4c)).alloc hs5 (.cells #[.int .i64 (GT (L.drop (n / 2))).w, .int .i64 (GT (L.drop (n / 2))).st, .int .i64 (GT (L.drop (n / 2))).sh, .int .i64 (GT (L.drop (n / 2))).o] 26))
      have hk4b := (hk4.below' hb5).alloc (.cells #[.int .i64 (GT (L.drop (n / 2))).w, .int .i64 (GT (L.drop (n / 2))).st, .int .i64 (GT (L.drop (n / 2))).sh, .int .i64 (GT (L.drop (n / 2))).o] 26)
      have hk3c := (hk3b.below' hb5).alloc (.cells #[.int .i64 (GT (L.drop (n / 2))).w, .int .i64 (GT (L.drop (n / 2))).st, .int .i64 (GT (L.drop (n / 2))).sh, .int .i64 (GT (L.drop (n / 2))).o] 26)
      have hdd : d < w5.heap.size := Nat.lt_of_lt_of_le hk4.lt hb5.size
      clear hb5 hk4 hk3b
      have hbe5 := hide (show Below w1.heap.size w1 _ from bel5.out)
      have hk3' := hide hk3c
      have hk4' := hide hk4b
      have hk5' := hide hk5
      clear hk3c hk4b hk5 bel5 bel4 bel3 hk3
      go_wp2
      generalize w5.alloc (.cells #[.int .i64 (GT (L.drop (n / 2))).w, .int .i64 (GT (L.drop (n / 2))).st, .int .i64 (GT (L.drop (n / 2))).sh, .int .i64 (GT (L.drop (n / 2))).o] 26) = we at hk3' hk4' hk5' hbe5 ⊢
      generalize w5.heap.size = f at hk5' hdd ⊢
      have hwe := hbe5.out.size
      have hlt5 := hk5'.out.lt
      go_loopw [8, 9] (fun q i wr => ∃ k : Nat, k ≤ n ∧ i = .int .i64 k ∧ q = .bool (okTo L k) ∧ Below we.heap.size we wr) (fun _ i _ => n - (intOf i).toNat)
      case atStart => exact ⟨0, Nat.zero_le _, rfl, by rw [okTo_zero]; first | rfl | (rw [hL'.out]; exact congrArg Value.bool (decide_eq_decide.2 (by omega))), Below.refl _ _⟩
      case round =>
        obtain ⟨k, hk, rfl, rfl, hbl⟩ := hrel
        have hbl' := hide hbl
        have hws := hbl.size
        by_cases hlt : k < n
        · obtain ⟨b, off, x, hA9, hbk, hx, c0, c1', c2, c3⟩ := (hrd'.out.below (hbe5.out.trans (hbl.mono hwe))).glue hL'.out hlt
          injection hA9 with hA9
          injection hA9 with hA91 hA92
          subst hA91
          subst hA92
          have eO := hide (okTo_step hx)
          have hlti : (k : Int) < (n : Int) := by omega
          clear hx hbl
          cases hv : okTo L k with
          | false =>
            rw [hv, Bool.false_and] at eO
            go_wp2
            go_roundw
            case rel => exact ⟨k + 1, by omega, by go_num, by rw [eO.out], hbl'.out⟩
            case measure => (simp [intOf] <;> omega)
          | true =>
            rw [hv, Bool.true_and] at eO
            go_wp2_with fail
            refine (specGlueValid x _).mono ?_
            rintro e w6 ⟨rfl, hb6⟩
            have hfin := hide (hbl'.out.trans (hb6.mono hws))
            clear hb6
            go_wp2
            go_roundw
            case rel => exact ⟨k + 1, by omega, by go_num, by rw [eO.out], hfin.out⟩
            case measure => (simp [intOf] <;> omega)
        · obtain rfl : n = k := by omega
          have eA := okTo_all hL'.out
          rw [eA]
          have hend0 := hide (hb1'.out.trans ((hbe5.out.trans (hbl.mono hwe)).mono hsz1))
          have hse := hend0.out.size
          have hx3 := hk3'.out.below hbl (by omega)
          have hx4 := hk4'.out.below hbl (by omega)
          have hx5 := hk5'.out.below hbl (by omega)
          obtain ⟨a0, a1, a2, a3, a4, a5, a6, a7⟩ := hx3.c4
          obtain ⟨b0, b1, b2, b3, b4, b5, b6, b7⟩ := hx4.c4
          obtain ⟨f0, f1, f2, f3, f4, f5, f6, f7⟩ := hx5.c4
          clear hbl eA hx3 hx4 hx5 hbl'
          cases hv : glues60 L with
          | false =>
            go_wp2_with fail
            refine (alive_any _).mono ?_
            rintro e w99 ⟨rfl, hb99⟩
            have hend := hide (hend0.out.trans (hb99.mono hse))
            clear hb99
            go_wp2
            go_ret
            exact ⟨rfl, hend.out⟩
          | true =>
            have hp := GT_parts hv (n / 2)
            have hp1 := hide hp.1
            have hp2 := hide hp.2.1
            have hp3 := hide hp.2.2
            have t1 := GT_bd (glues60_take hv (n / 2))
            have t2 := GT_bd (glues60_drop hv (n / 2))
            clear hp hv
            have m1 : ((GT (L.take (n / 2))).w + (GT (L.drop (n / 2))).w == (GT L).w) = true := by rw [hp1.out]; simp
            have m2 : ((GT (L.take (n / 2))).sh + (GT (L.drop (n / 2))).sh == (GT L).sh) = true := by rw [hp2.out]; simp
            clear hp1 hp2
            by_cases hmx : (GT (L.take (n / 2))).o < (GT (L.drop (n / 2))).o
            · have m4 : ((GT L).o == (GT (L.drop (n / 2))).o) = true := by rw [hp3.out]; first | (simp; done) | (simp; omega)
              clear hp3
              go_wp2
              go_ret
              exact ⟨by first | rfl | (show Ending.returned (Value.bool _) = _; rw [m4]), hend0.out⟩
            · have m4 : ((GT L).o == (GT (L.take (n / 2))).o) = true := by rw [hp3.out]; first | (simp; done) | (simp; omega)
              clear hp3
              go_wp2
              go_ret
              exact ⟨by first | rfl | (show Ending.returned (Value.bool _) = _; rw [m4]), hend0.out⟩
end Go.Proofs.Ytoiacijjbehioaa
