/- The walks through the exact laws of a line's glue and badness. Condition: the slice reads as the list of items. -/
import Derived.Test.YtocaonlmlafjmaaLBad
import Derived.Test.YtocaonlmlafjmaaExI
import Derived.Test.YtocaonlmlafjmaaKCore
namespace Go.Proofs.Ytocaonlmlafjmaa
open Go.RowKit
set_option linter.unusedVariables false
set_option linter.unusedSimpArgs false
set_option maxRecDepth 100000

theorem eqGlueL (g : G) (w : World) :
    Calls Try.prog 62 #[.agg #[.int .i64 (g).w, .int .i64 (g).st, .int .i64 (g).sh, .int .i64 (g).o], .agg #[.int .i64 (g).w, .int .i64 (g).st, .int .i64 (g).sh, .int .i64 (g).o]] w fun e w' => e = .returned (.bool true) ∧ Below w.heap.size w w' := by
  go_enter Try.func62, Try.ntmps62
  go_wp2
  go_ret
  refine ⟨rfl, ?_⟩
  (repeat (first | exact Below.refl _ _ | assumption | refine Below.alloc ?_ (by first | assumption | omega | (simp; done) | (simp; omega)) _ | refine Below.setCell ?_ (by first | assumption | omega | (simp; done) | (simp; omega)) _ | refine below_drewN ?_ _ | refine Below.drew ?_))
set_option maxHeartbeats 2000000 in
theorem walkFnExactLineGlue (A0 : Option Addr) (n0 c0 : Nat) (l0 : List I) (a1 : Int) (a2 : Int) (w : World) (w0a : n0 ≤ c0) (w0b : c0 ≤ maxLen) (w0c : List.length l0 = n0) (w0d : Rd w 7 A0 n0 (cellsI l0)) (w1 : (Lit.int .i64 a1).wf = true) (w2 : (Lit.int .i64 a2).wf = true) :
    Calls Try.prog 17 #[.slice A0 n0 c0, .int .i64 a1, .int .i64 a2] w fun e w' => e = .returned (.bool true) ∧ Below w.heap.size w w' := by
  clear w1 w2
  have hl := hide w0c
  have hm : n0 ≤ maxLen := by omega
  clear w0a w0b w0c
  have hsz := hide (szItemS_any A0 n0 c0 w hm)
  have hsc : (cellsI l0).length = n0 * 7 := by rw [len_cellsI, hl.out]
  by_cases hq : 1048576 < n0
  · rw [if_neg (by omega)] at hsz
    go_enter Try.func17, Try.ntmps17
    go_wp2_with fail
    refine hsz.out.mono ?_
    rintro e w' ⟨rfl, rfl⟩
    go_wp2
    go_ret
    exact ⟨rfl, Below.refl _ _⟩
  have hqn : n0 ≤ 1048576 := by omega
  rw [if_pos hqn] at hsz
  have hdz : decide (1048576 - (n0 : Int) < 0) = false := decide_eq_false (by omega)
  clear hq
  go_enter Try.func17, Try.ntmps17
  go_wp2_with fail
  refine hsz.out.mono ?_
  rintro e w' ⟨rfl, rfl⟩
  go_wp2_with fail
  refine (toItemS_any A0 n0 c0 l0 _ hqn hl.out w0d).mono ?_
  rintro e w1 ⟨g1, rfl, hg1, hk1, hb1⟩
  have rd1 := hide (Rd.of_blk hk1 hsc)
  have bel1 := hide hb1
  have s1 := hb1.size
  clear hk1 hb1 hg1
  go_wp2_with fail
  refine (specLG _ n0 n0 l0 a1 a2 _ hm hl.out rd1.out).mono ?_
  rintro e w2 ⟨rfl, hb2⟩
  have bel2 := (bel1.out.trans (hb2.mono s1))
  have bG := Blk.new w2 27 #[.int .i64 (lineG l0 a1 a2).w, .int .i64 (lineG l0 a1 a2).st, .int .i64 (lineG l0 a1 a2).sh, .int .i64 (lineG l0 a1 a2).o]
  have hg2 := bel2.size
  have bel2b := hide (bel2.alloc hg2 (.cells #[.int .i64 (lineG l0 a1 a2).w, .int .i64 (lineG l0 a1 a2).st, .int .i64 (lineG l0 a1 a2).sh, .int .i64 (lineG l0 a1 a2).o] 27))
  clear hb2 bel1 bel2
  go_wp2_with fail
  generalize w2.heap.size = d at bG hg2 ⊢
  generalize w2.alloc (.cells #[.int .i64 (lineG l0 a1 a2).w, .int .i64 (lineG l0 a1 a2).st, .int .i64 (lineG l0 a1 a2).sh, .int .i64 (lineG l0 a1 a2).o] 27) = w2b at bG bel2b ⊢
  have s2 := bel2b.out.size
  refine (toItemS_any A0 n0 c0 l0 _ hqn hl.out (w0d.below bel2b.out)).mono ?_
  rintro e w3 ⟨g3, rfl, hg3, hk3, hb3⟩
  have rd3 := hide (Rd.of_blk hk3 hsc)
  have bG3 := hide (bG.below' hb3)
  have bel3 := hide (bel2b.out.trans (hb3.mono s2))
  have s3 := bel3.out.size
  clear hk3 hb3 hg3 bG bel2b
  go_wp2_with fail
  refine (implLG _ n0 n0 l0 a1 a2 _ hm hl.out rd3.out).mono ?_
  rintro e w4 ⟨rfl, hb4⟩
  have rd4 := hide ((rd3.out.below hb4).alloc (.cells #[.int .i64 (lineG l0 a1 a2).w, .int .i64 (lineG l0 a1 a2).st, .int .i64 (lineG l0 a1 a2).sh, .int .i64 (lineG l0 a1 a2).o] 27))
  have bG4 := (bG3.out.below' hb4).alloc (.cells #[.int .i64 (lineG l0 a1 a2).w, .int .i64 (lineG l0 a1 a2).st, .int .i64 (lineG l0 a1 a2).sh, .int .i64 (lineG l0 a1 a2).o] 27)
  have bel4 := hide ((bel3.out.trans (hb4.mono s3)).alloc (Nat.le_trans s3 hb4.size) (.cells #[.int .i64 (lineG l0 a1 a2).w, .int .i64 (lineG l0 a1 a2).st, .int .i64 (lineG l0 a1 a2).sh, .int .i64 (lineG l0 a1 a2).o] 27))
  obtain ⟨d0, d1, d2, d3, y0, y1, y2, y3⟩ := bG4.c4
  have s4 := bel4.out.size
  have rdo := hide (w0d.below bel4.out)
  clear hb4 bG4 bG3 bel3 rd3
  go_wp2_with fail
  refine (eqGlueL (lineG l0 a1 a2) _).mono ?_
  rintro e w5 ⟨rfl, hb5⟩
  have rd5 := hide (rd4.out.below hb5)
  have bel5 := hide (bel4.out.trans (hb5.mono s4))
  have s5 := bel5.out.size
  clear hb5 d0 d1 d2 d3 y0 y1 y2 y3 bel4 rd4 rdo
  go_wp2_with fail
  refine (toItemS_any A0 n0 c0 l0 _ hqn hl.out (w0d.below bel5.out)).mono ?_
  rintro e w6 ⟨g6, rfl, hg6, hk6, hb6⟩
  have rd6 := hide (Rd.of_blk hk6 hsc)
  have rd5b := hide (rd5.out.below hb6)
  have bel6 := hide (bel5.out.trans (hb6.mono s5))
  have s6 := bel6.out.size
  clear hk6 hb6 hg6 rd5 bel5
  go_wp2_with fail
  refine (eqItemS_same _ _ n0 n0 n0 l0 _ hm hl.out rd5b.out rd6.out).mono ?_
  rintro e w7 ⟨rfl, hb7⟩
  have bel7 := hide (bel6.out.trans (hb7.mono s6))
  clear hb7
  go_wp2
  go_ret
  exact ⟨rfl, bel7.out⟩
set_option maxHeartbeats 2000000 in
theorem walkFnExactLineBadness (A0 : Option Addr) (n0 c0 : Nat) (l0 : List I) (a1 : Int) (a2 : Int) (a3 : Int) (w : World) (w0a : n0 ≤ c0) (w0b : c0 ≤ maxLen) (w0c : List.length l0 = n0) (w0d : Rd w 7 A0 n0 (cellsI l0)) (w1 : (Lit.int .i64 a1).wf = true) (w2 : (Lit.int .i64 a2).wf = true) (w3 : (Lit.int .i64 a3).wf = true) :
    Calls Try.prog 19 #[.slice A0 n0 c0, .int .i64 a1, .int .i64 a2, .int .i64 a3] w fun e w' => e = .returned (.bool true) ∧ Below w.heap.size w w' := by
  clear w1 w2 w3
  have hl := hide w0c
  have hm : n0 ≤ maxLen := by omega
  clear w0a w0b w0c
  have hsz := hide (szItemS_any A0 n0 c0 w hm)
  have hsc : (cellsI l0).length = n0 * 7 := by rw [len_cellsI, hl.out]
  by_cases hq : 1048576 < n0
  · rw [if_neg (by omega)] at hsz
    go_enter Try.func19, Try.ntmps19
    go_wp2_with fail
    refine hsz.out.mono ?_
    rintro e w' ⟨rfl, rfl⟩
    go_wp2
    go_ret
    exact ⟨rfl, Below.refl _ _⟩
  have hqn : n0 ≤ 1048576 := by omega
  rw [if_pos hqn] at hsz
  have hdz : decide (1048576 - (n0 : Int) < 0) = false := decide_eq_false (by omega)
  clear hq
  go_enter Try.func19, Try.ntmps19
  go_wp2_with fail
  refine hsz.out.mono ?_
  rintro e w' ⟨rfl, rfl⟩
  go_wp2_with fail
  refine (toItemS_any A0 n0 c0 l0 _ hqn hl.out w0d).mono ?_
  rintro e w1 ⟨g1, rfl, hg1, hk1, hb1⟩
  have rd1 := hide (Rd.of_blk hk1 hsc)
  have bel1 := hide hb1
  have s1 := hb1.size
  clear hk1 hb1 hg1
  go_wp2_with fail
  refine (specLB _ n0 n0 l0 a1 a2 a3 _ hm hl.out rd1.out).mono ?_
  rintro e w2 ⟨rfl, hb2⟩
  have bel2 := hide (bel1.out.trans (hb2.mono s1))
  have s2 := bel2.out.size
  clear hb2 bel1
  go_wp2_with fail
  refine (toItemS_any A0 n0 c0 l0 _ hqn hl.out (w0d.below bel2.out)).mono ?_
  rintro e w3 ⟨g3, rfl, hg3, hk3, hb3⟩
  have rd3 := hide (Rd.of_blk hk3 hsc)
  have bel3 := hide (bel2.out.trans (hb3.mono s2))
  have s3 := bel3.out.size
  clear hk3 hb3 hg3 bel2
  go_wp2_with fail
  refine (implLB _ n0 n0 l0 a1 a2 a3 _ hm hl.out rd3.out).mono ?_
  rintro e w4 ⟨rfl, hb4⟩
  have rd4 := hide (rd3.out.below hb4)
  have bel4 := hide (bel3.out.trans (hb4.mono s3))
  have s4 := bel4.out.size
  clear hb4 bel3 rd3
  go_wp2_with fail
  refine (toItemS_any A0 n0 c0 l0 _ hqn hl.out (w0d.below bel4.out)).mono ?_
  rintro e w6 ⟨g6, rfl, hg6, hk6, hb6⟩
  have rd6 := hide (Rd.of_blk hk6 hsc)
  have rd5b := hide (rd4.out.below hb6)
  have bel6 := hide (bel4.out.trans (hb6.mono s4))
  have s6 := bel6.out.size
  clear hk6 hb6 hg6 rd4 bel4
  go_wp2_with fail
  refine (eqItemS_same _ _ n0 n0 n0 l0 _ hm hl.out rd5b.out rd6.out).mono ?_
  rintro e w7 ⟨rfl, hb7⟩
  have bel7 := hide (bel6.out.trans (hb7.mono s6))
  clear hb7
  go_wp2
  go_ret
  exact ⟨rfl, bel7.out⟩
end Go.Proofs.Ytocaonlmlafjmaa
