/- The walks of the exact laws on lists of items. -/
import Derived.Test.YtocaonlmlafjmaaStart
import Derived.Test.YtocaonlmlafjmaaExI
import Derived.Test.YtocaonlmlafjmaaArgs
namespace Go.Proofs.Ytocaonlmlafjmaa
open Go.RowKit
set_option linter.unusedVariables false
set_option linter.unusedSimpArgs false

theorem walkFnExactItemValid (i : I) (w : World) :
    Calls Try.prog 3 #[.agg #[.int .i64 i.k, .int .i64 i.g.w, .int .i64 i.g.st, .int .i64 i.g.sh, .int .i64 i.g.o, .int .i64 i.c, .bool i.m]] w fun e w' => e = .returned (.bool true) ∧ Below w.heap.size w w' := by
  have hv := hide (show ∀ v : Bool, (v != v) = false from fun v => by cases v <;> rfl)
  have k1 := Blk.new w 25 #[.int .i64 i.k, .int .i64 i.g.w, .int .i64 i.g.st, .int .i64 i.g.sh, .int .i64 i.g.o, .int .i64 i.c, .bool i.m]
  have b0 := hide ((Below.refl w.heap.size w).alloc (Nat.le_refl _) (.cells #[.int .i64 i.k, .int .i64 i.g.w, .int .i64 i.g.st, .int .i64 i.g.sh, .int .i64 i.g.o, .int .i64 i.c, .bool i.m] 25))
  have s0 := b0.out.size
  go_enter Try.func3, Try.ntmps3
  go_wp2_with fail
  refine (toItem_any i _).mono ?_
  rintro e w1 ⟨rfl, hb1⟩
  have k2 := k1.below' hb1
  have b1 := hide (b0.out.trans (hb1.mono s0))
  have s1 := b1.out.size
  clear hb1
  go_wp2_with fail
  refine (specItem i _).mono ?_
  rintro e w2 ⟨rfl, hb2⟩
  have k3 := k2.below' (hb2.mono (Nat.le_refl _))
  have b2 := hide (b1.out.trans (hb2.mono s1))
  have s2 := b2.out.size
  obtain ⟨c0, c1, c2, c3, c4, c5, c6⟩ := k3.c7
  clear hb2 k1 k2
  go_wp2_with fail
  refine (toItem_any i _).mono ?_
  rintro e w3 ⟨rfl, hb3⟩
  have b3 := hide (b2.out.trans (hb3.mono s2))
  have s3 := b3.out.size
  clear hb3
  go_wp2_with fail
  refine (implItem i _).mono ?_
  rintro e w4 ⟨rfl, hb4⟩
  have b4 := hide (b3.out.trans (hb4.mono s3))
  clear hb4
  go_wp2
  go_ret
  exact ⟨rfl, b4.out⟩
theorem walkFnExactItemsValid (A0 : Option Addr) (n0 c0 : Nat) (l0 : List I) (w : World) (w0a : n0 ≤ c0) (w0b : c0 ≤ maxLen) (w0c : List.length l0 = n0) (w0d : Rd w 7 A0 n0 (cellsI l0)) :
    Calls Try.prog 5 #[.slice A0 n0 c0] w fun e w' => e = .returned (.bool true) ∧ Below w.heap.size w w' := by
  have hl := hide w0c
  have hm : n0 ≤ maxLen := by omega
  have hsc : (cellsI l0).length = n0 * 7 := by rw [len_cellsI, hl.out]
  have rdB : ∀ (W : World) (g : Nat), Blk W g 29 (cellsI l0).toArray → Rd W 7 (some ⟨g, 0, none⟩) n0 (cellsI l0) := fun W g hb => Rd.of_blk hb hsc
  have rdB' := hide rdB
  clear rdB hsc w0a w0b w0c
  by_cases hz0 : n0 ≤ 1048576
  · have hsz := hide (szItemS_any A0 n0 c0 w hm)
    rw [if_pos hz0] at hsz
    have hd : decide (1048576 - (n0 : Int) < 0) = false := decide_eq_false (by omega)
    have hd2 : ¬ (1048576 - (n0 : Int) < 0) := by omega
    go_enter Try.func5, Try.ntmps5
    go_wp2_with fail
    refine hsz.out.mono ?_
    rintro e w' ⟨rfl, rfl⟩
    go_wp2_with fail
    refine (toItemS_any A0 n0 c0 l0 _ hz0 hl.out w0d).mono ?_
    rintro e w1 ⟨g1, rfl, hg1, hk1, hb1⟩
    have bel1 := hide hb1
    have s1 := hb1.size
    have k1 := hide hk1
    clear hk1 hb1
    go_wp2_with fail
    refine (specItems _ n0 n0 l0 _ hm hl.out (rdB'.out _ _ k1.out)).mono ?_
    rintro e w2 ⟨rfl, hb2⟩
    have bel2 := hide (bel1.out.trans (hb2.mono s1))
    have s2 := bel2.out.size
    clear hb2
    go_wp2_with fail
    refine (toItemS_any A0 n0 c0 l0 _ hz0 hl.out (w0d.below bel2.out)).mono ?_
    rintro e w3 ⟨g3, rfl, hg3, hk3, hb3⟩
    have bel3 := hide (bel2.out.trans (hb3.mono s2))
    have s3 := bel3.out.size
    have k3 := hide hk3
    clear hk3 hb3
    go_wp2_with fail
    refine (implItems _ n0 n0 l0 _ hm hl.out (rdB'.out _ _ k3.out)).mono ?_
    rintro e w4 ⟨rfl, hb4⟩
    have k4 := hide (k3.out.below' hb4)
    have bel4 := hide (bel3.out.trans (hb4.mono s3))
    have s4 := bel4.out.size
    clear hb4
    go_wp2_with fail
    refine (toItemS_any A0 n0 c0 l0 _ hz0 hl.out (w0d.below bel4.out)).mono ?_
    rintro e w5 ⟨g5, rfl, hg5, hk5, hb5⟩
    have k45 := hide (k4.out.below' hb5)
    have bel5 := hide (bel4.out.trans (hb5.mono s4))
    have s5 := bel5.out.size
    have k5 := hide hk5
    clear hk5 hb5
    go_wp2_with fail
    refine (eqItemS_same _ _ n0 n0 n0 l0 _ hm hl.out (rdB'.out _ _ k45.out) (rdB'.out _ _ k5.out)).mono ?_
    rintro e w6 ⟨rfl, hb6⟩
    have bel6 := hide (bel5.out.trans (hb6.mono s5))
    clear hb6
    go_wp2
    go_ret
    exact ⟨rfl, bel6.out⟩
  · have hsz := hide (szItemS_any A0 n0 c0 w hm)
    rw [if_neg hz0] at hsz
    go_enter Try.func5, Try.ntmps5
    go_wp2_with fail
    refine hsz.out.mono ?_
    rintro e w' ⟨rfl, rfl⟩
    go_wp2
    go_ret
    exact ⟨rfl, Below.refl _ _⟩
theorem walkFnExactMayBreak (A0 : Option Addr) (n0 c0 : Nat) (l0 : List I) (t : Int) (w : World) (w0a : n0 ≤ c0) (w0b : c0 ≤ maxLen) (w0c : List.length l0 = n0) (w0d : Rd w 7 A0 n0 (cellsI l0)) (w1 : (Lit.int .i64 t).wf = true) :
    Calls Try.prog 7 #[.slice A0 n0 c0, .int .i64 t] w fun e w' => e = .returned (.bool true) ∧ Below w.heap.size w w' := by
  have hl := hide w0c
  have hm : n0 ≤ maxLen := by omega
  have hsc : (cellsI l0).length = n0 * 7 := by rw [len_cellsI, hl.out]
  have rdB : ∀ (W : World) (g : Nat), Blk W g 29 (cellsI l0).toArray → Rd W 7 (some ⟨g, 0, none⟩) n0 (cellsI l0) := fun W g hb => Rd.of_blk hb hsc
  have rdB' := hide rdB
  clear rdB hsc w0a w0b w0c w1
  by_cases hz0 : n0 ≤ 1048576
  · have hsz := hide (szItemS_any A0 n0 c0 w hm)
    rw [if_pos hz0] at hsz
    have hd : decide (1048576 - (n0 : Int) < 0) = false := decide_eq_false (by omega)
    have hd2 : ¬ (1048576 - (n0 : Int) < 0) := by omega
    go_enter Try.func7, Try.ntmps7
    go_wp2_with fail
    refine hsz.out.mono ?_
    rintro e w' ⟨rfl, rfl⟩
    go_wp2_with fail
    refine (toItemS_any A0 n0 c0 l0 _ hz0 hl.out w0d).mono ?_
    rintro e w1 ⟨g1, rfl, hg1, hk1, hb1⟩
    have bel1 := hide hb1
    have s1 := hb1.size
    have k1 := hide hk1
    clear hk1 hb1
    go_wp2_with fail
    refine (specMay _ n0 n0 l0 t _ hm hl.out (rdB'.out _ _ k1.out)).mono ?_
    rintro e w2 ⟨rfl, hb2⟩
    have bel2 := hide (bel1.out.trans (hb2.mono s1))
    have s2 := bel2.out.size
    clear hb2
    go_wp2_with fail
    refine (toItemS_any A0 n0 c0 l0 _ hz0 hl.out (w0d.below bel2.out)).mono ?_
    rintro e w3 ⟨g3, rfl, hg3, hk3, hb3⟩
    have bel3 := hide (bel2.out.trans (hb3.mono s2))
    have s3 := bel3.out.size
    have k3 := hide hk3
    clear hk3 hb3
    go_wp2_with fail
    refine (implMay _ n0 n0 l0 t _ hm hl.out (rdB'.out _ _ k3.out)).mono ?_
    rintro e w4 ⟨rfl, hb4⟩
    have k4 := hide (k3.out.below' hb4)
    have bel4 := hide (bel3.out.trans (hb4.mono s3))
    have s4 := bel4.out.size
    clear hb4
    go_wp2_with fail
    refine (toItemS_any A0 n0 c0 l0 _ hz0 hl.out (w0d.below bel4.out)).mono ?_
    rintro e w5 ⟨g5, rfl, hg5, hk5, hb5⟩
    have k45 := hide (k4.out.below' hb5)
    have bel5 := hide (bel4.out.trans (hb5.mono s4))
    have s5 := bel5.out.size
    have k5 := hide hk5
    clear hk5 hb5
    go_wp2_with fail
    refine (eqItemS_same _ _ n0 n0 n0 l0 _ hm hl.out (rdB'.out _ _ k45.out) (rdB'.out _ _ k5.out)).mono ?_
    rintro e w6 ⟨rfl, hb6⟩
    have bel6 := hide (bel5.out.trans (hb6.mono s5))
    clear hb6
    go_wp2
    go_ret
    exact ⟨rfl, bel6.out⟩
  · have hsz := hide (szItemS_any A0 n0 c0 w hm)
    rw [if_neg hz0] at hsz
    go_enter Try.func7, Try.ntmps7
    go_wp2_with fail
    refine hsz.out.mono ?_
    rintro e w' ⟨rfl, rfl⟩
    go_wp2
    go_ret
    exact ⟨rfl, Below.refl _ _⟩
theorem walkFnExactLineStart (A0 : Option Addr) (n0 c0 : Nat) (l0 : List I) (t : Int) (w : World) (w0a : n0 ≤ c0) (w0b : c0 ≤ maxLen) (w0c : List.length l0 = n0) (w0d : Rd w 7 A0 n0 (cellsI l0)) (w1 : (Lit.int .i64 t).wf = true) :
    Calls Try.prog 9 #[.slice A0 n0 c0, .int .i64 t] w fun e w' => e = .returned (.bool true) ∧ Below w.heap.size w w' := by
  have hl := hide w0c
  have hm : n0 ≤ maxLen := by omega
  have hsc : (cellsI l0).length = n0 * 7 := by rw [len_cellsI, hl.out]
  have rdB : ∀ (W : World) (g : Nat), Blk W g 29 (cellsI l0).toArray → Rd W 7 (some ⟨g, 0, none⟩) n0 (cellsI l0) := fun W g hb => Rd.of_blk hb hsc
  have rdB' := hide rdB
  clear rdB hsc w0a w0b w0c w1
  by_cases hz0 : n0 ≤ 1048576
  · have hsz := hide (szItemS_any A0 n0 c0 w hm)
    rw [if_pos hz0] at hsz
    have hd : decide (1048576 - (n0 : Int) < 0) = false := decide_eq_false (by omega)
    have hd2 : ¬ (1048576 - (n0 : Int) < 0) := by omega
    go_enter Try.func9, Try.ntmps9
    go_wp2_with fail
    refine hsz.out.mono ?_
    rintro e w' ⟨rfl, rfl⟩
    go_wp2_with fail
    refine (toItemS_any A0 n0 c0 l0 _ hz0 hl.out w0d).mono ?_
    rintro e w1 ⟨g1, rfl, hg1, hk1, hb1⟩
    have bel1 := hide hb1
    have s1 := hb1.size
    have k1 := hide hk1
    clear hk1 hb1
    go_wp2_with fail
    refine (specLineS _ n0 n0 l0 t _ hm hl.out (rdB'.out _ _ k1.out)).mono ?_
    rintro e w2 ⟨rfl, hb2⟩
    have bel2 := hide (bel1.out.trans (hb2.mono s1))
    have s2 := bel2.out.size
    clear hb2
    go_wp2_with fail
    refine (toItemS_any A0 n0 c0 l0 _ hz0 hl.out (w0d.below bel2.out)).mono ?_
    rintro e w3 ⟨g3, rfl, hg3, hk3, hb3⟩
    have bel3 := hide (bel2.out.trans (hb3.mono s2))
    have s3 := bel3.out.size
    have k3 := hide hk3
    clear hk3 hb3
    go_wp2_with fail
    refine (implLineS _ n0 n0 l0 t _ hm hl.out (rdB'.out _ _ k3.out)).mono ?_
    rintro e w4 ⟨rfl, hb4⟩
    have k4 := hide (k3.out.below' hb4)
    have bel4 := hide (bel3.out.trans (hb4.mono s3))
    have s4 := bel4.out.size
    clear hb4
    go_wp2_with fail
    refine (toItemS_any A0 n0 c0 l0 _ hz0 hl.out (w0d.below bel4.out)).mono ?_
    rintro e w5 ⟨g5, rfl, hg5, hk5, hb5⟩
    have k45 := hide (k4.out.below' hb5)
    have bel5 := hide (bel4.out.trans (hb5.mono s4))
    have s5 := bel5.out.size
    have k5 := hide hk5
    clear hk5 hb5
    go_wp2_with fail
    refine (eqItemS_same _ _ n0 n0 n0 l0 _ hm hl.out (rdB'.out _ _ k45.out) (rdB'.out _ _ k5.out)).mono ?_
    rintro e w6 ⟨rfl, hb6⟩
    have bel6 := hide (bel5.out.trans (hb6.mono s5))
    clear hb6
    go_wp2
    go_ret
    exact ⟨rfl, bel6.out⟩
  · have hsz := hide (szItemS_any A0 n0 c0 w hm)
    rw [if_neg hz0] at hsz
    go_enter Try.func9, Try.ntmps9
    go_wp2_with fail
    refine hsz.out.mono ?_
    rintro e w' ⟨rfl, rfl⟩
    go_wp2
    go_ret
    exact ⟨rfl, Below.refl _ _⟩
end Go.Proofs.Ytocaonlmlafjmaa
