/- The walks through the exact laws of one glue and of totals. No condition. -/
import Derived.Test.YtoiacijjbehioaaArgs
import Derived.Test.YtoiacijjbehioaaExG
import Derived.Test.YtoiacijjbehioaaGt
namespace Go.Proofs.Ytoiacijjbehioaa
open Go.RowKit
set_option linter.unusedVariables false
set_option linter.unusedSimpArgs false

theorem walkFnExactGlueValid (a0 : G) (w : World)  :
    Calls Try.prog 4 #[.agg #[.int .i64 a0.w, .int .i64 a0.st, .int .i64 a0.sh, .int .i64 a0.o]] w fun e w' => e = .returned (.bool true) ∧ Below w.heap.size w w' := by
  go_enter Try.func4, Try.ntmps4
  go_wp2_with fail
  refine (toGlue_any a0 _).mono ?_
  rintro e w1 ⟨rfl, hb1⟩
  go_wp2_with fail
  refine (specGlueValid a0 _).mono ?_
  rintro e w2 ⟨rfl, hb2⟩
  have q := (bcell (hb1.trans (hb2.mono hb1.size))).1 w.heap.size
  have d0 : w2.cell? ⟨w.heap.size, 0, none⟩ = some (.int .i64 a0.w) := by rw [q 0 (by simp)]; simp
  have d1 : w2.cell? ⟨w.heap.size, 1, none⟩ = some (.int .i64 a0.st) := by rw [q 1 (by simp)]; simp
  have d2 : w2.cell? ⟨w.heap.size, 2, none⟩ = some (.int .i64 a0.sh) := by rw [q 2 (by simp)]; simp
  have d3 : w2.cell? ⟨w.heap.size, 3, none⟩ = some (.int .i64 a0.o) := by rw [q 3 (by simp)]; simp
  have hw := hide (show Below w.heap.size w w2 from (((Below.refl _ _).alloc (Nat.le_refl _) _).trans (hb1.mono (by simp))).trans (hb2.mono (by have := hb1.size; simp at this; omega)))
  have hs : w.heap.size ≤ w2.heap.size := hw.out.size
  clear hb1 hb2 q
  go_wp2_with fail
  refine (toGlue_any a0 _).mono ?_
  rintro e w3 ⟨rfl, hb3⟩
  go_wp2_with fail
  refine (implGlueValid a0 _).mono ?_
  rintro e w4 ⟨rfl, hb4⟩
  have hw4 := hide ((hw.out.trans (hb3.mono hs)).trans (hb4.mono (Nat.le_trans hs hb3.size)))
  clear hb3 hb4
  go_wp2
  go_ret
  exact ⟨rfl, hw4.out⟩

set_option maxHeartbeats 800000 in
theorem walkFnExactGlueTotal (A0 : Option Addr) (n0 c0 : Nat) (l0 : List G) (w : World) (w0a : n0 ≤ c0) (w0b : c0 ≤ maxLen) (w0c : List.length l0 = n0) (w0d : Rd w 4 A0 n0 (cellsG l0)) :
    Calls Try.prog 6 #[.slice A0 n0 c0] w fun e w' => e = .returned (.bool true) ∧ Below w.heap.size w w' := by
  have hsz := szGlueS_any A0 n0 c0 w (by omega)
  have hl := hide w0c
  have hm : n0 ≤ maxLen := by omega
  clear w0a w0b w0c
  by_cases hn : n0 ≤ 1048576
  · rw [if_pos hn] at hsz
    have hsz' := hide hsz
    clear hsz
    go_enter Try.func6, Try.ntmps6
    go_wp2_with fail
    refine (hsz'.out).mono ?_
    rintro e w1 ⟨rfl, rfl⟩
    go_wp2_with fail
    refine (toGlueS_any A0 n0 c0 l0 _ hn hl.out w0d).mono ?_
    rintro e w1 ⟨g1, rfl, hg1, hk1, hb1⟩
    go_wp2_with fail
    refine (specGT _ n0 n0 l0 _ hm hl.out (Rd.of_blk hk1 (by rw [len_cellsG, hl.out]))).mono ?_
    rintro e w2 ⟨rfl, hb2⟩
    have hw2 := hide (show Below w.heap.size w w2 from hb1.trans (hb2.mono hb1.size))
    have hs2 := hw2.out.size
    clear hb1 hb2 hk1 hg1
    go_wp2_with fail
    refine (toGlueS_any A0 n0 c0 l0 _ hn hl.out ((w0d.below hw2.out).alloc _)).mono ?_
    rintro e w3 ⟨g3, rfl, hg3, hk3, hb3⟩
    have bG := hide ((Blk.new w2 26 #[.int .i64 (GT l0).w, .int .i64 (GT l0).st, .int .i64 (GT l0).sh, .int .i64 (GT l0).o]).below' hb3)
    have hw3 := hide (show Below w.heap.size w w3 from (hw2.out.alloc hs2 _).trans (hb3.mono (by simp; omega)))
    have hs3 := hw3.out.size
    have hk3' := hide hk3
    clear hb3 hk3 hg3
    go_wp2_with fail
    refine (implGT _ n0 n0 l0 _ hm hl.out (Rd.of_blk hk3'.out (by rw [len_cellsG, hl.out]))).mono ?_
    rintro e w4 ⟨rfl, hb4⟩
    have hk4 := hide (hk3'.out.below' hb4)
    have bG4 := bG.out.below' hb4
    obtain ⟨d0, d1, d2, d3, y0, y1, y2, y3⟩ := bG4.c4
    have hbl := bG4.lt
    have hw4 := hide (show Below w.heap.size w w4 from hw3.out.trans (hb4.mono hs3))
    have hs4 := hw4.out.size
    clear hb4 bG4
    go_wp2_with fail
    refine (eqGlue_same (GT l0) _).mono ?_
    rintro e w5 ⟨rfl, hb5⟩
    have hk5 := hide ((hk4.out.alloc (.cells #[.int .i64 (GT l0).w, .int .i64 (GT l0).st, .int .i64 (GT l0).sh, .int .i64 (GT l0).o] 26)).below' hb5)
    have hw5 := hide (show Below w.heap.size w w5 from (hw4.out.alloc hs4 _).trans (hb5.mono (by simp; omega)))
    have hs5 := hw5.out.size
    clear hb5 d0 d1 d2 d3 y0 y1 y2 y3
    go_wp2_with fail
    refine (toGlueS_any A0 n0 c0 l0 _ hn hl.out (w0d.below hw5.out)).mono ?_
    rintro e w6 ⟨g6, rfl, hg6, hk6, hb6⟩
    have hk7 := hide (hk5.out.below' hb6)
    have hk6' := hide hk6
    have hw6 := hide (show Below w.heap.size w w6 from hw5.out.trans (hb6.mono hs5))
    have hs6 := hw6.out.size
    clear hb6 hk6 hg6
    go_wp2_with fail
    refine (eqGlueS_same _ _ n0 n0 n0 l0 _ hm hl.out (Rd.of_blk hk7.out (by rw [len_cellsG, hl.out])) (Rd.of_blk hk6'.out (by rw [len_cellsG, hl.out]))).mono ?_
    rintro e w7 ⟨rfl, hb7⟩
    have hw7 := hide (show Below w.heap.size w w7 from hw6.out.trans (hb7.mono hs6))
    clear hb7
    go_wp2
    go_ret
    exact ⟨rfl, hw7.out⟩
  · rw [if_neg hn] at hsz
    have hsz' := hide hsz
    clear hsz
    go_enter Try.func6, Try.ntmps6
    go_wp2_with fail
    refine (hsz'.out).mono ?_
    rintro e w1 ⟨rfl, rfl⟩
    go_wp2
    go_ret
    exact ⟨rfl, Below.refl _ _⟩
end Go.Proofs.Ytoiacijjbehioaa
