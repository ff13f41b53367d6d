/- The walk through the law of valid glues. No condition. -/
import Derived.Test.YtoiacijjbehioaaArgs
import Derived.Test.YtoiacijjbehioaaGlue
import Derived.Test.YtoiacijjbehioaaDrGlue
namespace Go.Proofs.Ytoiacijjbehioaa
open Go.RowKit
set_option linter.unusedVariables false
set_option linter.unusedSimpArgs false
def GlueDP (w : World) (e : Ending) (w' : World) : Prop := ∃ x : G, e = .returned (.agg #[.int .i64 x.w, .int .i64 x.st, .int .i64 x.sh, .int .i64 x.o]) ∧ gBnd x ∧ Below w.heap.size w w'
theorem drawGlueValid_any (w : World) (A : Option Addr) (n c : Nat) (l : List Int) (hl : List.length l = n) (hc : n ≤ c) (hn63 : n < 4611686018427387904) (h : Rd w 1 A n (cellsB l)) (h5 : ∀ z ∈ l, 0 ≤ z ∧ z ≤ 255) :
    Calls Try.prog 22 #[.slice A n c] w (GlueDP w) := by
  go_enter Try.func22, Try.ntmps22
  go_wp2_with (fail)
  go_at_call 52
  have hk0 := Blk.new w 26 #[.int .i64 0, .int .i64 0, .int .i64 0, .int .i64 0]
  have hb0 := (Below.refl w.heap.size w).alloc (Nat.le_refl _) (.cells #[.int .i64 0, .int .i64 0, .int .i64 0, .int .i64 0] 26)
  have h0 := h.alloc (.cells #[.int .i64 0, .int .i64 0, .int .i64 0, .int .i64 0] 26)
  have hrl := Blk.lt hk0
  generalize hre : w.heap.size = r at hk0 hb0 hrl ⊢
  generalize w.alloc (.cells #[.int .i64 0, .int .i64 0, .int .i64 0, .int .i64 0] 26) = wa at hk0 hb0 h0 hrl ⊢
  refine (l20Open_any wa A n c l hl hc hn63 h0 h5).mono ?_
  rintro e w1 ⟨rfl, hr, hb⟩
  have hk1 := Blk.below' hk0 hb
  go_wp2_with (fail)
  go_at_call 51
  refine (l20Glue_any wa.heap.size 0 2 w1 hr (by omega) (by omega)).mono ?_
  rintro e w2 ⟨x, q, rfl, hx, hq, hr2, hg2⟩
  have hk2 := Blk.grown hk1 hg2 (fun e => by injection e with e; omega)
  obtain ⟨j40, j41, j42, j43, g40, g41, g42, g43⟩ := Blk.c4 hk2
  have hbe := hide (Below.only (hb0.trans (hb.mono (Nat.le_of_lt hrl))) hg2 (Nat.le_trans hb0.size hb.size |> fun h => by omega) (by omega))
  clear hk0 hk1 hk2 hb0 hb h0 hr hr2 hg2 h
  unfold gVal
  go_wp2
  unfold GlueDP
  refine bodyPost_ret (v := .agg #[.int .i64 x.w, .int .i64 x.st, .int .i64 x.sh, .int .i64 x.o]) (by simp [results, Try.results22, go_sem, j40, j41, j42, j43, g40, g41, g42, g43]) rfl ⟨x, rfl, hx, ?_⟩
  rw [hre]
  have := hbe.out
  (repeat (first | exact Below.refl _ _ | assumption | refine Below.alloc ?_ (by first | assumption | omega | (simp; done) | (simp; omega)) _ | refine Below.setCell ?_ (by first | assumption | omega | (simp; done) | (simp; omega)) _ | refine below_drewN ?_ _ | refine Below.drew ?_))
set_option maxRecDepth 100000 in
theorem walkFnGlueValid (A0 : Option Addr) (n0 c0 : Nat) (l0 : List Int) (w : World) (w0a : n0 ≤ c0) (w0b : c0 ≤ maxLen) (w0c : List.length l0 = n0) (w0d : Rd w 1 A0 n0 (cellsB l0)) (w0e : ∀ z ∈ l0, 0 ≤ z ∧ z ≤ 255) :
    Calls Try.prog 5 #[.slice A0 n0 c0] w fun e w' => e = .returned (.bool true) ∧ Below w.heap.size w w' := by
  by_cases hbig : 1048576 < n0
  · have hd : decide (1048576 < (n0 : Int)) = true := by simp; omega
    clear w0a w0b w0c w0d w0e hbig
    go_enter Try.func5, Try.ntmps5
    go_wp2
    go_ret
    refine ⟨rfl, ?_⟩
    (repeat (first | exact Below.refl _ _ | assumption | refine Below.alloc ?_ (by first | assumption | omega | (simp; done) | (simp; omega)) _ | refine Below.setCell ?_ (by first | assumption | omega | (simp; done) | (simp; omega)) _ | refine below_drewN ?_ _ | refine Below.drew ?_))
  · have hd : decide (1048576 < (n0 : Int)) = false := by simp; omega
    have hdraw := hide (drawGlueValid_any w A0 n0 c0 l0 w0c w0a (by omega) w0d w0e)
    clear w0a w0b w0c w0d w0e hbig
    go_enter Try.func5, Try.ntmps5
    go_wp2_with (fail)
    go_at_call 22
    refine hdraw.out.mono ?_
    rintro e w1 ⟨x, rfl, hx, hb1⟩
    clear hdraw hx
    have f1 : glueOk ⟨3, 0, 4, 0⟩ = false := by decide
    have f2 : glueOk ⟨x.w, 0, 0, 2⟩ = false := by simp [glueOk, inB]
    have v1 := hide (implGlueValid ⟨3, 0, 4, 0⟩)
    have v2 := hide (implGlueValid ⟨x.w, 0, 0, 2⟩)
    rw [f1] at v1
    rw [f2] at v2
    go_wp2_with (fail)
    have hk1 := Blk.new w1 26 #[.int .i64 x.w, .int .i64 x.st, .int .i64 x.sh, .int .i64 x.o]
    have hw1 := hide (hb1.alloc hb1.size (.cells #[.int .i64 x.w, .int .i64 x.st, .int .i64 x.sh, .int .i64 x.o] 26))
    generalize w1.heap.size = d at hk1 ⊢
    generalize w1.alloc (.cells #[.int .i64 x.w, .int .i64 x.st, .int .i64 x.sh, .int .i64 x.o] 26) = wa at hk1 hw1 ⊢
    clear hb1
    go_at_call 21
    refine (implGlueValid x _).mono ?_
    rintro e w2 ⟨rfl, hb2⟩
    have hk2 := Blk.below' hk1 hb2
    have hw2 := hw1.out.trans (hb2.mono hw1.out.size)
    obtain ⟨i20, i21, i22, i23, _⟩ := Blk.c4 hk2
    replace hk2 := hide hk2
    replace hw2 := hide hw2
    clear hk1 hw1 hb2
    go_wp2_with (fail)
    go_at_call 19
    refine (specGlueValid x _).mono ?_
    rintro e w3 ⟨rfl, hb3⟩
    have hk3 := Blk.below' hk2.out hb3
    have hw3 := hw2.out.trans (hb3.mono hw2.out.size)
    obtain ⟨i30, i31, i32, i33, _⟩ := Blk.c4 hk3
    replace hk3 := hide hk3
    replace hw3 := hide hw3
    clear hk2 hw2 hb3
    go_wp2_with (fail)
    go_at_call 21
    refine (v1.out _).mono ?_
    rintro e w4 ⟨rfl, hb4⟩
    have hk4 := Blk.below' hk3.out hb4
    have hw4 := hw3.out.trans (hb4.mono hw3.out.size)
    obtain ⟨i40, i41, i42, i43, _⟩ := Blk.c4 hk4
    replace hk4 := hide hk4
    replace hw4 := hide hw4
    clear hk3 hw3 hb4
    go_wp2_with (fail)
    go_at_call 21
    refine (v2.out _).mono ?_
    rintro e w5 ⟨rfl, hb5⟩
    have hk5 := Blk.below' hk4.out hb5
    have hw5 := hw4.out.trans (hb5.mono hw4.out.size)
    obtain ⟨i50, i51, i52, i53, _⟩ := Blk.c4 hk5
    replace hk5 := hide hk5
    replace hw5 := hide hw5
    clear hk4 hw4 hb5
    go_wp2_with (fail)
    go_at_call 23
    refine (alive_any _).mono ?_
    rintro e w6 ⟨rfl, hb6⟩
    have hw6 := hide (hw5.out.trans (hb6.mono hw5.out.size))
    clear hb6 hw5 hk5
    go_wp2
    go_ret
    exact ⟨rfl, hw6.out⟩
end Go.Proofs.Ytoiacijjbehioaa
