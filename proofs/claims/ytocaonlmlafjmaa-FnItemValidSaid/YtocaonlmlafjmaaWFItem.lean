/- The walk through the law of valid items. No condition. -/
import Derived.Test.YtocaonlmlafjmaaArgs
import Derived.Test.YtocaonlmlafjmaaItem2
import Derived.Test.YtocaonlmlafjmaaDrItem
namespace Go.Proofs.Ytocaonlmlafjmaa
open Go.RowKit
set_option linter.unusedVariables false
set_option linter.unusedSimpArgs false
set_option maxRecDepth 100000
def ItemDP (w : World) (e : Ending) (w' : World) : Prop := ∃ x : I, e = .returned (.agg #[.int .i64 x.k, .int .i64 x.g.w, .int .i64 x.g.st, .int .i64 x.g.sh, .int .i64 x.g.o, .int .i64 x.c, .bool x.m]) ∧ Below w.heap.size w w'
set_option maxHeartbeats 1000000 in
theorem drawItemValid_any (w : World) (A : Option Addr) (n c : Nat) (l : List Int) (hl : List.length l = n) (hc : n ≤ c) (hn63 : n < 4611686018427387904) (h : Rd w 1 A n (cellsB l)) (h5 : ∀ z ∈ l, 0 ≤ z ∧ z ≤ 255) :
    Calls Try.prog 25 #[.slice A n c] w (ItemDP w) := by
  go_enter Try.func25, Try.ntmps25
  go_wp2_with (fail)
  go_at_call 75
  have hk0 := Blk.new w 29 #[.int .i64 0, .int .i64 0, .int .i64 0, .int .i64 0, .int .i64 0, .int .i64 0, .bool false]
  have hb0 := (Below.refl w.heap.size w).alloc (Nat.le_refl _) (.cells #[.int .i64 0, .int .i64 0, .int .i64 0, .int .i64 0, .int .i64 0, .int .i64 0, .bool false] 29)
  have h0 := h.alloc (.cells #[.int .i64 0, .int .i64 0, .int .i64 0, .int .i64 0, .int .i64 0, .int .i64 0, .bool false] 29)
  have hrl := Blk.lt hk0
  generalize hre : w.heap.size = r at hk0 hb0 hrl ⊢
  generalize w.alloc (.cells #[.int .i64 0, .int .i64 0, .int .i64 0, .int .i64 0, .int .i64 0, .int .i64 0, .bool false] 29) = wa at hk0 hb0 h0 hrl ⊢
  refine (l20Open_any wa A n c l hl hc hn63 h0 h5).mono ?_
  rintro e w1 ⟨rfl, hr, hb⟩
  have hk1 := Blk.below' hk0 hb
  go_wp2_with (fail)
  go_at_call 74
  refine (l20Item_any wa.heap.size 0 2 w1 hr (by omega) (by omega)).mono ?_
  rintro e w2 ⟨x, q, rfl, hq, hr2, hg2⟩
  have hk2 := Blk.grown hk1 hg2 (fun e => by injection e with e; omega)
  obtain ⟨j0, j1, j2, j3, j4, j5, j6⟩ := hk2.c7
  obtain ⟨i0, i1, i2, i3, i4, i5, i6⟩ := hk2.f7
  have hbe := hide (Below.only (hb0.trans (hb.mono (Nat.le_of_lt hrl))) hg2 (Nat.le_trans hb0.size hb.size |> fun h => by omega) (by omega))
  clear hk0 hk1 hk2 hb0 hb h0 hr hr2 hg2 h
  unfold iVal
  go_wp2
  unfold ItemDP
  refine bodyPost_ret (v := .agg #[.int .i64 x.k, .int .i64 x.g.w, .int .i64 x.g.st, .int .i64 x.g.sh, .int .i64 x.g.o, .int .i64 x.c, .bool x.m]) (by simp [results, Try.results25, go_sem, j0, j1, j2, j3, j4, j5, j6, i0, i1, i2, i3, i4, i5, i6]) rfl ⟨x, rfl, ?_⟩
  rw [hre]
  have hrr : r ≤ r := Nat.le_refl _
  exact ((((((hbe.out.setCell hrr _).setCell hrr _).setCell hrr _).setCell hrr _).setCell hrr _).setCell hrr _).setCell hrr _
set_option maxHeartbeats 1000000 in
theorem walkFnItemValid (A0 : Option Addr) (n0 c0 : Nat) (l0 : List Int) (w : World) (w0a : n0 ≤ c0) (w0b : c0 ≤ maxLen) (w0c : List.length l0 = n0) (w0d : Rd w 1 A0 n0 (cellsB l0)) (w0e : ∀ z ∈ l0, 0 ≤ z ∧ z ≤ 255) :
    Calls Try.prog 4 #[.slice A0 n0 c0] w fun e w' => e = .returned (.bool true) ∧ Below w.heap.size w w' := by
  by_cases hbig : 1048576 < n0
  · have hd : decide (1048576 < (n0 : Int)) = true := by simp; omega
    clear w0a w0b w0c w0d w0e hbig
    go_enter Try.func4, Try.ntmps4
    go_wp2
    go_ret
    refine ⟨rfl, ?_⟩
    (repeat (first | exact Below.refl _ _ | assumption | refine Below.alloc ?_ (by first | assumption | omega | (simp; done) | (simp; omega)) _ | refine Below.setCell ?_ (by first | assumption | omega | (simp; done) | (simp; omega)) _ | refine below_drewN ?_ _ | refine Below.drew ?_))
  · have hd : decide (1048576 < (n0 : Int)) = false := by simp; omega
    have hdraw := hide (drawItemValid_any w A0 n0 c0 l0 w0c w0a (by omega) w0d w0e)
    clear w0a w0b w0c w0d w0e hbig
    go_enter Try.func4, Try.ntmps4
    go_wp2_with (fail)
    go_at_call 25
    refine hdraw.out.mono ?_
    rintro e w1 ⟨x, rfl, hb1⟩
    clear hdraw
    have f1 : itemOk ⟨4, x.g, 0, false⟩ = false := by simp [itemOk]
    have f2 : itemOk ⟨1, ⟨0, 0, 0, 0⟩, 1, false⟩ = false := by decide
    have v1 := hide (fun W => implItem ⟨4, x.g, 0, false⟩ W)
    have v2 := hide (fun W => implItem ⟨1, ⟨0, 0, 0, 0⟩, 1, false⟩ W)
    unfold ItemAns at v1 v2
    rw [f1] at v1
    rw [f2] at v2
    go_wp2_with (fail)
    have hk1 := Blk.new w1 29 #[.int .i64 x.k, .int .i64 x.g.w, .int .i64 x.g.st, .int .i64 x.g.sh, .int .i64 x.g.o, .int .i64 x.c, .bool x.m]
    have hw1 := hide (hb1.alloc hb1.size (.cells #[.int .i64 x.k, .int .i64 x.g.w, .int .i64 x.g.st, .int .i64 x.g.sh, .int .i64 x.g.o, .int .i64 x.c, .bool x.m] 29))
    generalize w1.heap.size = d at hk1 ⊢
    generalize w1.alloc (.cells #[.int .i64 x.k, .int .i64 x.g.w, .int .i64 x.g.st, .int .i64 x.g.sh, .int .i64 x.g.o, .int .i64 x.c, .bool x.m] 29) = wa at hk1 hw1 ⊢
    clear hb1
    go_at_call 24
    refine (implItem x _).mono ?_
    rintro e w2 ⟨rfl, hb2⟩
    have hk2 := Blk.below' hk1 hb2
    have hw2 := hw1.out.trans (hb2.mono hw1.out.size)
    obtain ⟨i20, i21, i22, i23, i24, i25, i26⟩ := hk2.c7
    replace hk2 := hide hk2
    replace hw2 := hide hw2
    clear hk1 hw1 hb2
    go_wp2_with (fail)
    go_at_call 22
    refine (specItem x _).mono ?_
    rintro e w3 ⟨rfl, hb3⟩
    have hk3 := Blk.below' hk2.out hb3
    have hw3 := hw2.out.trans (hb3.mono hw2.out.size)
    obtain ⟨i30, i31, i32, i33, i34, i35, i36⟩ := hk3.c7
    replace hk3 := hide hk3
    replace hw3 := hide hw3
    clear hk2 hw2 hb3
    go_wp2_with (fail)
    go_at_call 24
    refine (v1.out _).mono ?_
    rintro e w4 ⟨rfl, hb4⟩
    have hw4 := hide (hw3.out.trans (hb4.mono hw3.out.size))
    clear hk3 hw3 hb4
    go_wp2_with (fail)
    go_at_call 24
    refine (v2.out _).mono ?_
    rintro e w5 ⟨rfl, hb5⟩
    have hw5 := hide (hw4.out.trans (hb5.mono hw4.out.size))
    clear hw4 hb5
    go_wp2_with (fail)
    go_at_call 26
    refine (alive_any _).mono ?_
    rintro e w6 ⟨rfl, hb6⟩
    have hw6 := hide (hw5.out.trans (hb6.mono hw5.out.size))
    clear hb6 hw5
    go_wp2
    go_ret
    exact ⟨rfl, hw6.out⟩
end Go.Proofs.Ytocaonlmlafjmaa
