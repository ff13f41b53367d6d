/- The exact laws' helpers on lists of glues: a copy; equal lists are equal; the count. Condition: the slices read as the lists. -/
import Derived.Test.YtoiacijjbehioaaGlue
import Derived.Test.YtoiacijjbehioaaMade
import Derived.StillTailTactics
namespace Go.Proofs.Ytoiacijjbehioaa
open Go.RowKit
set_option linter.unusedVariables false
set_option linter.unusedSimpArgs false

theorem szGlueS_any (A : Option Addr) (n c : Nat) (w : World) (hn : n ≤ maxLen) :
    Calls Try.prog 24 #[.slice A n c, .int .i64 1048576] w fun e w' => e = .returned (.int .i64 (if n ≤ 1048576 then 1048576 - (n : Int) else -1)) ∧ w = w' := by
  unfold maxLen at hn
  by_cases h : n ≤ 1048576
  · rw [if_pos h]
    go_enter Try.func24, Try.ntmps24
    go_wp2
    go_ret
    exact ⟨rfl, rfl⟩
  · rw [if_neg h]
    go_enter Try.func24, Try.ntmps24
    go_wp2
    go_ret
    exact ⟨rfl, rfl⟩

theorem eqGlue_same (g : G) (w : World) :
    Calls Try.prog 28 #[.agg #[.int .i64 g.w, .int .i64 g.st, .int .i64 g.sh, .int .i64 g.o], .agg #[.int .i64 g.w, .int .i64 g.st, .int .i64 g.sh, .int .i64 g.o]] w fun e w' => e = .returned (.bool true) ∧ Below w.heap.size w w' := by
  go_enter Try.func28, Try.ntmps28
  go_wp2
  go_ret
  refine ⟨rfl, ?_⟩
  (repeat (first | exact Below.refl _ _ | assumption | refine Below.alloc ?_ (by first | assumption | omega | (simp; done) | (simp; omega)) _ | refine Below.setCell ?_ (by first | assumption | omega | (simp; done) | (simp; omega)) _ | refine below_drewN ?_ _ | refine Below.drew ?_))

theorem eqGlueS_same (A B : Option Addr) (n c d : Nat) (l : List G) (w : World) (hn : n ≤ maxLen) (hl : l.length = n) (ha : Rd w 4 A n (cellsG l)) (hb : Rd w 4 B n (cellsG l)) :
    Calls Try.prog 29 #[.slice A n c, .slice B n d] w fun e w' => e = .returned (.bool true) ∧ Below w.heap.size w w' := by
  unfold maxLen at hn
  have hl' := hide hl
  clear hl
  go_enter Try.func29, Try.ntmps29
  go_wp2
  go_loopw [5] (fun i wr => ∃ k : Nat, k ≤ n ∧ i = .int .i64 k ∧ Below w.heap.size w wr) (fun i _ => n - (intOf i).toNat)
  case atStart => exact ⟨0, Nat.zero_le _, rfl, Below.refl _ _⟩
  case round =>
    obtain ⟨k, hk, rfl, hw⟩ := hrel
    have hw' := hide hw
    by_cases hlt : k < n
    · obtain ⟨b, off, g, rfl, hbs, hg, c0, c1, c2, c3⟩ := (ha.below hw).glue hl'.out hlt
      obtain ⟨b2, off2, g2, rfl, hbs2, hg2, d0, d1, d2, d3⟩ := (hb.below hw).glue hl'.out hlt
      rw [hg] at hg2
      obtain rfl := Option.some.inj hg2
      clear hg hw hg2
      go_wp2
      go_still_tail 8, (by kernel_rfl)
      go_wp2_with fail
      refine (eqGlue_same g _).mono ?_
      rintro e w1 ⟨rfl, hb1⟩
      have hb2 := hide (show Below w.heap.size w w1 from hw'.out.drew.trans (hb1.mono hw'.out.size))
      clear hb1
      go_wp2
      go_roundw
      case rel => exact ⟨k + 1, by omega, by go_num, hb2.out⟩
      case measure => simp [intOf]; omega
    · go_wp2
      go_ret
      exact ⟨rfl, hw'.out⟩

theorem glue_info : (Try.prog.info? 26).map (fun i => (i.zero, i.size, i.bytes)) = some (some (.agg #[.int .i64 0, .int .i64 0, .int .i64 0, .int .i64 0]), 4, 32) := by kernel_rfl

def CopyG (l : List G) (n : Nat) (w : World) (e : Ending) (w' : World) : Prop := ∃ g, e = .returned (.slice (some ⟨g, 0, none⟩) n n) ∧ w.heap.size ≤ g ∧ Blk w' g 26 (cellsG l).toArray ∧ Below w.heap.size w w'

theorem toGlueS_any (A : Option Addr) (n c : Nat) (l : List G) (w : World) (hn : n ≤ 1048576) (hl : l.length = n) (h : Rd w 4 A n (cellsG l)) :
    Calls Try.prog 26 #[.slice A n c] w (CopyG l n w) := by
  have hl' := hide hl
  clear hl
  obtain ⟨i0, hi, hz0, hz1, hz2⟩ := info_parts glue_info
  have hmk : ∀ W : World, (Instr.makeSlice 35 (.int .i64 (n : Int)) (.int .i64 (n : Int))).run Try.prog W = .ok (.slice (some ⟨W.heap.size, 0, none⟩) n n) (W.alloc (.cells (cellsG (List.replicate n ⟨0, 0, 0, 0⟩)).toArray 26)) := by
    intro W
    have := run_make_rowN (P := Try.prog) 35 26 i0 _ Try.underlying35 hi hz0 .i64 .i64 n n (Nat.le_refl _) (by rw [hz2]; omega) (by omega) W
    rw [hz1] at this
    rw [this]
    congr 2
    congr 1
    exact made_flat G.cells 4 (by omega) (fun _ => rfl) ⟨0, 0, 0, 0⟩ n
  clear hi hz0 hz1 hz2
  go_enter Try.func26, Try.ntmps26
  go_wp2
  go_loopw [4] (fun i wr => ∃ k : Nat, k ≤ n ∧ i = .int .i64 k ∧ Blk wr w.heap.size 26 (cellsG (fillTo ⟨0, 0, 0, 0⟩ l n k)).toArray ∧ Below w.heap.size w wr) (fun i _ => n - (intOf i).toNat)
  case atStart => exact ⟨0, Nat.zero_le _, rfl, by rw [fill_zero]; exact Blk.new _ _ _, by (repeat (first | exact Below.refl _ _ | assumption | refine Below.alloc ?_ (by first | assumption | omega | (simp; done) | (simp; omega)) _ | refine Below.setCell ?_ (by first | assumption | omega | (simp; done) | (simp; omega)) _ | refine below_drewN ?_ _ | refine Below.drew ?_))⟩
  case round =>
    obtain ⟨k, hk, rfl, hb, hw⟩ := hrel
    have hw' := hide hw
    have hb' := hide hb
    clear hmk
    by_cases hlt : k < n
    · obtain ⟨b, off, g, rfl, hbs, hg, c0, c1, c2, c3⟩ := (h.below hw).glue hl'.out hlt
      have hst := hide (fill_step (⟨0, 0, 0, 0⟩ : G) l n k g hl'.out hg)
      have hat := hide (fill_at (⟨0, 0, 0, 0⟩ : G) l n k hl'.out hlt)
      clear hg hw hb
      go_wp2_with fail
      refine (toGlue_any g _).mono ?_
      rintro e w1 ⟨rfl, hb1⟩
      have q := hb'.out.below' hb1
      obtain ⟨⟨d0, d1, d2, d3⟩, z0, z1, z2, z3⟩ := q.glueAt hat.out
      have q' := hide q
      have hs := q.lt
      have hb2 := hide (show Below w.heap.size w w1 from hw'.out.trans (hb1.mono hw'.out.size))
      clear hb1 q
      go_wp2
      go_roundw
      case rel =>
        refine ⟨k + 1, by omega, by go_num, ?_, ?_⟩
        · rw [← hst.out]
          exact Blk.setG (y := g) q'.out hat.out
        · have := hb2.out
          (repeat (first | exact Below.refl _ _ | assumption | refine Below.alloc ?_ (by first | assumption | omega | (simp; done) | (simp; omega)) _ | refine Below.setCell ?_ (by first | assumption | omega | (simp; done) | (simp; omega)) _ | refine below_drewN ?_ _ | refine Below.drew ?_))
      case measure => simp [intOf]; omega
    · have hf := fill_full (⟨0, 0, 0, 0⟩ : G) l n k hl'.out hlt
      rw [hf] at hb'
      clear hf hb hw
      go_wp2
      unfold CopyG
      go_ret
      exact ⟨_, rfl, Nat.le_refl _, hb'.out, hw'.out⟩
end Go.Proofs.Ytoiacijjbehioaa
