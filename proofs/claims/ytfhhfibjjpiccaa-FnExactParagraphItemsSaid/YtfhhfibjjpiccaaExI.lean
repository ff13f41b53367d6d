/- The exact laws' helpers on items: a copy; equal items are equal; the count. Condition: the slices read as the lists. -/
import Derived.Test.YtfhhfibjjpiccaaGlue
import Derived.Test.YtfhhfibjjpiccaaMade
import Derived.StillTailTactics
namespace Go.Proofs.Ytfhhfibjjpiccaa
open Go.RowKit
set_option linter.unusedVariables false
set_option linter.unusedSimpArgs false

abbrev iVal (i : I) : Value := .agg #[.int .i64 i.k, .int .i64 i.g.w, .int .i64 i.g.st, .int .i64 i.g.sh, .int .i64 i.g.o, .int .i64 i.c, .bool i.m]
theorem Blk.c7 {w : World} {g : Nat} {t : TypeId} {a b c d e f h : Value} (hb : Blk w g t #[a, b, c, d, e, f, h]) : w.cell? ⟨g, 0, none⟩ = some a ∧ w.cell? ⟨g, 1, none⟩ = some b ∧ w.cell? ⟨g, 2, none⟩ = some c ∧ w.cell? ⟨g, 3, none⟩ = some d ∧ w.cell? ⟨g, 4, none⟩ = some e ∧ w.cell? ⟨g, 5, none⟩ = some f ∧ w.cell? ⟨g, 6, none⟩ = some h :=
  ⟨hb.cell 0, hb.cell 1, hb.cell 2, hb.cell 3, hb.cell 4, hb.cell 5, hb.cell 6⟩
theorem Blk.f7 {w : World} {g : Nat} {t : TypeId} {cs : Array Value} (hb : Blk w g t cs) : w.frozen? ⟨g, 0, none⟩ = false ∧ w.frozen? ⟨g, 1, none⟩ = false ∧ w.frozen? ⟨g, 2, none⟩ = false ∧ w.frozen? ⟨g, 3, none⟩ = false ∧ w.frozen? ⟨g, 4, none⟩ = false ∧ w.frozen? ⟨g, 5, none⟩ = false ∧ w.frozen? ⟨g, 6, none⟩ = false :=
  ⟨hb.frozen 0, hb.frozen 1, hb.frozen 2, hb.frozen 3, hb.frozen 4, hb.frozen 5, hb.frozen 6⟩
set_option maxRecDepth 100000 in
set_option maxHeartbeats 1000000 in
theorem toItem_any (i : I) (w : World) :
    Calls Try.prog 59 #[.agg #[.int .i64 i.k, .int .i64 i.g.w, .int .i64 i.g.st, .int .i64 i.g.sh, .int .i64 i.g.o, .int .i64 i.c, .bool i.m]] w fun e w' => e = .returned (.agg #[.int .i64 i.k, .int .i64 i.g.w, .int .i64 i.g.st, .int .i64 i.g.sh, .int .i64 i.g.o, .int .i64 i.c, .bool i.m]) ∧ Below w.heap.size w w' := by
  go_enter Try.func59, Try.ntmps59
  go_wp2_with fail
  refine (toGlue_any i.g _).mono ?_
  rintro e w1 ⟨rfl, hb1⟩
  have k1 := Blk.new w 69 #[.int .i64 i.k, .int .i64 i.g.w, .int .i64 i.g.st, .int .i64 i.g.sh, .int .i64 i.g.o, .int .i64 i.c, .bool i.m]
  have k2 := Blk.new (w.alloc (.cells #[.int .i64 i.k, .int .i64 i.g.w, .int .i64 i.g.st, .int .i64 i.g.sh, .int .i64 i.g.o, .int .i64 i.c, .bool i.m] 69)) 65 #[.int .i64 0, .int .i64 0, .int .i64 0, .int .i64 0, .int .i64 0, .int .i64 0, .bool false]
  have k3 := Blk.new ((w.alloc (.cells #[.int .i64 i.k, .int .i64 i.g.w, .int .i64 i.g.st, .int .i64 i.g.sh, .int .i64 i.g.o, .int .i64 i.c, .bool i.m] 69)).alloc (.cells #[.int .i64 0, .int .i64 0, .int .i64 0, .int .i64 0, .int .i64 0, .int .i64 0, .bool false] 65)) 65 #[.int .i64 i.k, .int .i64 0, .int .i64 0, .int .i64 0, .int .i64 0, .int .i64 0, .bool false]
  have n1 := ((k1.alloc (.cells #[.int .i64 0, .int .i64 0, .int .i64 0, .int .i64 0, .int .i64 0, .int .i64 0, .bool false] 65)).alloc (.cells #[.int .i64 i.k, .int .i64 0, .int .i64 0, .int .i64 0, .int .i64 0, .int .i64 0, .bool false] 65)).below' hb1
  have n2 := (k2.alloc (.cells #[.int .i64 i.k, .int .i64 0, .int .i64 0, .int .i64 0, .int .i64 0, .int .i64 0, .bool false] 65)).below' hb1
  have n3 := k3.below' hb1
  have hb2 := ((((Below.refl w.heap.size w).alloc (Nat.le_refl _) (.cells #[.int .i64 i.k, .int .i64 i.g.w, .int .i64 i.g.st, .int .i64 i.g.sh, .int .i64 i.g.o, .int .i64 i.c, .bool i.m] 69)).alloc (by simp) (.cells #[.int .i64 0, .int .i64 0, .int .i64 0, .int .i64 0, .int .i64 0, .int .i64 0, .bool false] 65)).alloc (by simp; omega) (.cells #[.int .i64 i.k, .int .i64 0, .int .i64 0, .int .i64 0, .int .i64 0, .int .i64 0, .bool false] 65))
  have hb3 := hide (hb2.trans (hb1.mono (by simp; omega)))
  simp only [World.size_alloc] at n2 n3
  clear hb1 k1 k2 k3 hb2
  have e2 : w.heap.size ≤ w.heap.size + 1 := by omega
  have e3 : w.heap.size ≤ w.heap.size + 1 + 1 := by omega
  have d1 : ¬ w.heap.size + 1 = w.heap.size := by omega
  have d2 : ¬ w.heap.size + 1 + 1 = w.heap.size := by omega
  have d3 : ¬ w.heap.size + 1 + 1 = w.heap.size + 1 := by omega
  have d4 : ¬ w.heap.size = w.heap.size + 1 := by omega
  have d5 : ¬ w.heap.size = w.heap.size + 1 + 1 := by omega
  have d6 : ¬ w.heap.size + 1 = w.heap.size + 1 + 1 := by omega
  generalize w.heap.size + 1 + 1 = g3 at *
  generalize w.heap.size + 1 = g2 at *
  obtain ⟨a0, a1, a2, a3, a4, a5, a6⟩ := n1.c7
  obtain ⟨b0, b1, b2, b3, b4, b5, b6⟩ := n2.c7
  obtain ⟨c0, c1, c2, c3, c4, c5, c6⟩ := n3.c7
  obtain ⟨x0, x1, x2, x3, x4, x5, x6⟩ := n2.f7
  obtain ⟨y0, y1, y2, y3, y4, y5, y6⟩ := n3.f7
  clear n1 n2 n3
  go_wp2
  refine bodyPost_ret (v := .agg #[.int .i64 i.k, .int .i64 i.g.w, .int .i64 i.g.st, .int .i64 i.g.sh, .int .i64 i.g.o, .int .i64 i.c, .bool i.m]) (by simp [results, Try.results59, go_sem, b0, b1, b2, b3, b4, b5, b6]) rfl ⟨rfl, ?_⟩
  exact (((((((((((((hb3.out.setCell (p := ⟨g3, 1, none⟩) e3 _).setCell (p := ⟨g3, 2, none⟩) e3 _).setCell (p := ⟨g3, 3, none⟩) e3 _).setCell (p := ⟨g3, 4, none⟩) e3 _).setCell (p := ⟨g3, 5, none⟩) e3 _).setCell (p := ⟨g3, 6, none⟩) e3 _).setCell (p := ⟨g2, 0, none⟩) e2 _).setCell (p := ⟨g2, 1, none⟩) e2 _).setCell (p := ⟨g2, 2, none⟩) e2 _).setCell (p := ⟨g2, 3, none⟩) e2 _).setCell (p := ⟨g2, 4, none⟩) e2 _).setCell (p := ⟨g2, 5, none⟩) e2 _).setCell (p := ⟨g2, 6, none⟩) e2 _)
theorem eqGlueI (g : G) (w : World) :
    Calls Try.prog 72 #[.agg #[.int .i64 g.w, .int .i64 g.st, .int .i64 g.sh, .int .i64 g.o], .agg #[.int .i64 g.w, .int .i64 g.st, .int .i64 g.sh, .int .i64 g.o]] w fun e w' => e = .returned (.bool true) ∧ Below w.heap.size w w' := by
  go_enter Try.func72, Try.ntmps72
  go_wp2
  go_ret
  refine ⟨rfl, ?_⟩
  (repeat (first | exact Below.refl _ _ | assumption | refine Below.alloc ?_ (by first | assumption | omega | (simp; done) | (simp; omega)) _ | refine Below.setCell ?_ (by first | assumption | omega | (simp; done) | (simp; omega)) _ | refine below_drewN ?_ _ | refine Below.drew ?_))
theorem eqItem_same (i : I) (w : World) :
    Calls Try.prog 61 #[.agg #[.int .i64 i.k, .int .i64 i.g.w, .int .i64 i.g.st, .int .i64 i.g.sh, .int .i64 i.g.o, .int .i64 i.c, .bool i.m], .agg #[.int .i64 i.k, .int .i64 i.g.w, .int .i64 i.g.st, .int .i64 i.g.sh, .int .i64 i.g.o, .int .i64 i.c, .bool i.m]] w fun e w' => e = .returned (.bool true) ∧ Below w.heap.size w w' := by
  go_enter Try.func61, Try.ntmps61
  go_wp2_with fail
  refine (eqGlueI i.g _).mono ?_
  rintro e w1 ⟨rfl, hb1⟩
  obtain ⟨hcc, hff⟩ := bcell hb1
  have hb3 := hide ((((Below.refl w.heap.size w).alloc (Nat.le_refl _) _).alloc (by simp) _).trans (hb1.mono (by simp; omega)))
  clear hb1
  go_wp2
  go_ret
  exact ⟨rfl, hb3.out⟩
theorem szItemS_any (A : Option Addr) (n c : Nat) (w : World) (hn : n ≤ maxLen) :
    Calls Try.prog 32 #[.slice A n c, .int .i64 1048576] w fun e w' => e = .returned (.int .i64 (if n ≤ 1048576 then 1048576 - (n : Int) else -1)) ∧ w = w' := by
  unfold maxLen at hn
  by_cases h : n ≤ 1048576
  · rw [if_pos h]
    go_enter Try.func32, Try.ntmps32
    go_wp2
    go_ret
    exact ⟨rfl, rfl⟩
  · rw [if_neg h]
    go_enter Try.func32, Try.ntmps32
    go_wp2
    go_ret
    exact ⟨rfl, rfl⟩
set_option maxRecDepth 100000 in
theorem eqItemS_same (A B : Option Addr) (n c d : Nat) (l : List I) (w : World) (hn : n ≤ maxLen) (hl : l.length = n) (ha : Rd w 7 A n (cellsI l)) (hb : Rd w 7 B n (cellsI l)) :
    Calls Try.prog 37 #[.slice A n c, .slice B n d] w fun e w' => e = .returned (.bool true) ∧ Below w.heap.size w w' := by
  unfold maxLen at hn
  have hl' := hide hl
  clear hl
  go_enter Try.func37, Try.ntmps37
  go_wp2
  go_loopw [5] (fun i wr => ∃ k : Nat, k ≤ n ∧ i = .int .i64 k ∧ Below w.heap.size w wr) (fun i _ => n - (intOf i).toNat)
  case atStart => exact ⟨0, Nat.zero_le _, rfl, Below.refl _ _⟩
  case round =>
    obtain ⟨k, hk, rfl, hw⟩ := hrel
    have hw' := hide hw
    by_cases hlt : k < n
    · obtain ⟨b, off, x, rfl, hbs, hx, c0, c1, c2, c3, c4, c5, c6⟩ := (ha.below hw).item hl'.out hlt
      obtain ⟨b2, off2, x2, rfl, hbs2, hx2, d0, d1, d2, d3, d4, d5, d6⟩ := (hb.below hw).item hl'.out hlt
      rw [hx] at hx2
      obtain rfl := Option.some.inj hx2
      clear hx hw hx2
      go_wp2
      go_still_tail 8, (by kernel_rfl)
      go_wp2_with fail
      refine (eqItem_same x _).mono ?_
      rintro e w1 ⟨rfl, hb1⟩
      have hb2 := hide (show Below w.heap.size w w1 from hw'.out.drew.trans (hb1.mono hw'.out.size))
      clear hb1
      go_wp2
      go_roundw
      case rel => exact ⟨k + 1, by omega, by go_num, hb2.out⟩
      case measure => simp [intOf]; omega
    · go_wp2
      go_ret
      exact ⟨rfl, hw'.out⟩
theorem item_info : (Try.prog.info? 65).map (fun i => (i.zero, i.size, i.bytes)) = some (some (.agg #[.int .i64 0, .int .i64 0, .int .i64 0, .int .i64 0, .int .i64 0, .int .i64 0, .bool false]), 7, 56) := by kernel_rfl
def CopyI (l : List I) (n : Nat) (w : World) (e : Ending) (w' : World) : Prop := ∃ g, e = .returned (.slice (some ⟨g, 0, none⟩) n n) ∧ w.heap.size ≤ g ∧ Blk w' g 65 (cellsI l).toArray ∧ Below w.heap.size w w'
def i0z : I := ⟨0, ⟨0, 0, 0, 0⟩, 0, false⟩
set_option maxRecDepth 100000 in
set_option maxHeartbeats 1000000 in
theorem toItemS_any (A : Option Addr) (n c : Nat) (l : List I) (w : World) (hn : n ≤ 1048576) (hl : l.length = n) (h : Rd w 7 A n (cellsI l)) :
    Calls Try.prog 34 #[.slice A n c] w (CopyI l n w) := by
  have hl' := hide hl
  clear hl
  obtain ⟨i0, hi, hz0, hz1, hz2⟩ := info_parts item_info
  have hmk : ∀ W : World, (Instr.makeSlice 41 (.int .i64 (n : Int)) (.int .i64 (n : Int))).run Try.prog W = .ok (.slice (some ⟨W.heap.size, 0, none⟩) n n) (W.alloc (.cells (cellsI (List.replicate n i0z)).toArray 65)) := by
    intro W
    have := run_make_rowN (P := Try.prog) 41 65 i0 _ Try.underlying41 hi hz0 .i64 .i64 n n (Nat.le_refl _) (by rw [hz2]; omega) (by omega) W
    rw [hz1] at this
    rw [this]
    congr 2
    congr 1
    exact made_flat I.cells 7 (by omega) (fun _ => rfl) i0z n
  clear hi hz0 hz1 hz2
  go_enter Try.func34, Try.ntmps34
  go_wp2
  go_loopw [4] (fun i wr => ∃ k : Nat, k ≤ n ∧ i = .int .i64 k ∧ Blk wr w.heap.size 65 (cellsI (fillTo i0z l n k)).toArray ∧ Below w.heap.size w wr) (fun i _ => n - (intOf i).toNat)
  case atStart => exact ⟨0, Nat.zero_le _, rfl, by rw [fill_zero]; exact Blk.new _ _ _, by (repeat (first | exact Below.refl _ _ | assumption | refine Below.alloc ?_ (by first | assumption | omega | (simp; done) | (simp; omega)) _ | refine Below.setCell ?_ (by first | assumption | omega | (simp; done) | (simp; omega)) _ | refine below_drewN ?_ _ | refine Below.drew ?_))⟩
  case round =>
    obtain ⟨k, hk, rfl, hb, hw⟩ := hrel
    have hw' := hide hw
    have hb' := hide hb
    clear hmk
    by_cases hlt : k < n
    · obtain ⟨b, off, x, rfl, hbs, hx, c0, c1, c2, c3, c4, c5, c6⟩ := (h.below hw).item hl'.out hlt
      have hst := hide (fill_step i0z l n k x hl'.out hx)
      have hat := hide (fill_at i0z l n k hl'.out hlt)
      clear hx hw hb
      go_wp2_with fail
      refine (toItem_any x _).mono ?_
      rintro e w1 ⟨rfl, hb1⟩
      have q := hb'.out.below' hb1
      obtain ⟨⟨d0, d1, d2, d3, d4, d5, d6⟩, zz⟩ := q.itemAt hat.out
      have z0 := zz (k * 7)
      have z1 := zz (k * 7 + 1)
      have z2 := zz (k * 7 + 2)
      have z3 := zz (k * 7 + 3)
      have z4 := zz (k * 7 + 4)
      have z5 := zz (k * 7 + 5)
      have z6 := zz (k * 7 + 6)
      clear zz
      have q' := hide q
      have hs := q.lt
      have hb2 := hide (show Below w.heap.size w w1 from hw'.out.trans (hb1.mono hw'.out.size))
      clear hb1 q
      go_wp2
      go_roundw
      case rel =>
        refine ⟨k + 1, by omega, by go_num, ?_, ?_⟩
        · rw [← hst.out]
          exact Blk.setI (y := x) q'.out hat.out
        · exact (((((((hb2.out.setCell (p := ⟨w.heap.size, k * 7, none⟩) (Nat.le_refl _) _).setCell (p := ⟨w.heap.size, k * 7 + 1, none⟩) (Nat.le_refl _) _).setCell (p := ⟨w.heap.size, k * 7 + 2, none⟩) (Nat.le_refl _) _).setCell (p := ⟨w.heap.size, k * 7 + 3, none⟩) (Nat.le_refl _) _).setCell (p := ⟨w.heap.size, k * 7 + 4, none⟩) (Nat.le_refl _) _).setCell (p := ⟨w.heap.size, k * 7 + 5, none⟩) (Nat.le_refl _) _).setCell (p := ⟨w.heap.size, k * 7 + 6, none⟩) (Nat.le_refl _) _)
      case measure => simp [intOf]; omega
    · have hf := fill_full i0z l n k hl'.out hlt
      rw [hf] at hb'
      clear hf hb hw
      go_wp2
      unfold CopyI
      go_ret
      exact ⟨_, rfl, Nat.le_refl _, hb'.out, hw'.out⟩
end Go.Proofs.Ytfhhfibjjpiccaa
