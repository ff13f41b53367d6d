/- The walk through the reference's set glues. Condition: the glues are valid and not more than sixty, the width at most 60000. -/
import Derived.Test.YtoiacijjbehioaaGt
import Derived.Test.YtoiacijjbehioaaSetMath
import Derived.Test.YtoiacijjbehioaaMade
import Derived.Test.YtoiacijjbehioaaSetPost
import Derived.Deep.AppendLies
namespace Go.Proofs.Ytoiacijjbehioaa
open Go.RowKit
set_option linter.unusedVariables false
set_option linter.unusedSimpArgs false

theorem setAt_zero (f : G → Int) (al sgn : Int) (l : List G) (k : Nat) (g : G) : setAt f 0 al sgn l k g = g.w := by
  unfold setAt
  simp
def SpRel (l : List G) (width : Int) (w : World) (q : Nat) (s : Int) (k : Nat) (v b : Value) (wr : World) : Prop :=
  b = .int .i64 s ∧ wr.ownsRow w.heap.size 3 1 v k (cellsN (setTo l width k)) ∧ (∀ g, v.ownBlock = some g → g ≠ q) ∧
  Blk wr q 26 #[.int .i64 (totG l).w, .int .i64 (totG l).st, .int .i64 (totG l).sh, .int .i64 (totG l).o] ∧ Below w.heap.size w wr
theorem own_empty {w w' : World} {t : TypeId} (h : Blk w' w.heap.size t #[]) : w'.ownsRow w.heap.size t 1 (.slice (some ⟨w.heap.size, 0, none⟩) 0 0) 0 [] :=
  ⟨rfl, .inr ⟨w.heap.size, 0, #[], rfl, Nat.le_refl _, h, Nat.le_refl _, by simp [maxLen], rfl, rfl⟩⟩
theorem zero_sh {l : List G} {g : G} (hok : okA l) (hg : g ∈ l) (h : (totG l).sh = 0) : g.sh = 0 := by
  have h0 := (glueOk_true (hok g hg)).2.2.1
  obtain ⟨a, b, rfl⟩ := List.append_of_mem hg
  have e : (totG (a ++ g :: b)).sh = sumOf G.sh a + (g.sh + sumOf G.sh b) := by
    show sumOf G.sh (a ++ g :: b) = _
    rw [sumOf_append, sumOf_cons]
  have ha := (sumOf_bd G.sh 1000 a (fun x hx => by have := glueOk_true (hok x (by simp [hx])); omega)).1
  have hb := (sumOf_bd G.sh 1000 b (fun x hx => by have := glueOk_true (hok x (by simp [hx])); omega)).1
  omega

set_option maxRecDepth 100000 in
set_option maxHeartbeats 2000000 in
theorem spA (A : Option Addr) (n c : Nat) (l : List G) (m : Int) (w : World) (hn : n ≤ 60) (hl : l.length = n) (hok : okA l) (h : Rd w 4 A n (cellsG l)) (h0 : 0 ≤ m + (totG l).w) (h1 : m + (totG l).w ≤ 60000) (h9 : m = 0) :
    Calls Try.prog 31 #[.slice A n c, .int .i64 (m + (totG l).w)] w (SetPost l (m + (totG l).w) n w) := by
  have hbd := totG_bd hok
  obtain ⟨⟨t1, t2⟩, ⟨t3, t4⟩, ⟨t5, t6⟩, t7, t8⟩ := hbd
  have hm : m + (totG l).w - (totG l).w = m := by omega
  have hsh : Hid ((share l (m + (totG l).w)).q = 0 ∧ (share l (m + (totG l).w)).ok = true) := by
    by_cases hs : (totG l).st = 0
    · rw [share1 (by omega) hs]; exact ⟨rfl, by simp [h9]⟩
    · rw [share2 (by omega) hs]; exact ⟨by simp [h9], rfl⟩
  have e0 : (m == 0) = true := by simpa using h9
  have e1 : decide (0 < m) = false := by simp; omega
  have e2 : decide (m < 0) = false := by simp; omega
  have m1 : 0 ≤ m := by omega
  have m2 : m ≤ 0 := by omega
  clear h9
  have hg60 : glues60 l = true := by
    simp only [glues60, Bool.and_eq_true, decide_eq_true_eq]
    exact ⟨List.all_eq_true.2 hok, by omega⟩
  have hgt : GT l = totG l := by unfold GT; rw [if_pos hg60]
  have hgt' := hide hgt
  have hin := inB_mk (n := m + (totG l).w) (lo := 0) (hi := 60000) ⟨h0, h1⟩
  have hl' := hide hl
  have hok' := hide hok
  have hln : (1000 : Int) * l.length ≤ 60000 := by omega
  obtain ⟨i0, hi, hz0, hz1, hz2⟩ := info_parts int_info
  have hb0 := hide (Blk.new w 3 #[])
  have hrd := hide (h.alloc (.cells #[] 3))
  clear hl hok hgt hm
  go_enter Try.func31, Try.ntmps31
  go_wp2_with fail
  refine (l1Valid_any A n c l _ (by unfold maxLen; omega) hl'.out hrd.out).mono ?_
  rintro e w1 ⟨rfl, hb1⟩
  have hb2 := hide (hb0.out.below' hb1)
  have hr2 := hide (hrd.out.below hb1)
  have hw1 := hide (((Below.refl w.heap.size w).alloc (Nat.le_refl _) (.cells #[] 3)).trans (hb1.mono (by simp)))
  clear hb1
  rw [hg60]
  go_wp2_with (go_at_call 49; refine (l1In_any _ _ _ _).mono ?_; rintro e w' ⟨rfl, rfl⟩)
  refine (specGT A n c l _ (by unfold maxLen; omega) hl'.out hr2.out).mono ?_
  rintro e w2 ⟨rfl, hbb⟩
  rw [hgt'.out]
  have hb3 := hide (hb2.out.below' hbb)
  have hw2 := hide (hw1.out.trans (hbb.mono hw1.out.size))
  have hs2 := hw2.out.size
  have hlt2 := hb3.out.lt
  clear hbb
  go_wp2
  go_loopw [6, 9, 10] (fun v b i wr => ∃ k : Nat, k ≤ n ∧ i = .int .i64 k ∧ SpRel l (m + (totG l).w) w w2.heap.size (0) k v b wr) (fun _ _ i _ => n - (intOf i).toNat)
  case atStart =>
    exact ⟨0, Nat.zero_le _, rfl, rfl, own_empty (hb3.out.alloc _), fun g hg => by simp [Value.ownBlock] at hg; omega, Blk.new _ _ _, hw2.out.alloc hs2 _⟩
  case round =>
    obtain ⟨k, hk, rfl, rfl, hown, hne, hq, hb⟩ := hrel
    obtain ⟨d0, d1, d2, d3, y0, y1, y2, y3⟩ := hq.c4
    have hq' := hide hq
    have hb' := hide hb
    have hown' := hide hown
    have hne' := hide hne
    have hql := hq.lt
    have hbs := hb.size
    by_cases hlt : k < n
    · obtain ⟨b, off, g, rfl, hbs3, hg, c0, c1, c2, c3⟩ := (h.below hb).glue hl'.out hlt
      have hgm := List.mem_of_getElem? hg
      have hgo := glueOk_true (hok'.out g hgm)
      obtain ⟨⟨g1, g2⟩, ⟨g3, g4⟩, ⟨g5, g6⟩, g7, g8⟩ := hgo
      have hst := hide (setTo_step l (m + (totG l).w) k g hg)
      have hg' := hide hg
      have hgm' := hide hgm
      clear hg hgm hq hb hown hne
      go_wp2_with (at_builtin; refine wpList_append_lies _ rfl _ _ 41 rfl w.heap.size 3 i0 (.int .i64 0) 1 8 Try.underlying41 hi hz0 hz1 hz2 rfl (by decide) _ _ _ rfl ((hown'.out.alloc _).alloc _) ⟨wr.heap.size + 1, 0, none⟩ 1 1 [.int .i64 (g.w)] rfl rfl (fun j u hj => cell_one_at (by simp) hj) (one_cells _) (by omega) (by unfold maxLen; omega) (by omega) (by simp; omega) _ rfl ?_)
      intro g3 cap3 w3 hown3 hg3 hat3 hlt3
      have hX := hide (show g.w = setAt (fOf l (share l (m + (totG l).w)).neg) (share l (m + (totG l).w)).q (share l (m + (totG l).w)).all (sgnOf (share l (m + (totG l).w)).neg) l k g by rw [hsh.out.1, setAt_zero])
      rw [hX.out] at hown3
      have hown4 := hide hown3
      have hvb := hide (fun kk hkk => (hown'.out.lt kk hkk))
      have q3 := hide (Blk.grown ((hq'.out.alloc (.cells #[.int .i64 g.w, .int .i64 g.st, .int .i64 g.sh, .int .i64 g.o] 26)).alloc (.cells #[.int .i64 (g.w)] 3)) hg3 (fun e => hne'.out _ e.symm rfl))
      have hb4 := hide (((hb'.out.alloc hb'.out.size (.cells #[.int .i64 g.w, .int .i64 g.st, .int .i64 g.sh, .int .i64 g.o] 26)).alloc (by simp; omega) (.cells #[.int .i64 (g.w)] 3)).grown hg3 (by simp; omega) (fun kk hkk => (hvb.out kk hkk).1))
      have hne4 : g3 ≠ w2.heap.size := by
        rcases hat3 with h4 | h4
        · exact hne'.out _ h4
        · first | omega | (simp at h4; omega)
      clear hown3 hg3 hat3
      go_wp2
      go_roundw
      case rel =>
        refine ⟨k + 1, by omega, by go_num, rfl, ?_, fun gg hgg => by simp [Value.ownBlock] at hgg; omega, q3.out, hb4.out⟩
        have := hown4.out
        rw [hst.out]
        simpa [cellsN] using this
      case measure => simp [intOf]; omega
    · have hf := setTo_full l (m + (totG l).w) k n hl'.out hlt
      obtain rfl : k = n := by omega
      rw [hf] at hown'
      have hok2 := hide (show (share l (m + (totG l).w)).ok = true by rw [hsh.out.2])
      clear hf hq hb hown hne
      go_wp2
      go_quiet (fail)
      go_wp2
      unfold SetPost
      go_ret2
      refine ⟨_, by rw [hok2.out]; rfl, hown'.out, below_drewN hb'.out _⟩

set_option maxRecDepth 100000 in
set_option maxHeartbeats 2000000 in
theorem spB (A : Option Addr) (n c : Nat) (l : List G) (m : Int) (w : World) (hn : n ≤ 60) (hl : l.length = n) (hok : okA l) (h : Rd w 4 A n (cellsG l)) (h0 : 0 ≤ m + (totG l).w) (h1 : m + (totG l).w ≤ 60000) (h9 : 0 < m) (hs : (totG l).st = 0) :
    Calls Try.prog 31 #[.slice A n c, .int .i64 (m + (totG l).w)] w (SetPost l (m + (totG l).w) n w) := by
  have hbd := totG_bd hok
  obtain ⟨⟨t1, t2⟩, ⟨t3, t4⟩, ⟨t5, t6⟩, t7, t8⟩ := hbd
  have hm : m + (totG l).w - (totG l).w = m := by omega
  have hsh := hide (share1 (l := l) (width := m + (totG l).w) (by omega) hs)
  have hmz := hide (show decide (m + (totG l).w - (totG l).w = 0) = false by simp; omega)
  have e0 : (m == 0) = false := by simp; omega
  have e1 : decide (0 < m) = true := by simp; omega
  have e2 : decide (m < 0) = false := by simp; omega
  have e3 : decide (0 < (totG l).st) = false := by simp; omega
  clear hs
  have hg60 : glues60 l = true := by
    simp only [glues60, Bool.and_eq_true, decide_eq_true_eq]
    exact ⟨List.all_eq_true.2 hok, by omega⟩
  have hgt : GT l = totG l := by unfold GT; rw [if_pos hg60]
  have hgt' := hide hgt
  have hin := inB_mk (n := m + (totG l).w) (lo := 0) (hi := 60000) ⟨h0, h1⟩
  have hl' := hide hl
  have hok' := hide hok
  have hln : (1000 : Int) * l.length ≤ 60000 := by omega
  obtain ⟨i0, hi, hz0, hz1, hz2⟩ := info_parts int_info
  have hb0 := hide (Blk.new w 3 #[])
  have hrd := hide (h.alloc (.cells #[] 3))
  clear hl hok hgt hm
  go_enter Try.func31, Try.ntmps31
  go_wp2_with fail
  refine (l1Valid_any A n c l _ (by unfold maxLen; omega) hl'.out hrd.out).mono ?_
  rintro e w1 ⟨rfl, hb1⟩
  have hb2 := hide (hb0.out.below' hb1)
  have hr2 := hide (hrd.out.below hb1)
  have hw1 := hide (((Below.refl w.heap.size w).alloc (Nat.le_refl _) (.cells #[] 3)).trans (hb1.mono (by simp)))
  clear hb1
  rw [hg60]
  go_wp2_with (go_at_call 49; refine (l1In_any _ _ _ _).mono ?_; rintro e w' ⟨rfl, rfl⟩)
  refine (specGT A n c l _ (by unfold maxLen; omega) hl'.out hr2.out).mono ?_
  rintro e w2 ⟨rfl, hbb⟩
  rw [hgt'.out]
  have hb3 := hide (hb2.out.below' hbb)
  have hw2 := hide (hw1.out.trans (hbb.mono hw1.out.size))
  have hs2 := hw2.out.size
  have hlt2 := hb3.out.lt
  clear hbb
  go_wp2
  go_loopw [6, 9, 10] (fun v b i wr => ∃ k : Nat, k ≤ n ∧ i = .int .i64 k ∧ SpRel l (m + (totG l).w) w w2.heap.size (0) k v b wr) (fun _ _ i _ => n - (intOf i).toNat)
  case atStart =>
    exact ⟨0, Nat.zero_le _, rfl, rfl, own_empty (hb3.out.alloc _), fun g hg => by simp [Value.ownBlock] at hg; omega, Blk.new _ _ _, hw2.out.alloc hs2 _⟩
  case round =>
    obtain ⟨k, hk, rfl, rfl, hown, hne, hq, hb⟩ := hrel
    obtain ⟨d0, d1, d2, d3, y0, y1, y2, y3⟩ := hq.c4
    have hq' := hide hq
    have hb' := hide hb
    have hown' := hide hown
    have hne' := hide hne
    have hql := hq.lt
    have hbs := hb.size
    by_cases hlt : k < n
    · obtain ⟨b, off, g, rfl, hbs3, hg, c0, c1, c2, c3⟩ := (h.below hb).glue hl'.out hlt
      have hgm := List.mem_of_getElem? hg
      have hgo := glueOk_true (hok'.out g hgm)
      obtain ⟨⟨g1, g2⟩, ⟨g3, g4⟩, ⟨g5, g6⟩, g7, g8⟩ := hgo
      have hst := hide (setTo_step l (m + (totG l).w) k g hg)
      have hg' := hide hg
      have hgm' := hide hgm
      clear hg hgm hq hb hown hne
      by_cases ho : g.o = (totG l).o
      · have ho' : (g.o == (totG l).o) = true := by simpa using ho
        clear ho
        go_wp2_with (at_builtin; refine wpList_append_lies _ rfl _ _ 41 rfl w.heap.size 3 i0 (.int .i64 0) 1 8 Try.underlying41 hi hz0 hz1 hz2 rfl (by decide) _ _ _ rfl ((hown'.out.alloc _).alloc _) ⟨wr.heap.size + 1, 0, none⟩ 1 1 [.int .i64 (g.w)] rfl rfl (fun j u hj => cell_one_at (by simp) hj) (one_cells _) (by omega) (by unfold maxLen; omega) (by omega) (by simp; omega) _ rfl ?_)
        intro g3 cap3 w3 hown3 hg3 hat3 hlt3
        have hX := hide (show g.w = setAt (fOf l (share l (m + (totG l).w)).neg) (share l (m + (totG l).w)).q (share l (m + (totG l).w)).all (sgnOf (share l (m + (totG l).w)).neg) l k g by rw [hsh.out]; exact (setAt_zero _ _ _ _ _ _).symm)
        rw [hX.out] at hown3
        have hown4 := hide hown3
        have hvb := hide (fun kk hkk => (hown'.out.lt kk hkk))
        have q3 := hide (Blk.grown ((hq'.out.alloc (.cells #[.int .i64 g.w, .int .i64 g.st, .int .i64 g.sh, .int .i64 g.o] 26)).alloc (.cells #[.int .i64 (g.w)] 3)) hg3 (fun e => hne'.out _ e.symm rfl))
        have hb4 := hide (((hb'.out.alloc hb'.out.size (.cells #[.int .i64 g.w, .int .i64 g.st, .int .i64 g.sh, .int .i64 g.o] 26)).alloc (by simp; omega) (.cells #[.int .i64 (g.w)] 3)).grown hg3 (by simp; omega) (fun kk hkk => (hvb.out kk hkk).1))
        have hne4 : g3 ≠ w2.heap.size := by
          rcases hat3 with h4 | h4
          · exact hne'.out _ h4
          · first | omega | (simp at h4; omega)
        clear hown3 hg3 hat3
        go_wp2
        go_roundw
        case rel =>
          refine ⟨k + 1, by omega, by go_num, rfl, ?_, fun gg hgg => by simp [Value.ownBlock] at hgg; omega, q3.out, hb4.out⟩
          have := hown4.out
          rw [hst.out]
          simpa [cellsN] using this
        case measure => simp [intOf]; omega
      · have ho' : (g.o == (totG l).o) = false := by simpa using ho
        clear ho
        go_wp2_with (at_builtin; refine wpList_append_lies _ rfl _ _ 41 rfl w.heap.size 3 i0 (.int .i64 0) 1 8 Try.underlying41 hi hz0 hz1 hz2 rfl (by decide) _ _ _ rfl ((hown'.out.alloc _).alloc _) ⟨wr.heap.size + 1, 0, none⟩ 1 1 [.int .i64 (g.w)] rfl rfl (fun j u hj => cell_one_at (by simp) hj) (one_cells _) (by omega) (by unfold maxLen; omega) (by omega) (by simp; omega) _ rfl ?_)
        intro g3 cap3 w3 hown3 hg3 hat3 hlt3
        have hX := hide (show g.w = setAt (fOf l (share l (m + (totG l).w)).neg) (share l (m + (totG l).w)).q (share l (m + (totG l).w)).all (sgnOf (share l (m + (totG l).w)).neg) l k g by rw [hsh.out]; exact (setAt_zero _ _ _ _ _ _).symm)
        rw [hX.out] at hown3
        have hown4 := hide hown3
        have hvb := hide (fun kk hkk => (hown'.out.lt kk hkk))
        have q3 := hide (Blk.grown ((hq'.out.alloc (.cells #[.int .i64 g.w, .int .i64 g.st, .int .i64 g.sh, .int .i64 g.o] 26)).alloc (.cells #[.int .i64 (g.w)] 3)) hg3 (fun e => hne'.out _ e.symm rfl))
        have hb4 := hide (((hb'.out.alloc hb'.out.size (.cells #[.int .i64 g.w, .int .i64 g.st, .int .i64 g.sh, .int .i64 g.o] 26)).alloc (by simp; omega) (.cells #[.int .i64 (g.w)] 3)).grown hg3 (by simp; omega) (fun kk hkk => (hvb.out kk hkk).1))
        have hne4 : g3 ≠ w2.heap.size := by
          rcases hat3 with h4 | h4
          · exact hne'.out _ h4
          · first | omega | (simp at h4; omega)
        clear hown3 hg3 hat3
        go_wp2
        go_roundw
        case rel =>
          refine ⟨k + 1, by omega, by go_num, rfl, ?_, fun gg hgg => by simp [Value.ownBlock] at hgg; omega, q3.out, hb4.out⟩
          have := hown4.out
          rw [hst.out]
          simpa [cellsN] using this
        case measure => simp [intOf]; omega
    · have hf := setTo_full l (m + (totG l).w) k n hl'.out hlt
      obtain rfl : k = n := by omega
      rw [hf] at hown'
      have hok2 := hide (show (share l (m + (totG l).w)).ok = false by rw [hsh.out]; exact hmz.out)
      clear hf hq hb hown hne
      go_wp2
      go_quiet (fail)
      go_wp2
      unfold SetPost
      go_ret2
      refine ⟨_, by rw [hok2.out]; rfl, hown'.out, below_drewN hb'.out _⟩

set_option maxRecDepth 100000 in
set_option maxHeartbeats 2000000 in
theorem spC (A : Option Addr) (n c : Nat) (l : List G) (m : Int) (w : World) (hn : n ≤ 60) (hl : l.length = n) (hok : okA l) (h : Rd w 4 A n (cellsG l)) (h0 : 0 ≤ m + (totG l).w) (h1 : m + (totG l).w ≤ 60000) (h9 : 0 < m) (hs : 0 < (totG l).st) :
    Calls Try.prog 31 #[.slice A n c, .int .i64 (m + (totG l).w)] w (SetPost l (m + (totG l).w) n w) := by
  have hbd := totG_bd hok
  obtain ⟨⟨t1, t2⟩, ⟨t3, t4⟩, ⟨t5, t6⟩, t7, t8⟩ := hbd
  have hm : m + (totG l).w - (totG l).w = m := by omega
  have hsh := hide (share2 (l := l) (width := m + (totG l).w) (by omega) (by omega))
  have hmm := hide hm
  have e0 : (m == 0) = false := by simp; omega
  have e1 : decide (0 < m) = true := by simp; omega
  have e2 : decide (m < 0) = false := by simp; omega
  have e3 : decide (0 < (totG l).st) = true := by simpa using hs
  have hg60 : glues60 l = true := by
    simp only [glues60, Bool.and_eq_true, decide_eq_true_eq]
    exact ⟨List.all_eq_true.2 hok, by omega⟩
  have hgt : GT l = totG l := by unfold GT; rw [if_pos hg60]
  have hgt' := hide hgt
  have hin := inB_mk (n := m + (totG l).w) (lo := 0) (hi := 60000) ⟨h0, h1⟩
  have hl' := hide hl
  have hok' := hide hok
  have hln : (1000 : Int) * l.length ≤ 60000 := by omega
  obtain ⟨i0, hi, hz0, hz1, hz2⟩ := info_parts int_info
  have hb0 := hide (Blk.new w 3 #[])
  have hrd := hide (h.alloc (.cells #[] 3))
  clear hl hok hgt hm
  go_enter Try.func31, Try.ntmps31
  go_wp2_with fail
  refine (l1Valid_any A n c l _ (by unfold maxLen; omega) hl'.out hrd.out).mono ?_
  rintro e w1 ⟨rfl, hb1⟩
  have hb2 := hide (hb0.out.below' hb1)
  have hr2 := hide (hrd.out.below hb1)
  have hw1 := hide (((Below.refl w.heap.size w).alloc (Nat.le_refl _) (.cells #[] 3)).trans (hb1.mono (by simp)))
  clear hb1
  rw [hg60]
  go_wp2_with (go_at_call 49; refine (l1In_any _ _ _ _).mono ?_; rintro e w' ⟨rfl, rfl⟩)
  refine (specGT A n c l _ (by unfold maxLen; omega) hl'.out hr2.out).mono ?_
  rintro e w2 ⟨rfl, hbb⟩
  rw [hgt'.out]
  have hb3 := hide (hb2.out.below' hbb)
  have hw2 := hide (hw1.out.trans (hbb.mono hw1.out.size))
  have hs2 := hw2.out.size
  have hlt2 := hb3.out.lt
  clear hbb
  go_wp2
  go_loopw [6, 9, 10] (fun v b i wr => ∃ k : Nat, k ≤ n ∧ i = .int .i64 k ∧ SpRel l (m + (totG l).w) w w2.heap.size (sumOf (stAt (totG l).o) (l.take k)) k v b wr) (fun _ _ i _ => n - (intOf i).toNat)
  case atStart =>
    exact ⟨0, Nat.zero_le _, rfl, rfl, own_empty (hb3.out.alloc _), fun g hg => by simp [Value.ownBlock] at hg; omega, Blk.new _ _ _, hw2.out.alloc hs2 _⟩
  case round =>
    obtain ⟨k, hk, rfl, rfl, hown, hne, hq, hb⟩ := hrel
    obtain ⟨d0, d1, d2, d3, y0, y1, y2, y3⟩ := hq.c4
    have hq' := hide hq
    have hb' := hide hb
    have hown' := hide hown
    have hne' := hide hne
    have hql := hq.lt
    have hbs := hb.size
    by_cases hlt : k < n
    · obtain ⟨b, off, g, rfl, hbs3, hg, c0, c1, c2, c3⟩ := (h.below hb).glue hl'.out hlt
      have hgm := List.mem_of_getElem? hg
      have hgo := glueOk_true (hok'.out g hgm)
      obtain ⟨⟨g1, g2⟩, ⟨g3, g4⟩, ⟨g5, g6⟩, g7, g8⟩ := hgo
      have hst := hide (setTo_step l (m + (totG l).w) k g hg)
      have hg' := hide hg
      have hgm' := hide hgm
      clear hg hgm hq hb hown hne
      have hSb := sum_take_bd (stAt (totG l).o) k hl'.out (by omega) (fun x hx => by have := glueOk_true (hok'.out x hx); first | omega | (unfold stAt; split <;> omega))
      have hSc : sumOf (stAt (totG l).o) (l.take k) ≤ 60000 := by
        have hh := sumOf_bd (stAt (totG l).o) 1000 (l.take k) (fun x hx => by have := glueOk_true (hok'.out x (List.mem_of_mem_take hx)); first | omega | (unfold stAt; split <;> omega))
        have : (l.take k).length ≤ n := by rw [List.length_take]; omega
        omega
      have hsm := hide (sum_step (stAt (totG l).o) hg')
      generalize hS : sumOf (stAt (totG l).o) (l.take k) = S at hSb hSc hsm ⊢
      have hS' := hide hS
      clear hS
      by_cases ho : g.o = (totG l).o
      · have ho' : (g.o == (totG l).o) = true := by simpa using ho
        have hF := hide (show stAt (totG l).o g = g.st from if_pos ho)
        clear ho
        have hq0 : 0 ≤ m := by omega
        have hq1 : m ≤ 60000 := by omega
        have pa := prod_bd (q := m) (s := S + g.st) hq0 hq1 (by omega) (by omega)
        have pb := prod_bd (q := m) (s := S) hq0 hq1 (by omega) (by omega)
        obtain ⟨pa1, pa2⟩ := pa
        obtain ⟨pb1, pb2⟩ := pb
        have ra := quot_bd (b := (totG l).st) pa1 pa2 (by omega)
        have rb := quot_bd (b := (totG l).st) pb1 pb2 (by omega)
        obtain ⟨ra1, ra2⟩ := ra
        obtain ⟨rb1, rb2⟩ := rb
        have hw0 : IntKind.i64.wrap (S + g.st) = S + g.st := IntWalk.i64_in _ (by omega)
        have hw9 : IntKind.i64.wrap m = m := IntWalk.i64_in _ (by omega)
        have hw1 : IntKind.i64.wrap (m * (S + g.st)) = m * (S + g.st) := IntWalk.i64_in _ (by omega)
        have hw2 : IntKind.i64.wrap (m * S) = m * S := IntWalk.i64_in _ (by omega)
        have ht1 : (m * (S + g.st)).tdiv (totG l).st = m * (S + g.st) / (totG l).st := Int.tdiv_eq_ediv_of_nonneg pa1
        have ht2 : (m * S).tdiv (totG l).st = m * S / (totG l).st := Int.tdiv_eq_ediv_of_nonneg pb1
        have hw3 : IntKind.i64.wrap (m * (S + g.st) / (totG l).st) = m * (S + g.st) / (totG l).st := IntWalk.i64_in _ (by omega)
        have hw4 : IntKind.i64.wrap (m * S / (totG l).st) = m * S / (totG l).st := IntWalk.i64_in _ (by omega)
        have hw5 : IntKind.i64.wrap (m * (S + g.st) / (totG l).st - m * S / (totG l).st) = m * (S + g.st) / (totG l).st - m * S / (totG l).st := IntWalk.i64_in _ (by omega)
        have hw6 : IntKind.i64.wrap (-(m * (S + g.st) / (totG l).st - m * S / (totG l).st)) = -(m * (S + g.st) / (totG l).st - m * S / (totG l).st) := IntWalk.i64_in _ (by omega)
        have hnz : ¬ (totG l).st = 0 := by omega
        go_wp2
        go_quiet (fail)
        clear hw0 hw9 hw1 hw2 ht1 ht2 hw3 hw4 hw5 hw6
        go_wp2_with (at_builtin; refine wpList_append_lies _ rfl _ _ 41 rfl w.heap.size 3 i0 (.int .i64 0) 1 8 Try.underlying41 hi hz0 hz1 hz2 rfl (by decide) _ _ _ rfl (own_below ((hown'.out.alloc _).alloc _) (below_drewN (Below.refl _ _) _)) ⟨wr.heap.size + 1, 0, none⟩ 1 1 [.int .i64 (g.w + (m * (S + g.st) / (totG l).st - m * S / (totG l).st))] rfl rfl (fun j u hj => cell_one_at (by simp) hj) (one_cells _) (by omega) (by unfold maxLen; omega) (by omega) (by simp; omega) _ rfl ?_)
        intro g3 cap3 w3 hown3 hg3 hat3 hlt3
        have hX := hide (show g.w + (m * (S + g.st) / (totG l).st - m * S / (totG l).st) = setAt (fOf l (share l (m + (totG l).w)).neg) (share l (m + (totG l).w)).q (share l (m + (totG l).w)).all (sgnOf (share l (m + (totG l).w)).neg) l k g by rw [hsh.out]; show _ = g.w + 1 * ((m + (totG l).w - (totG l).w) * (sumOf (stAt (totG l).o) (l.take k) + stAt (totG l).o g) / (totG l).st - (m + (totG l).w - (totG l).w) * sumOf (stAt (totG l).o) (l.take k) / (totG l).st); rw [hmm.out, hS'.out, hF.out, Int.one_mul])
        rw [hX.out] at hown3
        have hown4 := hide hown3
        have hvb := hide (fun kk hkk => (hown'.out.lt kk hkk))
        have q3 := hide (Blk.grown (Blk.drewN ((hq'.out.alloc (.cells #[.int .i64 g.w, .int .i64 g.st, .int .i64 g.sh, .int .i64 g.o] 26)).alloc (.cells #[.int .i64 (g.w + (m * (S + g.st) / (totG l).st - m * S / (totG l).st))] 3)) _) hg3 (fun e => hne'.out _ e.symm rfl))
        have hb4 := hide ((below_drewN ((hb'.out.alloc hb'.out.size (.cells #[.int .i64 g.w, .int .i64 g.st, .int .i64 g.sh, .int .i64 g.o] 26)).alloc (by simp; omega) (.cells #[.int .i64 (g.w + (m * (S + g.st) / (totG l).st - m * S / (totG l).st))] 3)) _).grown hg3 (by simp; omega) (fun kk hkk => (hvb.out kk hkk).1))
        have hne4 : g3 ≠ w2.heap.size := by
          rcases hat3 with h4 | h4
          · exact hne'.out _ h4
          · first | omega | (simp at h4; omega)
        clear hown3 hg3 hat3
        go_wp2
        go_roundw
        case rel =>
          refine ⟨k + 1, by omega, by go_num, by rw [hsm.out, hF.out], ?_, fun gg hgg => by simp [Value.ownBlock] at hgg; omega, q3.out, hb4.out⟩
          have := hown4.out
          rw [hst.out]
          simpa [cellsN] using this
        case measure => simp [intOf]; omega
      · have ho' : (g.o == (totG l).o) = false := by simpa using ho
        have hF := hide (show stAt (totG l).o g = 0 from if_neg ho)
        clear ho
        go_wp2_with (at_builtin; refine wpList_append_lies _ rfl _ _ 41 rfl w.heap.size 3 i0 (.int .i64 0) 1 8 Try.underlying41 hi hz0 hz1 hz2 rfl (by decide) _ _ _ rfl ((hown'.out.alloc _).alloc _) ⟨wr.heap.size + 1, 0, none⟩ 1 1 [.int .i64 (g.w)] rfl rfl (fun j u hj => cell_one_at (by simp) hj) (one_cells _) (by omega) (by unfold maxLen; omega) (by omega) (by simp; omega) _ rfl ?_)
        intro g3 cap3 w3 hown3 hg3 hat3 hlt3
        have hX := hide (show g.w = setAt (fOf l (share l (m + (totG l).w)).neg) (share l (m + (totG l).w)).q (share l (m + (totG l).w)).all (sgnOf (share l (m + (totG l).w)).neg) l k g by rw [hsh.out]; show _ = g.w + 1 * ((m + (totG l).w - (totG l).w) * (sumOf (stAt (totG l).o) (l.take k) + stAt (totG l).o g) / (totG l).st - (m + (totG l).w - (totG l).w) * sumOf (stAt (totG l).o) (l.take k) / (totG l).st); rw [hmm.out, hS'.out, hF.out, Int.one_mul, Int.add_zero, Int.sub_self, Int.add_zero])
        rw [hX.out] at hown3
        have hown4 := hide hown3
        have hvb := hide (fun kk hkk => (hown'.out.lt kk hkk))
        have q3 := hide (Blk.grown ((hq'.out.alloc (.cells #[.int .i64 g.w, .int .i64 g.st, .int .i64 g.sh, .int .i64 g.o] 26)).alloc (.cells #[.int .i64 (g.w)] 3)) hg3 (fun e => hne'.out _ e.symm rfl))
        have hb4 := hide (((hb'.out.alloc hb'.out.size (.cells #[.int .i64 g.w, .int .i64 g.st, .int .i64 g.sh, .int .i64 g.o] 26)).alloc (by simp; omega) (.cells #[.int .i64 (g.w)] 3)).grown hg3 (by simp; omega) (fun kk hkk => (hvb.out kk hkk).1))
        have hne4 : g3 ≠ w2.heap.size := by
          rcases hat3 with h4 | h4
          · exact hne'.out _ h4
          · first | omega | (simp at h4; omega)
        clear hown3 hg3 hat3
        go_wp2
        go_roundw
        case rel =>
          refine ⟨k + 1, by omega, by go_num, by rw [hsm.out, hF.out, Int.add_zero], ?_, fun gg hgg => by simp [Value.ownBlock] at hgg; omega, q3.out, hb4.out⟩
          have := hown4.out
          rw [hst.out]
          simpa [cellsN] using this
        case measure => simp [intOf]; omega
    · have hf := setTo_full l (m + (totG l).w) k n hl'.out hlt
      obtain rfl : k = n := by omega
      rw [hf] at hown'
      have hok2 := hide (show (share l (m + (totG l).w)).ok = true by rw [hsh.out])
      clear hf hq hb hown hne
      go_wp2
      go_quiet (fail)
      go_wp2
      unfold SetPost
      go_ret2
      refine ⟨_, by rw [hok2.out]; rfl, hown'.out, below_drewN hb'.out _⟩

set_option maxRecDepth 100000 in
set_option maxHeartbeats 2000000 in
theorem spD (A : Option Addr) (n c : Nat) (l : List G) (m : Int) (w : World) (hn : n ≤ 60) (hl : l.length = n) (hok : okA l) (h : Rd w 4 A n (cellsG l)) (h0 : 0 ≤ m + (totG l).w) (h1 : m + (totG l).w ≤ 60000) (h9 : m < 0) (hs : -m ≤ (totG l).sh) :
    Calls Try.prog 31 #[.slice A n c, .int .i64 (m + (totG l).w)] w (SetPost l (m + (totG l).w) n w) := by
  have hbd := totG_bd hok
  obtain ⟨⟨t1, t2⟩, ⟨t3, t4⟩, ⟨t5, t6⟩, t7, t8⟩ := hbd
  have hm : m + (totG l).w - (totG l).w = m := by omega
  have hsh := hide (share3 (l := l) (width := m + (totG l).w) (by omega) (by omega))
  have hmm := hide hm
  have e0 : (m == 0) = false := by simp; omega
  have e1 : decide (0 < m) = false := by simp; omega
  have e2 : decide (m < 0) = true := by simp; omega
  have e3 : decide (-m ≤ (totG l).sh) = true := by simp; omega
  have e4 : decide ((totG l).sh < -m) = false := by simp; omega
  have hg60 : glues60 l = true := by
    simp only [glues60, Bool.and_eq_true, decide_eq_true_eq]
    exact ⟨List.all_eq_true.2 hok, by omega⟩
  have hgt : GT l = totG l := by unfold GT; rw [if_pos hg60]
  have hgt' := hide hgt
  have hin := inB_mk (n := m + (totG l).w) (lo := 0) (hi := 60000) ⟨h0, h1⟩
  have hl' := hide hl
  have hok' := hide hok
  have hln : (1000 : Int) * l.length ≤ 60000 := by omega
  obtain ⟨i0, hi, hz0, hz1, hz2⟩ := info_parts int_info
  have hb0 := hide (Blk.new w 3 #[])
  have hrd := hide (h.alloc (.cells #[] 3))
  clear hl hok hgt hm
  go_enter Try.func31, Try.ntmps31
  go_wp2_with fail
  refine (l1Valid_any A n c l _ (by unfold maxLen; omega) hl'.out hrd.out).mono ?_
  rintro e w1 ⟨rfl, hb1⟩
  have hb2 := hide (hb0.out.below' hb1)
  have hr2 := hide (hrd.out.below hb1)
  have hw1 := hide (((Below.refl w.heap.size w).alloc (Nat.le_refl _) (.cells #[] 3)).trans (hb1.mono (by simp)))
  clear hb1
  rw [hg60]
  go_wp2_with (go_at_call 49; refine (l1In_any _ _ _ _).mono ?_; rintro e w' ⟨rfl, rfl⟩)
  refine (specGT A n c l _ (by unfold maxLen; omega) hl'.out hr2.out).mono ?_
  rintro e w2 ⟨rfl, hbb⟩
  rw [hgt'.out]
  have hb3 := hide (hb2.out.below' hbb)
  have hw2 := hide (hw1.out.trans (hbb.mono hw1.out.size))
  have hs2 := hw2.out.size
  have hlt2 := hb3.out.lt
  clear hbb
  go_wp2
  go_loopw [6, 9, 10] (fun v b i wr => ∃ k : Nat, k ≤ n ∧ i = .int .i64 k ∧ SpRel l (m + (totG l).w) w w2.heap.size (sumOf G.sh (l.take k)) k v b wr) (fun _ _ i _ => n - (intOf i).toNat)
  case atStart =>
    exact ⟨0, Nat.zero_le _, rfl, rfl, own_empty (hb3.out.alloc _), fun g hg => by simp [Value.ownBlock] at hg; omega, Blk.new _ _ _, hw2.out.alloc hs2 _⟩
  case round =>
    obtain ⟨k, hk, rfl, rfl, hown, hne, hq, hb⟩ := hrel
    obtain ⟨d0, d1, d2, d3, y0, y1, y2, y3⟩ := hq.c4
    have hq' := hide hq
    have hb' := hide hb
    have hown' := hide hown
    have hne' := hide hne
    have hql := hq.lt
    have hbs := hb.size
    by_cases hlt : k < n
    · obtain ⟨b, off, g, rfl, hbs3, hg, c0, c1, c2, c3⟩ := (h.below hb).glue hl'.out hlt
      have hgm := List.mem_of_getElem? hg
      have hgo := glueOk_true (hok'.out g hgm)
      obtain ⟨⟨g1, g2⟩, ⟨g3, g4⟩, ⟨g5, g6⟩, g7, g8⟩ := hgo
      have hst := hide (setTo_step l (m + (totG l).w) k g hg)
      have hg' := hide hg
      have hgm' := hide hgm
      clear hg hgm hq hb hown hne
      have hSb := sum_take_bd (G.sh) k hl'.out (by omega) (fun x hx => by have := glueOk_true (hok'.out x hx); first | omega | (unfold stAt; split <;> omega))
      have hSc : sumOf (G.sh) (l.take k) ≤ 60000 := by
        have hh := sumOf_bd (G.sh) 1000 (l.take k) (fun x hx => by have := glueOk_true (hok'.out x (List.mem_of_mem_take hx)); first | omega | (unfold stAt; split <;> omega))
        have : (l.take k).length ≤ n := by rw [List.length_take]; omega
        omega
      have hsm := hide (sum_step (G.sh) hg')
      generalize hS : sumOf (G.sh) (l.take k) = S at hSb hSc hsm ⊢
      have hS' := hide hS
      clear hS
      have hq0 : 0 ≤ (-m) := by omega
      have hq1 : (-m) ≤ 60000 := by omega
      have pa := prod_bd (q := (-m)) (s := S + g.sh) hq0 hq1 (by omega) (by omega)
      have pb := prod_bd (q := (-m)) (s := S) hq0 hq1 (by omega) (by omega)
      obtain ⟨pa1, pa2⟩ := pa
      obtain ⟨pb1, pb2⟩ := pb
      have ra := quot_bd (b := (totG l).sh) pa1 pa2 (by omega)
      have rb := quot_bd (b := (totG l).sh) pb1 pb2 (by omega)
      obtain ⟨ra1, ra2⟩ := ra
      obtain ⟨rb1, rb2⟩ := rb
      have hw0 : IntKind.i64.wrap (S + g.sh) = S + g.sh := IntWalk.i64_in _ (by omega)
      have hw9 : IntKind.i64.wrap (-m) = (-m) := IntWalk.i64_in _ (by omega)
      have hw1 : IntKind.i64.wrap ((-m) * (S + g.sh)) = (-m) * (S + g.sh) := IntWalk.i64_in _ (by omega)
      have hw2 : IntKind.i64.wrap ((-m) * S) = (-m) * S := IntWalk.i64_in _ (by omega)
      have ht1 : ((-m) * (S + g.sh)).tdiv (totG l).sh = (-m) * (S + g.sh) / (totG l).sh := Int.tdiv_eq_ediv_of_nonneg pa1
      have ht2 : ((-m) * S).tdiv (totG l).sh = (-m) * S / (totG l).sh := Int.tdiv_eq_ediv_of_nonneg pb1
      have hw3 : IntKind.i64.wrap ((-m) * (S + g.sh) / (totG l).sh) = (-m) * (S + g.sh) / (totG l).sh := IntWalk.i64_in _ (by omega)
      have hw4 : IntKind.i64.wrap ((-m) * S / (totG l).sh) = (-m) * S / (totG l).sh := IntWalk.i64_in _ (by omega)
      have hw5 : IntKind.i64.wrap ((-m) * (S + g.sh) / (totG l).sh - (-m) * S / (totG l).sh) = (-m) * (S + g.sh) / (totG l).sh - (-m) * S / (totG l).sh := IntWalk.i64_in _ (by omega)
      have hw6 : IntKind.i64.wrap (-((-m) * (S + g.sh) / (totG l).sh - (-m) * S / (totG l).sh)) = -((-m) * (S + g.sh) / (totG l).sh - (-m) * S / (totG l).sh) := IntWalk.i64_in _ (by omega)
      have hnz : ¬ (totG l).sh = 0 := by omega
      go_wp2
      go_quiet (fail)
      clear hw0 hw9 hw1 hw2 ht1 ht2 hw3 hw4 hw5 hw6
      go_wp2_with (at_builtin; refine wpList_append_lies _ rfl _ _ 41 rfl w.heap.size 3 i0 (.int .i64 0) 1 8 Try.underlying41 hi hz0 hz1 hz2 rfl (by decide) _ _ _ rfl (own_below ((hown'.out.alloc _).alloc _) (below_drewN (Below.refl _ _) _)) ⟨wr.heap.size + 1, 0, none⟩ 1 1 [.int .i64 (g.w + -((-m) * (S + g.sh) / (totG l).sh - (-m) * S / (totG l).sh))] rfl rfl (fun j u hj => cell_one_at (by simp) hj) (one_cells _) (by omega) (by unfold maxLen; omega) (by omega) (by simp; omega) _ rfl ?_)
      intro g3 cap3 w3 hown3 hg3 hat3 hlt3
      have hX := hide (show g.w + -((-m) * (S + g.sh) / (totG l).sh - (-m) * S / (totG l).sh) = setAt (fOf l (share l (m + (totG l).w)).neg) (share l (m + (totG l).w)).q (share l (m + (totG l).w)).all (sgnOf (share l (m + (totG l).w)).neg) l k g by rw [hsh.out]; show _ = g.w + -1 * (-(m + (totG l).w - (totG l).w) * (sumOf G.sh (l.take k) + g.sh) / (totG l).sh - -(m + (totG l).w - (totG l).w) * sumOf G.sh (l.take k) / (totG l).sh); rw [hmm.out, hS'.out]; omega)
      rw [hX.out] at hown3
      have hown4 := hide hown3
      have hvb := hide (fun kk hkk => (hown'.out.lt kk hkk))
      have q3 := hide (Blk.grown (Blk.drewN ((hq'.out.alloc (.cells #[.int .i64 g.w, .int .i64 g.st, .int .i64 g.sh, .int .i64 g.o] 26)).alloc (.cells #[.int .i64 (g.w + -((-m) * (S + g.sh) / (totG l).sh - (-m) * S / (totG l).sh))] 3)) _) hg3 (fun e => hne'.out _ e.symm rfl))
      have hb4 := hide ((below_drewN ((hb'.out.alloc hb'.out.size (.cells #[.int .i64 g.w, .int .i64 g.st, .int .i64 g.sh, .int .i64 g.o] 26)).alloc (by simp; omega) (.cells #[.int .i64 (g.w + -((-m) * (S + g.sh) / (totG l).sh - (-m) * S / (totG l).sh))] 3)) _).grown hg3 (by simp; omega) (fun kk hkk => (hvb.out kk hkk).1))
      have hne4 : g3 ≠ w2.heap.size := by
        rcases hat3 with h4 | h4
        · exact hne'.out _ h4
        · first | omega | (simp at h4; omega)
      clear hown3 hg3 hat3
      go_wp2
      go_roundw
      case rel =>
        refine ⟨k + 1, by omega, by go_num, by rw [hsm.out], ?_, fun gg hgg => by simp [Value.ownBlock] at hgg; omega, q3.out, hb4.out⟩
        have := hown4.out
        rw [hst.out]
        simpa [cellsN] using this
      case measure => simp [intOf]; omega
    · have hf := setTo_full l (m + (totG l).w) k n hl'.out hlt
      obtain rfl : k = n := by omega
      rw [hf] at hown'
      have hok2 := hide (show (share l (m + (totG l).w)).ok = true by rw [hsh.out])
      clear hf hq hb hown hne
      go_wp2
      go_quiet (fail)
      go_wp2
      unfold SetPost
      go_ret2
      refine ⟨_, by rw [hok2.out]; rfl, hown'.out, below_drewN hb'.out _⟩

set_option maxRecDepth 100000 in
set_option maxHeartbeats 2000000 in
theorem spE (A : Option Addr) (n c : Nat) (l : List G) (m : Int) (w : World) (hn : n ≤ 60) (hl : l.length = n) (hok : okA l) (h : Rd w 4 A n (cellsG l)) (h0 : 0 ≤ m + (totG l).w) (h1 : m + (totG l).w ≤ 60000) (h9 : m < 0) (hs : (totG l).sh < -m) :
    Calls Try.prog 31 #[.slice A n c, .int .i64 (m + (totG l).w)] w (SetPost l (m + (totG l).w) n w) := by
  have hbd := totG_bd hok
  obtain ⟨⟨t1, t2⟩, ⟨t3, t4⟩, ⟨t5, t6⟩, t7, t8⟩ := hbd
  have hm : m + (totG l).w - (totG l).w = m := by omega
  have hmm := hide hm
  have hsok : (share l (m + (totG l).w)).ok = false := by
    by_cases hz : (totG l).sh = 0
    · rw [share5 (by omega) hz]
    · rw [share4 (by omega) (by omega) hz]
  have hsh := hide hsok
  clear hsok
  have e0 : (m == 0) = false := by simp; omega
  have e1 : decide (0 < m) = false := by simp; omega
  have e2 : decide (m < 0) = true := by simp; omega
  have e3 : decide (-m ≤ (totG l).sh) = false := by simp; omega
  have e4 : decide ((totG l).sh < -m) = true := by simp; omega
  have hg60 : glues60 l = true := by
    simp only [glues60, Bool.and_eq_true, decide_eq_true_eq]
    exact ⟨List.all_eq_true.2 hok, by omega⟩
  have hgt : GT l = totG l := by unfold GT; rw [if_pos hg60]
  have hgt' := hide hgt
  have hin := inB_mk (n := m + (totG l).w) (lo := 0) (hi := 60000) ⟨h0, h1⟩
  have hl' := hide hl
  have hok' := hide hok
  have hln : (1000 : Int) * l.length ≤ 60000 := by omega
  obtain ⟨i0, hi, hz0, hz1, hz2⟩ := info_parts int_info
  have hb0 := hide (Blk.new w 3 #[])
  have hrd := hide (h.alloc (.cells #[] 3))
  clear hl hok hgt hm
  go_enter Try.func31, Try.ntmps31
  go_wp2_with fail
  refine (l1Valid_any A n c l _ (by unfold maxLen; omega) hl'.out hrd.out).mono ?_
  rintro e w1 ⟨rfl, hb1⟩
  have hb2 := hide (hb0.out.below' hb1)
  have hr2 := hide (hrd.out.below hb1)
  have hw1 := hide (((Below.refl w.heap.size w).alloc (Nat.le_refl _) (.cells #[] 3)).trans (hb1.mono (by simp)))
  clear hb1
  rw [hg60]
  go_wp2_with (go_at_call 49; refine (l1In_any _ _ _ _).mono ?_; rintro e w' ⟨rfl, rfl⟩)
  refine (specGT A n c l _ (by unfold maxLen; omega) hl'.out hr2.out).mono ?_
  rintro e w2 ⟨rfl, hbb⟩
  rw [hgt'.out]
  have hb3 := hide (hb2.out.below' hbb)
  have hw2 := hide (hw1.out.trans (hbb.mono hw1.out.size))
  have hs2 := hw2.out.size
  have hlt2 := hb3.out.lt
  clear hbb
  go_wp2
  go_loopw [6, 9, 10] (fun v b i wr => ∃ k : Nat, k ≤ n ∧ i = .int .i64 k ∧ SpRel l (m + (totG l).w) w w2.heap.size (0) k v b wr) (fun _ _ i _ => n - (intOf i).toNat)
  case atStart =>
    exact ⟨0, Nat.zero_le _, rfl, rfl, own_empty (hb3.out.alloc _), fun g hg => by simp [Value.ownBlock] at hg; omega, Blk.new _ _ _, hw2.out.alloc hs2 _⟩
  case round =>
    obtain ⟨k, hk, rfl, rfl, hown, hne, hq, hb⟩ := hrel
    obtain ⟨d0, d1, d2, d3, y0, y1, y2, y3⟩ := hq.c4
    have hq' := hide hq
    have hb' := hide hb
    have hown' := hide hown
    have hne' := hide hne
    have hql := hq.lt
    have hbs := hb.size
    by_cases hlt : k < n
    · obtain ⟨b, off, g, rfl, hbs3, hg, c0, c1, c2, c3⟩ := (h.below hb).glue hl'.out hlt
      have hgm := List.mem_of_getElem? hg
      have hgo := glueOk_true (hok'.out g hgm)
      obtain ⟨⟨g1, g2⟩, ⟨g3, g4⟩, ⟨g5, g6⟩, g7, g8⟩ := hgo
      have hst := hide (setTo_step l (m + (totG l).w) k g hg)
      have hg' := hide hg
      have hgm' := hide hgm
      clear hg hgm hq hb hown hne
      have hE := hide (show setAt (fOf l (share l (m + (totG l).w)).neg) (share l (m + (totG l).w)).q (share l (m + (totG l).w)).all (sgnOf (share l (m + (totG l).w)).neg) l k g = g.w + -g.sh by
        by_cases hz : (totG l).sh = 0
        · rw [share5 (by omega) hz]
          show setAt _ 0 1 _ l k g = _
          rw [setAt_zero, zero_sh hok'.out hgm'.out hz]; simp
        · rw [share4 (by omega) (by omega) hz]
          show g.w + -1 * ((totG l).sh * (sumOf G.sh (l.take k) + g.sh) / (totG l).sh - (totG l).sh * sumOf G.sh (l.take k) / (totG l).sh) = _
          rw [Int.mul_ediv_cancel_left _ hz, Int.mul_ediv_cancel_left _ hz]; omega)
      go_wp2_with (at_builtin; refine wpList_append_lies _ rfl _ _ 41 rfl w.heap.size 3 i0 (.int .i64 0) 1 8 Try.underlying41 hi hz0 hz1 hz2 rfl (by decide) _ _ _ rfl ((hown'.out.alloc _).alloc _) ⟨wr.heap.size + 1, 0, none⟩ 1 1 [.int .i64 (g.w + -g.sh)] rfl rfl (fun j u hj => cell_one_at (by simp) hj) (one_cells _) (by omega) (by unfold maxLen; omega) (by omega) (by simp; omega) _ rfl ?_)
      intro g3 cap3 w3 hown3 hg3 hat3 hlt3
      have hX := hide (show g.w + -g.sh = setAt (fOf l (share l (m + (totG l).w)).neg) (share l (m + (totG l).w)).q (share l (m + (totG l).w)).all (sgnOf (share l (m + (totG l).w)).neg) l k g by rw [hE.out])
      rw [hX.out] at hown3
      have hown4 := hide hown3
      have hvb := hide (fun kk hkk => (hown'.out.lt kk hkk))
      have q3 := hide (Blk.grown ((hq'.out.alloc (.cells #[.int .i64 g.w, .int .i64 g.st, .int .i64 g.sh, .int .i64 g.o] 26)).alloc (.cells #[.int .i64 (g.w + -g.sh)] 3)) hg3 (fun e => hne'.out _ e.symm rfl))
      have hb4 := hide (((hb'.out.alloc hb'.out.size (.cells #[.int .i64 g.w, .int .i64 g.st, .int .i64 g.sh, .int .i64 g.o] 26)).alloc (by simp; omega) (.cells #[.int .i64 (g.w + -g.sh)] 3)).grown hg3 (by simp; omega) (fun kk hkk => (hvb.out kk hkk).1))
      have hne4 : g3 ≠ w2.heap.size := by
        rcases hat3 with h4 | h4
        · exact hne'.out _ h4
        · first | omega | (simp at h4; omega)
      clear hown3 hg3 hat3
      go_wp2
      go_roundw
      case rel =>
        refine ⟨k + 1, by omega, by go_num, rfl, ?_, fun gg hgg => by simp [Value.ownBlock] at hgg; omega, q3.out, hb4.out⟩
        have := hown4.out
        rw [hst.out]
        simpa [cellsN] using this
      case measure => simp [intOf]; omega
    · have hf := setTo_full l (m + (totG l).w) k n hl'.out hlt
      obtain rfl : k = n := by omega
      rw [hf] at hown'
      have hok2 := hide (show (share l (m + (totG l).w)).ok = false by rw [hsh.out])
      clear hf hq hb hown hne
      go_wp2
      go_quiet (fail)
      go_wp2
      unfold SetPost
      go_ret2
      refine ⟨_, by rw [hok2.out]; rfl, hown'.out, below_drewN hb'.out _⟩
end Go.Proofs.Ytoiacijjbehioaa
