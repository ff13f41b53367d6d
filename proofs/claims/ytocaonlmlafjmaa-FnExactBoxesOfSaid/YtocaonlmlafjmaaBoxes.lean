/- The walks through the widths of the boxes. Condition: the slice reads as the list of items. -/
import Derived.Test.YtocaonlmlafjmaaItems
import Derived.Deep.AppendLies
namespace Go.Proofs.Ytocaonlmlafjmaa
open Go.RowKit
set_option linter.unusedVariables false
set_option linter.unusedSimpArgs false
set_option maxRecDepth 100000

theorem own_emptyB {w : World} {t : TypeId} {base g : Nat} (h : Blk w g t #[]) (hg : base ≤ g) : w.ownsRow base t 1 (.slice (some ⟨g, 0, none⟩) 0 0) 0 [] :=
  ⟨rfl, .inr ⟨g, 0, #[], rfl, hg, h, Nat.le_refl _, by simp [maxLen], rfl, rfl⟩⟩
def RowB (R : List Int) (w : World) (e : Ending) (w' : World) : Prop := ∃ v, e = .returned v ∧ w'.ownsRow w.heap.size 3 1 v R.length (cellsN R) ∧ Below w.heap.size w w'
def BxRel (l : List I) (w : World) (k : Nat) (v : Value) (wr : World) : Prop :=
  wr.ownsRow w.heap.size 3 1 v (boxTo l k).length (cellsN (boxTo l k)) ∧ Below w.heap.size w wr
theorem bx_yes {l : List I} {w wr w2 w3 : World} {k g3 cap3 : Nat} {v : Value} {i : I} (hi : l[k]? = some i) (hb : (i.k == 1) = true) (h : BxRel l w k v wr) (hw2 : Below w.heap.size w w2)
    (hown3 : w3.ownsRow w.heap.size 3 1 (.slice (some ⟨g3, 0, none⟩) ((boxTo l k).length + 1) cap3) ((boxTo l k).length + 1) (cellsN (boxTo l k) ++ [.int .i64 i.g.w]))
    (hg3 : w2.grownBy w3 v.ownBlock) : BxRel l w (k + 1) (.slice (some ⟨g3, 0, none⟩) ((boxTo l k).length + 1) cap3) w3 := by
  obtain ⟨h1, h4⟩ := h
  refine ⟨?_, hw2.grown hg3 hw2.size (fun kk hkk => (h1.lt kk hkk).1)⟩
  rw [boxTo_yes hi hb, List.length_append, List.length_singleton]
  simpa [cellsN] using hown3
theorem bx_no {l : List I} {w wr w2 : World} {k : Nat} {v : Value} {i : I} (hi : l[k]? = some i) (hb : (i.k == 1) = false) (h : BxRel l w k v wr) (h2 : Below wr.heap.size wr w2) : BxRel l w (k + 1) v w2 := by
  unfold BxRel at h ⊢
  rw [boxTo_no hi hb]
  exact ⟨own_below h.1 h2, h.2.trans (h2.mono h.2.size)⟩
theorem boxesW_no {l : List I} (h : items60 l = false) : boxesW l = [] := by unfold boxesW; rw [h]; rfl
theorem boxesW_yes {l : List I} {n : Nat} (h : items60 l = true) (hl : l.length = n) : boxesW l = boxTo l n := by unfold boxesW; rw [h, hl]; rfl
theorem boxesW_bd (l : List I) : (boxesW l).length ≤ 60 := by
  cases h : items60 l with
  | false => rw [boxesW_no h]; simp
  | true =>
    rw [boxesW_yes h rfl]
    have := boxTo_len l l.length
    have := (items60_true h).2
    omega
theorem pos_of_bad {l : List I} {n : Nat} (h : items60 l = false) (hl : l.length = n) : 0 < n := by
  cases l with
  | nil => cases h
  | cons a l => rw [← hl]; exact Nat.succ_pos _
set_option maxHeartbeats 1000000 in
theorem specBoxes (A : Option Addr) (n c : Nat) (l : List I) (w : World) (hn : n ≤ maxLen) (hl : l.length = n) (h : Rd w 7 A n (cellsI l)) :
    Calls Try.prog 54 #[.slice A n c] w (RowB (boxesW l) w) := by
  obtain ⟨i0, hi, hz0, hz1, hz2⟩ := info_parts int_info
  have hv := hide (fun W (hr : Rd W 7 A n (cellsI l)) => specItems A n c l W hn hl hr)
  have hl' := hide hl
  have hn2 : n ≤ 2 ^ 63 - 1 := hn
  have hst := hide (show BxRel l w 0 (.slice (some ⟨w.heap.size, 0, none⟩) 0 0) (w.alloc (.cells #[] 3)) by
    refine ⟨?_, (Below.refl _ _).alloc (Nat.le_refl _) _⟩
    rw [boxTo_zero]
    exact own_emptyB (Blk.new w 3 #[]) (Nat.le_refl _))
  clear hn
  cases h60 : items60 l with
  | false =>
    rw [h60] at hv
    rw [boxesW_no h60]
    have hpos := pos_of_bad h60 hl
    clear hl
    go_enter Try.func54, Try.ntmps54
    go_wp2
    go_loopw [3, 4] (fun v i wr => i = .int .i64 0 ∧ BxRel l w 0 v wr) (fun _ _ _ => 0)
    case atStart => exact ⟨rfl, hst.out⟩
    case round =>
      obtain ⟨rfl, hrel⟩ := hrel
      have hrel' := hide hrel
      obtain ⟨hown, hb⟩ := hrel
      rw [boxTo_zero] at hown
      have hr := h.below hb
      have hbs := hb.size
      have hown' := hide hown
      have hb' := hide hb
      clear hown hb hst
      go_wp2_with fail
      refine (hv.out _ hr).mono ?_
      rintro e w1 ⟨rfl, hb1⟩
      have ho1 := hide (own_below hown'.out hb1)
      have hb2 := hide (hb'.out.trans (hb1.mono hbs))
      clear hb1 hown'
      go_wp2
      unfold RowB
      go_ret
      exact ⟨_, rfl, ho1.out, hb2.out⟩
  | true =>
    rw [h60] at hv
    have h60n := (items60_true h60).2
    rw [boxesW_yes h60 hl]
    rw [hl] at h60n
    clear hl
    go_enter Try.func54, Try.ntmps54
    go_wp2
    go_loopw [3, 4] (fun v i wr => ∃ k : Nat, k ≤ n ∧ i = .int .i64 k ∧ BxRel l w k v wr) (fun _ i _ => n - (intOf i).toNat)
    case atStart => exact ⟨0, Nat.zero_le _, rfl, hst.out⟩
    case round =>
      obtain ⟨k, hk, rfl, hrel⟩ := hrel
      have hrel' := hide hrel
      obtain ⟨hown, hb⟩ := hrel
      have hown' := hide hown
      have hb' := hide hb
      have hr := h.below hb
      have hbs := hb.size
      have hlen := boxTo_len l k
      by_cases hlt : k < n
      · clear hown hb hst
        go_wp2_with fail
        refine (hv.out _ hr).mono ?_
        rintro e w1 ⟨rfl, hb1⟩
        have hb1' := hide hb1
        have ho1 := hide (own_below hown'.out hb1)
        have hb2 := hide (hb'.out.trans (hb1.mono hbs))
        have hs1 := hb2.out.size
        obtain ⟨b, off, x, rfl, hbk, hx, c0, c1, c2, c3, c4, c5, c6⟩ := (h.below hb2.out).item hl'.out hlt
        have hx' := hide hx
        clear hb1 hx hr hown'
        cases k1 : (x.k == 1) with
        | true =>
          go_wp2_with (first | (at_builtin; refine wpList_append_lies _ rfl _ _ 60 rfl w.heap.size 3 i0 (.int .i64 0) 1 8 Try.underlying60 hi hz0 hz1 hz2 rfl (by decide) _ _ _ rfl (ho1.out.alloc _) ⟨w1.heap.size, 0, none⟩ 1 1 [.int .i64 x.g.w] rfl rfl (fun j u hj => cell_one_at (by simp) hj) (one_cells _) (by omega) (by unfold maxLen; omega) (by omega) (by simp; omega) _ rfl ?_))
          intro g3 cap3 w3 hown3 hg3 hat3 hlt3
          have hfin := hide (bx_yes hx'.out k1 hrel'.out (hb2.out.alloc hs1 _) hown3 hg3)
          clear hown3 hg3 hat3 hlt3
          go_wp2
          go_roundw
          case rel => exact ⟨k + 1, by omega, by go_num, hfin.out⟩
          case measure => simp [intOf]; omega
        | false =>
          have hfin := hide (bx_no hx'.out k1 hrel'.out hb1'.out)
          go_wp2
          go_roundw
          case rel => exact ⟨k + 1, by omega, by go_num, hfin.out⟩
          case measure => simp [intOf]; omega
      · obtain rfl : n = k := by omega
        clear hown hb hst hr
        go_wp2
        unfold RowB
        go_ret
        exact ⟨_, rfl, hown'.out, hb'.out⟩
set_option maxHeartbeats 1000000 in
theorem implBoxes (A : Option Addr) (n c : Nat) (l : List I) (w : World) (hn : n ≤ maxLen) (hl : l.length = n) (h : Rd w 7 A n (cellsI l)) :
    Calls Try.prog 53 #[.slice A n c] w (RowB (boxesW l) w) := by
  obtain ⟨i0, hi, hz0, hz1, hz2⟩ := info_parts int_info
  have hv := hide (implItems A n c l w hn hl h)
  have hl' := hide hl
  have hn2 : n ≤ 2 ^ 63 - 1 := hn
  clear hn
  cases h60 : items60 l with
  | false =>
    rw [h60] at hv
    rw [boxesW_no h60]
    clear hl
    go_enter Try.func53, Try.ntmps53
    go_wp2_with fail
    refine hv.out.mono ?_
    rintro e w1 ⟨rfl, hb1⟩
    have hb1' := hide hb1
    clear hb1
    go_wp2
    unfold RowB
    go_ret
    exact ⟨_, rfl, World.ownsRow_nil _ _ _ _, hb1'.out⟩
  | true =>
    rw [h60] at hv
    have h60n := (items60_true h60).2
    rw [boxesW_yes h60 hl]
    rw [hl] at h60n
    clear hl
    go_enter Try.func53, Try.ntmps53
    go_wp2_with fail
    refine hv.out.mono ?_
    rintro e w1 ⟨rfl, hb1⟩
    have hst := hide (show BxRel l w 0 (.slice none 0 0) w1 from ⟨by rw [boxTo_zero]; exact World.ownsRow_nil _ _ _ _, hb1⟩)
    clear hb1 hv
    go_wp2
    go_loopw [3, 11] (fun v i wr => ∃ k : Nat, k ≤ n ∧ i = .int .i64 k ∧ BxRel l w k v wr) (fun _ i _ => n - (intOf i).toNat)
    case atStart => exact ⟨0, Nat.zero_le _, rfl, hst.out⟩
    case round =>
      obtain ⟨k, hk, rfl, hrel⟩ := hrel
      have hrel' := hide hrel
      obtain ⟨hown, hb⟩ := hrel
      have hown' := hide hown
      have hb' := hide hb
      have hbs := hb.size
      have hlen := boxTo_len l k
      by_cases hlt : k < n
      · obtain ⟨b, off, x, rfl, hbk, hx, c0, c1, c2, c3, c4, c5, c6⟩ := (h.below hb).item hl'.out hlt
        have hx' := hide hx
        clear hown hb hst hx
        cases k1 : (x.k == 1) with
        | true =>
          go_wp2_with (first | (at_builtin; refine wpList_append_lies _ rfl _ _ 60 rfl w.heap.size 3 i0 (.int .i64 0) 1 8 Try.underlying60 hi hz0 hz1 hz2 rfl (by decide) _ _ _ rfl ((hown'.out.alloc _).alloc _) ⟨wr.heap.size + 1, 0, none⟩ 1 1 [.int .i64 x.g.w] rfl rfl (fun j u hj => cell_one_at (by simp) hj) (one_cells _) (by omega) (by unfold maxLen; omega) (by omega) (by simp; omega) _ rfl ?_))
          intro g3 cap3 w3 hown3 hg3 hat3 hlt3
          have hfin := hide (bx_yes hx'.out k1 hrel'.out ((hb'.out.alloc hbs _).alloc (by simp; omega) _) hown3 hg3)
          clear hown3 hg3 hat3 hlt3
          go_wp2
          go_roundw
          case rel => exact ⟨k + 1, by omega, by go_num, hfin.out⟩
          case measure => simp [intOf]; omega
        | false =>
          have hfin := hide (bx_no hx'.out k1 hrel'.out ((Below.refl _ _).alloc (Nat.le_refl _) (.cells #[.int .i64 x.k, .int .i64 x.g.w, .int .i64 x.g.st, .int .i64 x.g.sh, .int .i64 x.g.o, .int .i64 x.c, .bool x.m] 29)))
          go_wp2
          go_roundw
          case rel => exact ⟨k + 1, by omega, by go_num, hfin.out⟩
          case measure => simp [intOf]; omega
      · obtain rfl : n = k := by omega
        clear hown hb hst
        go_wp2
        unfold RowB
        go_ret
        exact ⟨_, rfl, hown'.out, hb'.out⟩
end Go.Proofs.Ytocaonlmlafjmaa
