/- Several of my texts in one: Items, Boxes, Break, Start. Their conditions stand at each. -/
import Derived.Test.YtocaonlmlafjmaaItem
import Derived.Test.YtocaonlmlafjmaaItem2
import Derived.Test.YtocaonlmlafjmaaKCore
import Derived.Deep.AppendLies
/- The walks through the validity of a list of items. Condition: the slice reads as the list. -/
namespace Go.Proofs.Ytocaonlmlafjmaa
open Go.RowKit
set_option linter.unusedVariables false
set_option linter.unusedSimpArgs false

set_option maxHeartbeats 1000000 in
theorem specItems (A : Option Addr) (n c : Nat) (l : List I) (w : World) (hn : n ≤ maxLen) (hl : l.length = n) (h : Rd w 7 A n (cellsI l)) :
    Calls Try.prog 28 #[.slice A n c] w fun e w' => e = .returned (.bool (items60 l)) ∧ Below w.heap.size w w' := by
  have hl' := hide hl
  clear hl
  unfold maxLen at hn
  go_enter Try.func28, Try.ntmps28
  go_wp2
  go_loopw [3] (fun i wr => ∃ k : Nat, k ≤ n ∧ i = .int .i64 k ∧ (l.take k).all itemOk = true ∧ Below w.heap.size w wr) (fun i _ => n - (intOf i).toNat)
  case atStart => exact ⟨0, Nat.zero_le _, rfl, rfl, Below.refl _ _⟩
  case round =>
    obtain ⟨k, hk, rfl, hall, hb⟩ := hrel
    have hall' := hide hall
    have hb' := hide hb
    have hbs := hb.size
    clear hall
    by_cases hlt : k < n
    · obtain ⟨b, off, x, rfl, hbk, hx, c0, c1, c2, c3, c4, c5, c6⟩ := (h.below hb).item hl'.out hlt
      have hx' := hide hx
      clear hx hb
      cases hv : itemOk x with
      | false =>
        have e := hide (items60_no hx'.out hv)
        go_wp2_with fail
        refine (specItem x _).mono ?_
        rintro e w1 ⟨rfl, hb1⟩
        rw [hv]
        go_wp2
        go_ret
        exact ⟨by rw [e.out]; rfl, hb'.out.trans (hb1.mono hbs)⟩
      | true =>
        have st := hide (items60_step hall'.out hx'.out hv)
        go_wp2_with fail
        refine (specItem x _).mono ?_
        rintro e w1 ⟨rfl, hb1⟩
        rw [hv]
        have hb2 := hide (hb'.out.trans (hb1.mono hbs))
        clear hb1
        go_wp2
        go_roundw
        case rel => exact ⟨k + 1, by omega, by go_num, st.out, hb2.out⟩
        case measure => simp [intOf]; omega
    · have e := hide (items60_end hall'.out hl'.out hlt)
      clear hb
      go_wp2
      go_ret
      exact ⟨by rw [e.out]; rfl, hb'.out⟩
set_option maxHeartbeats 1000000 in
theorem implItems (A : Option Addr) (n c : Nat) (l : List I) (w : World) (hn : n ≤ maxLen) (hl : l.length = n) (h : Rd w 7 A n (cellsI l)) :
    Calls Try.prog 30 #[.slice A n c] w fun e w' => e = .returned (.bool (items60 l)) ∧ Below w.heap.size w w' := by
  have hl' := hide hl
  clear hl
  unfold maxLen at hn
  go_enter Try.func30, Try.ntmps30
  go_wp2
  go_loopw [7] (fun i wr => ∃ k : Nat, k ≤ n ∧ i = .int .i64 k ∧ (l.take k).all itemOk = true ∧ Below w.heap.size w wr) (fun i _ => n - (intOf i).toNat)
  case atStart => exact ⟨0, Nat.zero_le _, rfl, rfl, Below.refl _ _⟩
  case round =>
    obtain ⟨k, hk, rfl, hall, hb⟩ := hrel
    have hall' := hide hall
    have hb' := hide hb
    have hbs := hb.size
    clear hall
    by_cases hlt : k < n
    · obtain ⟨b, off, x, rfl, hbk, hx, c0, c1, c2, c3, c4, c5, c6⟩ := (h.below hb).item hl'.out hlt
      have hx' := hide hx
      clear hx hb
      cases hv : itemOk x with
      | false =>
        have e := hide (items60_no hx'.out hv)
        go_wp2_with fail
        refine (implItem x _).mono ?_
        rintro e w1 ⟨rfl, hb1⟩
        rw [hv]
        go_wp2
        go_ret
        exact ⟨by rw [e.out]; rfl, (hb'.out.alloc hbs _).trans (hb1.mono (by simp; omega))⟩
      | true =>
        have st := hide (items60_step hall'.out hx'.out hv)
        go_wp2_with fail
        refine (implItem x _).mono ?_
        rintro e w1 ⟨rfl, hb1⟩
        rw [hv]
        have hb2 := hide ((hb'.out.alloc hbs _).trans (hb1.mono (by simp; omega)))
        clear hb1
        go_wp2
        go_roundw
        case rel => exact ⟨k + 1, by omega, by go_num, st.out, hb2.out⟩
        case measure => simp [intOf]; omega
    · have e := hide (items60_end hall'.out hl'.out hlt)
      clear hb
      go_wp2
      go_ret
      exact ⟨by rw [e.out]; rfl, hb'.out⟩
end Go.Proofs.Ytocaonlmlafjmaa

/- The walks through the widths of the boxes. Condition: the slice reads as the list of items. -/
namespace Go.Proofs.Ytocaonlmlafjmaa
open Go.RowKit
set_option linter.unusedVariables false
set_option linter.unusedSimpArgs false
set_option maxRecDepth 100000

theorem own_emptyB {w : World} {t : TypeId} {base g : Nat} (h : Blk w g t #[]) (hg : base ≤ g) : w.ownsRow base t 1 (.slice (some ⟨g, 0, none⟩) 0 0) 0 [] :=
  ⟨rfl, .inr ⟨g, 0, #[], rfl, hg, h, Nat.le_refl _, by simp [maxLen], rfl, rfl⟩⟩
def RowB (R : List Int) (w : World) (e : Ending) (w' : World) : Prop := ∃ v, e = .returned v ∧ w'.ownsRow w.heap.size 3 1 v R.length (cellsN R) ∧ Below w.heap.size w w'
def BxRel (l : List I) (w : World) (k : Nat) (v : Value) (wr : World) : Prop :=
  wr.ownsRow w.heap.size 3 1 v (boxTo l k).length (cellsN (boxTo l k)) ∧ Below w.heap.size w wr
theorem bx_yes {l : List I} {w wr w2 w3 : World} {k g3 cap3 : Nat} {v : Value} {i : I} (hi : l[k]? = some i) (hb : (i.k == 1) = true) (h : BxRel l w k v wr) (hw2 : Below w.heap.size w w2)
    (hown3 : w3.ownsRow w.heap.size 3 1 (.slice (some ⟨g3, 0, none⟩) ((boxTo l k).length + 1) cap3) ((boxTo l k).length + 1) (cellsN (boxTo l k) ++ [.int .i64 i.g.w]))
    (hg3 : w2.grownBy w3 v.ownBlock) : BxRel l w (k + 1) (.slice (some ⟨g3, 0, none⟩) ((boxTo l k).length + 1) cap3) w3 := by
  obtain ⟨h1, h4⟩ := h
  refine ⟨?_, hw2.grown hg3 hw2.size (fun kk hkk => (h1.lt kk hkk).1)⟩
  rw [boxTo_yes hi hb, List.length_append, List.length_singleton]
  simpa [cellsN] using hown3
theorem bx_no {l : List I} {w wr w2 : World} {k : Nat} {v : Value} {i : I} (hi : l[k]? = some i) (hb : (i.k == 1) = false) (h : BxRel l w k v wr) (h2 : Below wr.heap.size wr w2) : BxRel l w (k + 1) v w2 := by
  unfold BxRel at h ⊢
  rw [boxTo_no hi hb]
  exact ⟨own_below h.1 h2, h.2.trans (h2.mono h.2.size)⟩
theorem boxesW_no {l : List I} (h : items60 l = false) : boxesW l = [] := by unfold boxesW; rw [h]; rfl
theorem boxesW_yes {l : List I} {n : Nat} (h : items60 l = true) (hl : l.length = n) : boxesW l = boxTo l n := by unfold boxesW; rw [h, hl]; rfl
theorem boxesW_bd (l : List I) : (boxesW l).length ≤ 60 := by
  cases h : items60 l with
  | false => rw [boxesW_no h]; simp
  | true =>
    rw [boxesW_yes h rfl]
    have := boxTo_len l l.length
    have := (items60_true h).2
    omega
theorem pos_of_bad {l : List I} {n : Nat} (h : items60 l = false) (hl : l.length = n) : 0 < n := by
  cases l with
  | nil => cases h
  | cons a l => rw [← hl]; exact Nat.succ_pos _
set_option maxHeartbeats 1000000 in
theorem specBoxes (A : Option Addr) (n c : Nat) (l : List I) (w : World) (hn : n ≤ maxLen) (hl : l.length = n) (h : Rd w 7 A n (cellsI l)) :
    Calls Try.prog 54 #[.slice A n c] w (RowB (boxesW l) w) := by
  obtain ⟨i0, hi, hz0, hz1, hz2⟩ := info_parts int_info
  have hv := hide (fun W (hr : Rd W 7 A n (cellsI l)) => specItems A n c l W hn hl hr)
  have hl' := hide hl
  have hn2 : n ≤ 2 ^ 63 - 1 := hn
  have hst := hide (show BxRel l w 0 (.slice (some ⟨w.heap.size, 0, none⟩) 0 0) (w.alloc (.cells #[] 3)) by
    refine ⟨?_, (Below.refl _ _).alloc (Nat.le_refl _) _⟩
    rw [boxTo_zero]
    exact own_emptyB (Blk.new w 3 #[]) (Nat.le_refl _))
  clear hn
  cases h60 : items60 l with
  | false =>
    rw [h60] at hv
    rw [boxesW_no h60]
    have hpos := pos_of_bad h60 hl
    clear hl
    go_enter Try.func54, Try.ntmps54
    go_wp2
    go_loopw [3, 4] (fun v i wr => i = .int .i64 0 ∧ BxRel l w 0 v wr) (fun _ _ _ => 0)
    case atStart => exact ⟨rfl, hst.out⟩
    case round =>
      obtain ⟨rfl, hrel⟩ := hrel
      have hrel' := hide hrel
      obtain ⟨hown, hb⟩ := hrel
      rw [boxTo_zero] at hown
      have hr := h.below hb
      have hbs := hb.size
      have hown' := hide hown
      have hb' := hide hb
      clear hown hb hst
      go_wp2_with fail
      refine (hv.out _ hr).mono ?_
      rintro e w1 ⟨rfl, hb1⟩
      have ho1 := hide (own_below hown'.out hb1)
      have hb2 := hide (hb'.out.trans (hb1.mono hbs))
      clear hb1 hown'
      go_wp2
      unfold RowB
      go_ret
      exact ⟨_, rfl, ho1.out, hb2.out⟩
  | true =>
    rw [h60] at hv
    have h60n := (items60_true h60).2
    rw [boxesW_yes h60 hl]
    rw [hl] at h60n
    clear hl
    go_enter Try.func54, Try.ntmps54
    go_wp2
    go_loopw [3, 4] (fun v i wr => ∃ k : Nat, k ≤ n ∧ i = .int .i64 k ∧ BxRel l w k v wr) (fun _ i _ => n - (intOf i).toNat)
    case atStart => exact ⟨0, Nat.zero_le _, rfl, hst.out⟩
    case round =>
      obtain ⟨k, hk, rfl, hrel⟩ := hrel
      have hrel' := hide hrel
      obtain ⟨hown, hb⟩ := hrel
      have hown' := hide hown
      have hb' := hide hb
      have hr := h.below hb
      have hbs := hb.size
      have hlen := boxTo_len l k
      by_cases hlt : k < n
      · clear hown hb hst
        go_wp2_with fail
        refine (hv.out _ hr).mono ?_
        rintro e w1 ⟨rfl, hb1⟩
        have hb1' := hide hb1
        have ho1 := hide (own_below hown'.out hb1)
        have hb2 := hide (hb'.out.trans (hb1.mono hbs))
        have hs1 := hb2.out.size
        obtain ⟨b, off, x, rfl, hbk, hx, c0, c1, c2, c3, c4, c5, c6⟩ := (h.below hb2.out).item hl'.out hlt
        have hx' := hide hx
        clear hb1 hx hr hown'
        cases k1 : (x.k == 1) with
        | true =>
          go_wp2_with (first | (at_builtin; refine wpList_append_lies _ rfl _ _ 60 rfl w.heap.size 3 i0 (.int .i64 0) 1 8 Try.underlying60 hi hz0 hz1 hz2 rfl (by decide) _ _ _ rfl (ho1.out.alloc _) ⟨w1.heap.size, 0, none⟩ 1 1 [.int .i64 x.g.w] rfl rfl (fun j u hj => cell_one_at (by simp) hj) (one_cells _) (by omega) (by unfold maxLen; omega) (by omega) (by simp; omega) _ rfl ?_))
          intro g3 cap3 w3 hown3 hg3 hat3 hlt3
          have hfin := hide (bx_yes hx'.out k1 hrel'.out (hb2.out.alloc hs1 _) hown3 hg3)
          clear hown3 hg3 hat3 hlt3
          go_wp2
          go_roundw
          case rel => exact ⟨k + 1, by omega, by go_num, hfin.out⟩
          case measure => simp [intOf]; omega
        | false =>
          have hfin := hide (bx_no hx'.out k1 hrel'.out hb1'.out)
          go_wp2
          go_roundw
          case rel => exact ⟨k + 1, by omega, by go_num, hfin.out⟩
          case measure => simp [intOf]; omega
      · obtain rfl : n = k := by omega
        clear hown hb hst hr
        go_wp2
        unfold RowB
        go_ret
        exact ⟨_, rfl, hown'.out, hb'.out⟩
set_option maxHeartbeats 1000000 in
theorem implBoxes (A : Option Addr) (n c : Nat) (l : List I) (w : World) (hn : n ≤ maxLen) (hl : l.length = n) (h : Rd w 7 A n (cellsI l)) :
    Calls Try.prog 53 #[.slice A n c] w (RowB (boxesW l) w) := by
  obtain ⟨i0, hi, hz0, hz1, hz2⟩ := info_parts int_info
  have hv := hide (implItems A n c l w hn hl h)
  have hl' := hide hl
  have hn2 : n ≤ 2 ^ 63 - 1 := hn
  clear hn
  cases h60 : items60 l with
  | false =>
    rw [h60] at hv
    rw [boxesW_no h60]
    clear hl
    go_enter Try.func53, Try.ntmps53
    go_wp2_with fail
    refine hv.out.mono ?_
    rintro e w1 ⟨rfl, hb1⟩
    have hb1' := hide hb1
    clear hb1
    go_wp2
    unfold RowB
    go_ret
    exact ⟨_, rfl, World.ownsRow_nil _ _ _ _, hb1'.out⟩
  | true =>
    rw [h60] at hv
    have h60n := (items60_true h60).2
    rw [boxesW_yes h60 hl]
    rw [hl] at h60n
    clear hl
    go_enter Try.func53, Try.ntmps53
    go_wp2_with fail
    refine hv.out.mono ?_
    rintro e w1 ⟨rfl, hb1⟩
    have hst := hide (show BxRel l w 0 (.slice none 0 0) w1 from ⟨by rw [boxTo_zero]; exact World.ownsRow_nil _ _ _ _, hb1⟩)
    clear hb1 hv
    go_wp2
    go_loopw [3, 11] (fun v i wr => ∃ k : Nat, k ≤ n ∧ i = .int .i64 k ∧ BxRel l w k v wr) (fun _ i _ => n - (intOf i).toNat)
    case atStart => exact ⟨0, Nat.zero_le _, rfl, hst.out⟩
    case round =>
      obtain ⟨k, hk, rfl, hrel⟩ := hrel
      have hrel' := hide hrel
      obtain ⟨hown, hb⟩ := hrel
      have hown' := hide hown
      have hb' := hide hb
      have hbs := hb.size
      have hlen := boxTo_len l k
      by_cases hlt : k < n
      · obtain ⟨b, off, x, rfl, hbk, hx, c0, c1, c2, c3, c4, c5, c6⟩ := (h.below hb).item hl'.out hlt
        have hx' := hide hx
        clear hown hb hst hx
        cases k1 : (x.k == 1) with
        | true =>
          go_wp2_with (first | (at_builtin; refine wpList_append_lies _ rfl _ _ 60 rfl w.heap.size 3 i0 (.int .i64 0) 1 8 Try.underlying60 hi hz0 hz1 hz2 rfl (by decide) _ _ _ rfl ((hown'.out.alloc _).alloc _) ⟨wr.heap.size + 1, 0, none⟩ 1 1 [.int .i64 x.g.w] rfl rfl (fun j u hj => cell_one_at (by simp) hj) (one_cells _) (by omega) (by unfold maxLen; omega) (by omega) (by simp; omega) _ rfl ?_))
          intro g3 cap3 w3 hown3 hg3 hat3 hlt3
          have hfin := hide (bx_yes hx'.out k1 hrel'.out ((hb'.out.alloc hbs _).alloc (by simp; omega) _) hown3 hg3)
          clear hown3 hg3 hat3 hlt3
          go_wp2
          go_roundw
          case rel => exact ⟨k + 1, by omega, by go_num, hfin.out⟩
          case measure => simp [intOf]; omega
        | false =>
          have hfin := hide (bx_no hx'.out k1 hrel'.out ((Below.refl _ _).alloc (Nat.le_refl _) (.cells #[.int .i64 x.k, .int .i64 x.g.w, .int .i64 x.g.st, .int .i64 x.g.sh, .int .i64 x.g.o, .int .i64 x.c, .bool x.m] 29)))
          go_wp2
          go_roundw
          case rel => exact ⟨k + 1, by omega, by go_num, hfin.out⟩
          case measure => simp [intOf]; omega
      · obtain rfl : n = k := by omega
        clear hown hb hst
        go_wp2
        unfold RowB
        go_ret
        exact ⟨_, rfl, hown'.out, hb'.out⟩
end Go.Proofs.Ytocaonlmlafjmaa

/- The walks through where a line may end, and where it starts. Condition: the slice reads as the list. -/
namespace Go.Proofs.Ytocaonlmlafjmaa
open Go.RowKit
set_option linter.unusedVariables false
set_option linter.unusedSimpArgs false

theorem may_other {l : List I} {q : Nat} {x : I} (hx : l[q]? = some x) (h : (x.k == 2) = false) : mayB l q = ((x.k == 3) && decide (x.c < 10000)) := by
  have : ¬ x.k = 2 := by simpa using h
  unfold mayB; rw [hx]; simp [this]
theorem may_zero {l : List I} {x : I} (hx : l[0]? = some x) (h : (x.k == 2) = true) : mayB l 0 = false := by
  have : x.k = 2 := by simpa using h
  unfold mayB; rw [hx]; simp [this]
theorem may_glue {l : List I} {q : Nat} {x y : I} (hx : l[q]? = some x) (h : (x.k == 2) = true) (h0 : 0 < q) (hy : l[q - 1]? = some y) : mayB l q = (y.k == 1) := by
  have : x.k = 2 := by simpa using h
  unfold mayB; rw [hx, hy]; simp [this, h0]
theorem mayI_nat {l : List I} {q n : Nat} (hl : l.length = n) (h : q < n) : mayI l (q : Int) = mayB l q := by
  unfold mayI
  rw [inB_mk (by omega), Bool.true_and, Int.toNat_natCast]
theorem mayI_no {l : List I} {t : Int} {n : Nat} (hl : l.length = n) (h : inB t 0 ((n : Int) - 1) = false) : mayI l t = false := by
  unfold mayI
  rw [hl, h]; rfl
set_option maxRecDepth 100000 in
set_option maxHeartbeats 1000000 in
theorem specBreak (A : Option Addr) (n c q : Nat) (l : List I) (w : World) (hn : n ≤ maxLen) (hl : l.length = n) (h : Rd w 7 A n (cellsI l)) (hq : q < n) :
    Calls Try.prog 78 #[.slice A n c, .int .i64 (q : Int)] w fun e w' => e = .returned (.bool (mayB l q)) ∧ w = w' := by
  have hl' := hide hl
  clear hl
  unfold maxLen at hn
  obtain ⟨b, off, x, rfl, hbk, hx, c0, c1, c2, c3, c4, c5, c6⟩ := h.item hl'.out hq
  have hx' := hide hx
  have hqi : (q : Int) < (n : Int) := by omega
  have hq0 : (0 : Int) ≤ (q : Int) := by omega
  clear hx
  cases k2 : (x.k == 2) with
  | false =>
    cases k3 : (x.k == 3) with
    | false =>
      have e := hide (show mayB l q = false by rw [may_other hx'.out k2, k3]; rfl)
      go_enter Try.func78, Try.ntmps78
      go_wp2
      go_ret
      exact ⟨ret_bool e.out.symm, rfl⟩
    | true =>
      have e := hide (show mayB l q = decide (x.c < 10000) by rw [may_other hx'.out k2, k3]; rfl)
      go_enter Try.func78, Try.ntmps78
      go_wp2
      go_ret
      exact ⟨ret_bool e.out.symm, rfl⟩
  | true =>
    by_cases h0 : 0 < q
    · obtain ⟨b2, off2, y, hA, hbk2, hy, e0, e1, e2, e3, e4, e5, e6⟩ := h.item hl'.out (show q - 1 < n by omega)
      injection hA with hA
      injection hA with hA1 hA2
      subst hA1
      subst hA2
      have e := hide (may_glue hx'.out k2 h0 hy)
      have g1 : (1 : Int) ≤ (q : Int) := by omega
      have g2 : (0 : Int) ≤ (q : Int) - 1 := by omega
      have g3 : (q : Int) - 1 < (n : Int) := by omega
      have g4 : ((q : Int) - 1).toNat = q - 1 := by omega
      clear hy
      go_enter Try.func78, Try.ntmps78
      go_wp2
      go_ret
      exact ⟨ret_bool e.out.symm, rfl⟩
    · obtain rfl : q = 0 := by omega
      have e := hide (may_zero hx'.out k2)
      simp only [Nat.zero_mul, Nat.add_zero] at c0 c1 c2 c3 c4 c5 c6
      clear h0
      go_enter Try.func78, Try.ntmps78
      go_wp2
      go_ret
      exact ⟨ret_bool e.out.symm, rfl⟩
set_option maxRecDepth 100000 in
set_option maxHeartbeats 1000000 in
theorem implMayN (A : Option Addr) (n c q : Nat) (l : List I) (w : World) (hn : n ≤ maxLen) (hl : l.length = n) (h : Rd w 7 A n (cellsI l)) (hq : q < n) :
    Calls Try.prog 79 #[.slice A n c, .int .i64 (q : Int)] w fun e w' => e = .returned (.bool (mayB l q)) ∧ w = w' := by
  have hl' := hide hl
  clear hl
  unfold maxLen at hn
  obtain ⟨b, off, x, rfl, hbk, hx, c0, c1, c2, c3, c4, c5, c6⟩ := h.item hl'.out hq
  have hx' := hide hx
  have hqi : (q : Int) < (n : Int) := by omega
  have hq0 : (0 : Int) ≤ (q : Int) := by omega
  clear hx
  cases k2 : (x.k == 2) with
  | false =>
    cases k3 : (x.k == 3) with
    | false =>
      have e := hide (show mayB l q = false by rw [may_other hx'.out k2, k3]; rfl)
      have hin : inB (q : Int) 0 ((n : Int) - 1) = true := inB_mk (by omega)
      go_enter Try.func79, Try.ntmps79
      go_wp2_with (go_at_call 82; refine (in_any _ _ _ _).mono ?_; rintro e w' ⟨rfl, rfl⟩)
      go_ret
      exact ⟨ret_bool e.out.symm, rfl⟩
    | true =>
      have e := hide (show mayB l q = decide (x.c < 10000) by rw [may_other hx'.out k2, k3]; rfl)
      have hin : inB (q : Int) 0 ((n : Int) - 1) = true := inB_mk (by omega)
      go_enter Try.func79, Try.ntmps79
      go_wp2_with (go_at_call 82; refine (in_any _ _ _ _).mono ?_; rintro e w' ⟨rfl, rfl⟩)
      go_ret
      exact ⟨ret_bool e.out.symm, rfl⟩
  | true =>
    by_cases h0 : 0 < q
    · obtain ⟨b2, off2, y, hA, hbk2, hy, e0, e1, e2, e3, e4, e5, e6⟩ := h.item hl'.out (show q - 1 < n by omega)
      injection hA with hA
      injection hA with hA1 hA2
      subst hA1
      subst hA2
      have e := hide (may_glue hx'.out k2 h0 hy)
      have g1 : (1 : Int) ≤ (q : Int) := by omega
      have g2 : (0 : Int) ≤ (q : Int) - 1 := by omega
      have g3 : (q : Int) - 1 < (n : Int) := by omega
      have g4 : ((q : Int) - 1).toNat = q - 1 := by omega
      clear hy
      have hin : inB (q : Int) 0 ((n : Int) - 1) = true := inB_mk (by omega)
      go_enter Try.func79, Try.ntmps79
      go_wp2_with (go_at_call 82; refine (in_any _ _ _ _).mono ?_; rintro e w' ⟨rfl, rfl⟩)
      go_ret
      exact ⟨ret_bool e.out.symm, rfl⟩
    · obtain rfl : q = 0 := by omega
      have e := hide (may_zero hx'.out k2)
      simp only [Nat.zero_mul, Nat.add_zero] at c0 c1 c2 c3 c4 c5 c6
      clear h0
      have hin : inB 0 0 ((n : Int) - 1) = true := inB_mk (by omega)
      go_enter Try.func79, Try.ntmps79
      go_wp2_with (go_at_call 82; refine (in_any _ _ _ _).mono ?_; rintro e w' ⟨rfl, rfl⟩)
      go_ret
      exact ⟨ret_bool e.out.symm, rfl⟩
theorem implMay0 (A : Option Addr) (n c : Nat) (l : List I) (t : Int) (w : World) (hn : n ≤ maxLen) (hl : l.length = n) (h : Rd w 7 A n (cellsI l)) :
    Calls Try.prog 79 #[.slice A n c, .int .i64 t] w fun e w' => e = .returned (.bool (mayI l t)) ∧ w = w' := by
  cases hin : inB t 0 ((n : Int) - 1) with
  | false =>
    rw [mayI_no hl hin]
    unfold maxLen at hn
    clear hl h
    go_enter Try.func79, Try.ntmps79
    go_wp2_with (go_at_call 82; refine (in_any _ _ _ _).mono ?_; rintro e w' ⟨rfl, rfl⟩)
    go_ret
    exact ⟨rfl, rfl⟩
  | true =>
    have hb := inB_true hin
    obtain ⟨q, rfl⟩ := Int.eq_ofNat_of_zero_le hb.1
    rw [mayI_nat hl (by omega)]
    exact implMayN A n c q l w hn hl h (by omega)
theorem implMay (A : Option Addr) (n c : Nat) (l : List I) (t : Int) (w : World) (hn : n ≤ maxLen) (hl : l.length = n) (h : Rd w 7 A n (cellsI l)) :
    Calls Try.prog 34 #[.slice A n c, .int .i64 t] w fun e w' => e = .returned (.bool (items60 l && mayI l t)) ∧ Below w.heap.size w w' := by
  have hv := hide (implItems A n c l w hn hl h)
  have hm := hide (fun W (hr : Rd W 7 A n (cellsI l)) => implMay0 A n c l t W hn hl hr)
  have h' := hide h
  clear hl hn h
  cases h60 : items60 l with
  | false =>
    rw [h60] at hv
    clear h60
    go_enter Try.func34, Try.ntmps34
    go_wp2_with fail
    refine hv.out.mono ?_
    rintro e w1 ⟨rfl, hb1⟩
    have hb1' := hide hb1
    clear hb1
    go_wp2
    go_ret
    exact ⟨rfl, hb1'.out⟩
  | true =>
    rw [h60] at hv
    clear h60
    go_enter Try.func34, Try.ntmps34
    go_wp2_with fail
    refine hv.out.mono ?_
    rintro e w1 ⟨rfl, hb1⟩
    have hb1' := hide hb1
    clear hb1
    go_wp2_with fail
    refine (hm.out _ (h'.out.below hb1'.out)).mono ?_
    rintro e w' ⟨rfl, rfl⟩
    go_wp2
    go_ret
    exact ⟨rfl, hb1'.out⟩
theorem specMay (A : Option Addr) (n c : Nat) (l : List I) (t : Int) (w : World) (hn : n ≤ maxLen) (hl : l.length = n) (h : Rd w 7 A n (cellsI l)) :
    Calls Try.prog 33 #[.slice A n c, .int .i64 t] w fun e w' => e = .returned (.bool (items60 l && mayI l t)) ∧ Below w.heap.size w w' := by
  have hv := hide (specItems A n c l w hn hl h)
  have hm := hide (fun W (hr : Rd W 7 A n (cellsI l)) (q : Nat) (hq : q < n) => specBreak A n c q l W hn hl hr hq)
  have h' := hide h
  have hl' := hide hl
  unfold maxLen at hn
  clear hl h
  cases h60 : items60 l with
  | false =>
    rw [h60] at hv
    clear h60
    go_enter Try.func33, Try.ntmps33
    go_wp2_with fail
    refine hv.out.mono ?_
    rintro e w1 ⟨rfl, hb1⟩
    have hb1' := hide hb1
    clear hb1
    go_wp2
    go_ret
    exact ⟨rfl, hb1'.out⟩
  | true =>
    rw [h60] at hv
    clear h60
    cases hin : inB t 0 ((n : Int) - 1) with
    | false =>
      rw [mayI_no hl'.out hin]
      go_enter Try.func33, Try.ntmps33
      go_wp2_with fail
      refine hv.out.mono ?_
      rintro e w1 ⟨rfl, hb1⟩
      have hb1' := hide hb1
      clear hb1
      go_wp2_with (go_at_call 70; refine (l1In_any _ _ _ _).mono ?_; rintro e w' ⟨rfl, rfl⟩)
      go_ret
      exact ⟨rfl, hb1'.out⟩
    | true =>
      have hb := inB_true hin
      obtain ⟨q, rfl⟩ := Int.eq_ofNat_of_zero_le hb.1
      have hqn : q < n := by omega
      rw [mayI_nat hl'.out hqn]
      clear hb
      go_enter Try.func33, Try.ntmps33
      go_wp2_with fail
      refine hv.out.mono ?_
      rintro e w1 ⟨rfl, hb1⟩
      have hb1' := hide hb1
      clear hb1
      go_wp2_with fail
      refine (l1In_any _ _ _ _).mono ?_
      rintro e w' ⟨rfl, rfl⟩
      rw [hin]
      go_wp2_with fail
      refine (hm.out _ (h'.out.below hb1'.out) q hqn).mono ?_
      rintro e w' ⟨rfl, rfl⟩
      go_wp2
      go_ret
      exact ⟨rfl, hb1'.out⟩
theorem stop_one {x : I} (h : (x.k == 1) = true) : stopB x = true := by unfold stopB; rw [h]; rfl
theorem stop_three {x : I} (h : (x.k == 3) = true) (hc : x.c < 0) : stopB x = true := by unfold stopB; rw [h]; simp [hc]
theorem stop_no3 {x : I} (h1 : (x.k == 1) = false) (h : (x.k == 3) = false) : stopB x = false := by unfold stopB; rw [h1, h]; rfl
theorem stop_pos {x : I} (h1 : (x.k == 1) = false) (hc : ¬ x.c < 0) : stopB x = false := by unfold stopB; rw [h1]; simp [hc]
theorem bne_of {a b : Int} {v : Bool} (h : (a == b) = v) : (a != b) = !v := by unfold bne; rw [h]
theorem specStart (A : Option Addr) (n c q : Nat) (l : List I) (w : World) (hn : n ≤ maxLen) (hl : l.length = n) (h : Rd w 7 A n (cellsI l)) (hq : q ≤ n) :
    Calls Try.prog 81 #[.slice A n c, .int .i64 ((q : Int) - 1)] w fun e w' => e = .returned (.int .i64 (stA l q : Int)) ∧ w = w' := by
  have hl' := hide hl
  clear hl
  unfold maxLen at hn
  have g0 : (q : Int) - 1 + 1 = (q : Int) := by omega
  go_enter Try.func81, Try.ntmps81
  go_wp2
  go_loop [5] (fun i => ∃ k : Nat, k ≤ n ∧ i = .int .i64 k ∧ Hid (stA l q = stA l k)) (fun i => n - (intOf i).toNat)
  case atStart => exact ⟨q, hq, by first | rfl | (congr 1), rfl⟩
  case round =>
    obtain ⟨k, hk, rfl, hst⟩ := hrel
    by_cases hlt : k < n
    · obtain ⟨b, off, x, rfl, hbk, hx, c0, c1, c2, c3, c4, c5, c6⟩ := h.item hl'.out hlt
      have hx' := hide hx
      clear hx
      cases k1 : (x.k == 1) with
      | true =>
        have e := hide (hst.out.trans (stA_stop hx'.out (stop_one k1)))
        have b1 := bne_of k1
        go_wp2
        go_ret
        exact ⟨ret_int (by rw [e.out]), rfl⟩
      | false =>
        have b1 := bne_of k1
        cases k3 : (x.k == 3) with
        | false =>
          have e := hide (hst.out.trans (stA_go hx'.out (stop_no3 k1 k3)))
          have b3 := bne_of k3
          go_wp2
          go_round
          case rel => exact ⟨k + 1, by omega, by go_num, e.out⟩
          case measure => simp [intOf]; omega
        | true =>
          have b3 := bne_of k3
          by_cases hc : x.c < 0
          · have e := hide (hst.out.trans (stA_stop hx'.out (stop_three k3 hc)))
            have d : decide (0 ≤ x.c) = false := decide_eq_false (by omega)
            clear hc
            go_wp2
            go_ret
            exact ⟨ret_int (by rw [e.out]), rfl⟩
          · have e := hide (hst.out.trans (stA_go hx'.out (stop_pos k1 hc)))
            have d : 0 ≤ x.c := by omega
            clear hc
            go_wp2
            go_round
            case rel => exact ⟨k + 1, by omega, by go_num, e.out⟩
            case measure => simp [intOf]; omega
    · have e := hide (hst.out.trans (stA_end (by have := hl'.out; omega)))
      go_wp2
      go_ret
      exact ⟨ret_int (by rw [e.out]), rfl⟩
theorem forced_any (i : I) (w : World) :
    Calls Try.prog 105 #[.agg #[.int .i64 i.k, .int .i64 i.g.w, .int .i64 i.g.st, .int .i64 i.g.sh, .int .i64 i.g.o, .int .i64 i.c, .bool i.m]] w fun e w' => e = .returned (.bool (forcedB i)) ∧ Below w.heap.size w w' := by
  cases k3 : (i.k == 3) with
  | false =>
    have e := hide (show forcedB i = false by unfold forcedB; rw [k3]; rfl)
    go_enter Try.func105, Try.ntmps105
    go_wp2
    go_ret
    exact ⟨ret_bool e.out.symm, (Below.refl _ _).alloc (Nat.le_refl _) _⟩
  | true =>
    have e := hide (show forcedB i = (i.c == -10000) by unfold forcedB; rw [k3]; rfl)
    go_enter Try.func105, Try.ntmps105
    go_wp2
    go_ret
    exact ⟨ret_bool e.out.symm, (Below.refl _ _).alloc (Nat.le_refl _) _⟩
theorem implStart (A : Option Addr) (n c q : Nat) (l : List I) (w : World) (hn : n ≤ maxLen) (hl : l.length = n) (h : Rd w 7 A n (cellsI l)) (hq : q ≤ n) (hok : items60 l = true) :
    Calls Try.prog 83 #[.slice A n c, .int .i64 ((q : Int) - 1)] w fun e w' => e = .returned (.int .i64 (stA l q : Int)) ∧ Below w.heap.size w w' := by
  have hl' := hide hl
  have hok' := hide (items60_true hok).1
  clear hl hok
  unfold maxLen at hn
  have g0 : (q : Int) - 1 + 1 = (q : Int) := by omega
  go_enter Try.func83, Try.ntmps83
  go_wp2
  go_loopw [5] (fun i wr => ∃ k : Nat, k ≤ n ∧ i = .int .i64 k ∧ Hid (stA l q = stA l k) ∧ Below w.heap.size w wr) (fun i _ => n - (intOf i).toNat)
  case atStart => exact ⟨q, hq, by first | rfl | (congr 1), rfl, Below.refl _ _⟩
  case round =>
    obtain ⟨k, hk, rfl, hst, hw⟩ := hrel
    have hw' := hide hw
    have hws := hw.size
    by_cases hlt : k < n
    · obtain ⟨b, off, x, rfl, hbk, hx, c0, c1, c2, c3, c4, c5, c6⟩ := (h.below hw).item hl'.out hlt
      have hx' := hide hx
      have hf := hide (forced_iff (hok'.out x (List.mem_of_getElem? hx)))
      clear hx hw
      cases k1 : (x.k == 1) with
      | true =>
        have e := hide (hst.out.trans (stA_stop hx'.out (stop_one k1)))
        have b1 := bne_of k1
        go_wp2
        go_ret
        exact ⟨ret_int (by rw [e.out]), hw'.out⟩
      | false =>
        have b1 := bne_of k1
        cases kf : forcedB x with
        | true =>
          have e := hide (hst.out.trans (stA_stop hx'.out (by unfold stopB; rw [k1, Bool.false_or, ← hf.out]; exact kf)))
          go_wp2_with fail
          refine (forced_any x _).mono ?_
          rintro e w1 ⟨rfl, hb1⟩
          rw [kf]
          have hb2 := hide (hw'.out.trans (hb1.mono hws))
          clear hb1
          go_wp2
          go_ret
          exact ⟨ret_int (by rw [e.out]), hb2.out⟩
        | false =>
          have e := hide (hst.out.trans (stA_go hx'.out (by unfold stopB; rw [k1, Bool.false_or, ← hf.out]; exact kf)))
          go_wp2_with fail
          refine (forced_any x _).mono ?_
          rintro e w1 ⟨rfl, hb1⟩
          rw [kf]
          have hb2 := hide (hw'.out.trans (hb1.mono hws))
          clear hb1
          go_wp2
          go_roundw
          case rel => exact ⟨k + 1, by omega, by go_num, e.out, hb2.out⟩
          case measure => simp [intOf]; omega
    · have e := hide (hst.out.trans (stA_end (by have := hl'.out; omega)))
      clear hw
      go_wp2
      go_ret
      exact ⟨ret_int (by rw [e.out]), hw'.out⟩
end Go.Proofs.Ytocaonlmlafjmaa

/- The walks through where a line starts, with the checks. Condition: the slice reads as the list. -/
namespace Go.Proofs.Ytocaonlmlafjmaa
open Go.RowKit
set_option linter.unusedVariables false
set_option linter.unusedSimpArgs false

theorem lineS_no60 {l : List I} {t : Int} (h : items60 l = false) : lineS l t = -1 := by
  unfold lineS; rw [h]; rfl
theorem lineS_noin {l : List I} {t : Int} {n : Nat} (hl : l.length = n) (h : inB t (-1) ((n : Int) - 1) = false) : lineS l t = -1 := by
  unfold lineS; rw [hl, h, Bool.and_false]; rfl
theorem lineS_at {l : List I} {q n : Nat} (hl : l.length = n) (h : items60 l = true) (hq : q ≤ n) : lineS l ((q : Int) - 1) = (stA l q : Int) := by
  unfold lineS
  have e : inB ((q : Int) - 1) (-1) ((n : Int) - 1) = true := inB_mk (by omega)
  have e2 : ((q : Int) - 1 + 1).toNat = q := by omega
  rw [h, hl, e, e2]; rfl
theorem implLineS (A : Option Addr) (n c : Nat) (l : List I) (t : Int) (w : World) (hn : n ≤ maxLen) (hl : l.length = n) (h : Rd w 7 A n (cellsI l)) :
    Calls Try.prog 37 #[.slice A n c, .int .i64 t] w fun e w' => e = .returned (.int .i64 (lineS l t)) ∧ Below w.heap.size w w' := by
  have hv := hide (implItems A n c l w hn hl h)
  have h' := hide h
  have hl' := hide hl
  have hn2 : n ≤ 2 ^ 63 - 1 := hn
  cases h60 : items60 l with
  | false =>
    rw [lineS_no60 h60]
    rw [h60] at hv
    clear h60 hl hn h
    go_enter Try.func37, Try.ntmps37
    go_wp2_with fail
    refine hv.out.mono ?_
    rintro e w1 ⟨rfl, hb1⟩
    have hb1' := hide hb1
    have hs1 := hb1.size
    clear hb1
    go_wp2
    go_ret
    exact ⟨rfl, hb1'.out⟩
  | true =>
    have hok := h60
    have hm := hide (fun W (hr : Rd W 7 A n (cellsI l)) (q : Nat) (hq : q ≤ n) => implStart A n c q l W hn hl hr hq hok)
    rw [h60] at hv
    clear h60 hl hn h
    cases hin : inB t (-1) ((n : Int) - 1) with
    | false =>
      rw [lineS_noin hl'.out hin]
      clear hok hm
      go_enter Try.func37, Try.ntmps37
      go_wp2_with fail
      refine hv.out.mono ?_
      rintro e w1 ⟨rfl, hb1⟩
      have hb1' := hide hb1
      have hs1 := hb1.size
      clear hb1
      go_wp2_with (go_at_call 82; refine (in_any _ _ _ _).mono ?_; rintro e w' ⟨rfl, rfl⟩)
      go_ret
      exact ⟨rfl, hb1'.out⟩
    | true =>
      have hb := inB_true hin
      obtain ⟨q, hq⟩ := Int.eq_ofNat_of_zero_le (show 0 ≤ t + 1 by omega)
      obtain rfl : t = (q : Int) - 1 := by omega
      have hqn : q ≤ n := by omega
      have ee := hide (lineS_at hl'.out hok hqn)
      rw [ee.out]
      clear hb hok hq ee
      go_enter Try.func37, Try.ntmps37
      go_wp2_with fail
      refine hv.out.mono ?_
      rintro e w1 ⟨rfl, hb1⟩
      have hb1' := hide hb1
      have hs1 := hb1.size
      clear hb1
      go_wp2_with fail
      refine (in_any _ _ _ _).mono ?_
      rintro e w' ⟨rfl, rfl⟩
      rw [hin]
      go_wp2_with fail
      refine (hm.out _ (h'.out.below hb1'.out) q hqn).mono ?_
      rintro e w2 ⟨rfl, hb2⟩
      have hb2' := hide (hb1'.out.trans (hb2.mono hs1))
      clear hb2
      go_wp2
      go_ret
      exact ⟨rfl, hb2'.out⟩
theorem specLineS (A : Option Addr) (n c : Nat) (l : List I) (t : Int) (w : World) (hn : n ≤ maxLen) (hl : l.length = n) (h : Rd w 7 A n (cellsI l)) :
    Calls Try.prog 36 #[.slice A n c, .int .i64 t] w fun e w' => e = .returned (.int .i64 (lineS l t)) ∧ Below w.heap.size w w' := by
  have hv := hide (specItems A n c l w hn hl h)
  have h' := hide h
  have hl' := hide hl
  have hn2 : n ≤ 2 ^ 63 - 1 := hn
  cases h60 : items60 l with
  | false =>
    rw [lineS_no60 h60]
    rw [h60] at hv
    clear h60 hl hn h
    go_enter Try.func36, Try.ntmps36
    go_wp2_with fail
    refine hv.out.mono ?_
    rintro e w1 ⟨rfl, hb1⟩
    have hb1' := hide hb1
    have hs1 := hb1.size
    clear hb1
    go_wp2
    go_ret
    exact ⟨rfl, hb1'.out⟩
  | true =>
    have hok := h60
    have hm := hide (fun W (hr : Rd W 7 A n (cellsI l)) (q : Nat) (hq : q ≤ n) => specStart A n c q l W hn hl hr hq)
    rw [h60] at hv
    clear h60 hl hn h
    cases hin : inB t (-1) ((n : Int) - 1) with
    | false =>
      rw [lineS_noin hl'.out hin]
      clear hok hm
      go_enter Try.func36, Try.ntmps36
      go_wp2_with fail
      refine hv.out.mono ?_
      rintro e w1 ⟨rfl, hb1⟩
      have hb1' := hide hb1
      have hs1 := hb1.size
      clear hb1
      go_wp2_with (go_at_call 70; refine (l1In_any _ _ _ _).mono ?_; rintro e w' ⟨rfl, rfl⟩)
      go_ret
      exact ⟨rfl, hb1'.out⟩
    | true =>
      have hb := inB_true hin
      obtain ⟨q, hq⟩ := Int.eq_ofNat_of_zero_le (show 0 ≤ t + 1 by omega)
      obtain rfl : t = (q : Int) - 1 := by omega
      have hqn : q ≤ n := by omega
      have ee := hide (lineS_at hl'.out hok hqn)
      rw [ee.out]
      clear hb hok hq ee
      go_enter Try.func36, Try.ntmps36
      go_wp2_with fail
      refine hv.out.mono ?_
      rintro e w1 ⟨rfl, hb1⟩
      have hb1' := hide hb1
      have hs1 := hb1.size
      clear hb1
      go_wp2_with fail
      refine (l1In_any _ _ _ _).mono ?_
      rintro e w' ⟨rfl, rfl⟩
      rw [hin]
      go_wp2_with fail
      refine (hm.out _ (h'.out.below hb1'.out) q hqn).mono ?_
      rintro e w' ⟨rfl, rfl⟩
      have hb2' := hb1'
      go_wp2
      go_ret
      exact ⟨rfl, hb2'.out⟩
end Go.Proofs.Ytocaonlmlafjmaa
