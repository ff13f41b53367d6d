/- What the draw of glues gives: a row of glues of small numbers. Condition: the reader's block is its own. -/
import Derived.Test.YtoiacijjbehioaaDrGlue
import Derived.Test.YtoiacijjbehioaaDraw2
import Derived.Test.YtoiacijjbehioaaExG
import Derived.Laws.OwnMore
import Derived.Test.YtoiacijjbehioaaSub
namespace Go.Proofs.Ytoiacijjbehioaa
open Go.RowKit
set_option linter.unusedVariables false
set_option linter.unusedSimpArgs false
set_option maxRecDepth 100000
theorem own_empty4 {w w' : World} {t : TypeId} (h : Blk w' w.heap.size t #[]) : w'.ownsRow w.heap.size t 4 (.slice (some ⟨w.heap.size, 0, none⟩) 0 0) 0 [] :=
  ⟨rfl, .inr ⟨w.heap.size, 0, #[], rfl, Nat.le_refl _, h, Nat.le_refl _, by simp [maxLen], rfl, rfl⟩⟩
theorem g_cells_one (x : G) : ∀ u ∈ [Value.int .i64 x.w, .int .i64 x.st, .int .i64 x.sh, .int .i64 x.o], u.oneCell' = true := by
  intro u hu
  simp at hu
  rcases hu with rfl | rfl | rfl | rfl <;> rfl
theorem RdS.row {w w' : World} {g p : Nat} {rb : Option Nat} (h : RdS w g p) (hg : w.grownBy w' rb) (hr : ∀ k, rb = some k → g < k) : RdS w' g p := by
  cases rb with
  | none => exact h.below ⟨hg.os, hg.tape, hg.output, hg.size, fun k hk => hg.block k hk (by simp)⟩
  | some k => exact h.only hg (hr k rfl)
theorem cellsG_snoc (L : List G) (x : G) : cellsG (L ++ [x]) = cellsG L ++ [.int .i64 x.w, .int .i64 x.st, .int .i64 x.sh, .int .i64 x.o] := by simp [cellsG, G.cells]
theorem own_row {w : World} {base g : Nat} {e : TypeId} {xs : List Value} {size n : Nat} (h : Blk w g e xs.toArray) (hb : base ≤ g) (hl : xs.length = n * size) (hn : n ≤ maxLen) : w.ownsRow base e size (.slice (some ⟨g, 0, none⟩) n n) n xs :=
  ⟨hl, .inr ⟨g, n, xs.toArray, rfl, hb, h, Nat.le_refl _, hn, by simp [hl], by simp [← hl]⟩⟩
def GsRel (w : World) (g p K : Nat) (v : Value) (n : Nat) (wr : World) : Prop :=
  ∃ (L : List G) (q : Nat), L.length = n ∧ (∀ x ∈ L, gBnd x) ∧ wr.ownsRow w.heap.size 26 4 v n (cellsG L) ∧ q ≤ p + K ∧ RdS wr g q ∧ Outer w.heap.size g w wr
def GsP (g p : Nat) (w : World) (e : Ending) (w' : World) : Prop := ∃ (L : List G) (v : Value) (n q : Nat), e = .returned v ∧ n ≤ 61 ∧ L.length = n ∧ (∀ x ∈ L, gBnd x) ∧ w'.ownsRow w.heap.size 26 4 v n (cellsG L) ∧ q ≤ p + 1000 ∧ RdS w' g q ∧ w.grownBy w' (some g)
theorem gs_step {w wr w2 w3 : World} {g p K q2 n g3 cap3 : Nat} {v : Value} {L : List G} {x : G} (hL : List.length L = n) (hLb : ∀ x ∈ L, gBnd x) (hx : gBnd x) (hown : wr.ownsRow w.heap.size 26 4 v n (cellsG L)) (hq2 : q2 ≤ p + K) (hr2 : RdS w2 g q2) (hgl : g < w.heap.size)
    (hO : Outer w.heap.size g w w2) (hown3 : w3.ownsRow w.heap.size 26 4 (.slice (some ⟨g3, 0, none⟩) (n + 1) cap3) (n + 1) (cellsG L ++ [.int .i64 x.w, .int .i64 x.st, .int .i64 x.sh, .int .i64 x.o]))
    (hg3 : (w2.alloc (.cells #[.int .i64 x.w, .int .i64 x.st, .int .i64 x.sh, .int .i64 x.o] 26)).grownBy w3 v.ownBlock) : GsRel w g p K (.slice (some ⟨g3, 0, none⟩) (n + 1) cap3) (n + 1) w3 := by
  have hrb : ∀ k, v.ownBlock = some k → w.heap.size ≤ k := fun k hk => (hown.lt k hk).1
  refine ⟨L ++ [x], q2, by simp [hL], fun y hy => ?_, by rw [cellsG_snoc]; exact hown3, hq2, (hr2.alloc _).row hg3 (fun k hk => by have := hrb k hk; omega), ?_⟩
  · rcases List.mem_append.1 hy with hy | hy
    · exact hLb y hy
    · simp at hy; subst hy; exact hx
  · exact (hO.trans (Outer.grown (only_alloc' w2 _ g) hO.size)).trans (Outer.row hg3 (by have := hO.size; simp; omega) hrb)
set_option maxHeartbeats 1000000 in
theorem l20Glues_any (g p : Nat) (m : Int) (w : World) (h : RdS w g p) (hp : p ≤ 100000) (hm : 0 ≤ m ∧ m ≤ 1000000) :
    Calls Try.prog 57 #[.pointer (some ⟨g, 0, none⟩), .int .i64 m] w (GsP g p w) := by
  have hgl := h.lt
  have hk0 := Blk.new w 26 #[]
  have ho0 := only_alloc (only_refl w (some g)) (.cells #[] 26)
  have hs0 := h.alloc (.cells #[] 26)
  clear h
  obtain ⟨i0, hi, hz0, hz1, hz2⟩ := info_parts glue_info
  have hmk' := hide (show ∀ W : World, (Instr.makeSlice 35 (.int .i64 61) (.int .i64 61)).run Try.prog W = .ok (.slice (some ⟨W.heap.size, 0, none⟩) 61 61) (W.alloc (.cells (cellsG (List.replicate 61 ⟨0, 0, 0, 0⟩)).toArray 26)) from by
    intro W
    have := run_make_rowN (P := Try.prog) 35 26 i0 _ Try.underlying35 hi hz0 .i64 .i64 61 61 (Nat.le_refl _) (by rw [hz2]; omega) (by omega) W
    rw [hz1] at this
    refine this.trans ?_
    congr 2
    congr 1
    exact made_flat G.cells 4 (by omega) (fun _ => rfl) ⟨0, 0, 0, 0⟩ 61)
  go_enter Try.func57, Try.ntmps57
  go_wp2_with (fail)
  generalize w.alloc (.cells #[] 26) = wa at hk0 ho0 hs0 ⊢
  go_at_call 59
  refine (pick_any g p 7 _ hs0 (by omega) (by omega)).mono ?_
  rintro e w1 ⟨k, rfl, k0, k1, hs1, hg1⟩
  have hk1 := hide (own_empty4 (hk0.grown hg1 (fun e => by injection e with e; omega)))
  have ho1 := hide (Outer.grown (only_trans ho0 hg1) (Nat.le_refl _))
  obtain ⟨k, rfl⟩ := Int.eq_ofNat_of_zero_le k0
  have hk7 : k ≤ 6 := by omega
  have hs1' := hide hs1
  clear hk0 ho0 hs0 hg1 k0 k1 hs1
  go_wp2
  go_loopw [5, 6] (fun v i wr => ∃ j n : Nat, i = .int .i64 j ∧ j + n = k ∧ GsRel w g p (1 + 31 * n) v n wr) (fun _ i _ => (intOf i).toNat)
  case atStart => exact ⟨k, 0, rfl, rfl, [], p + 1, rfl, fun x hx => (by cases hx), hk1.out, by omega, hs1'.out, ho1.out⟩
  case round =>
    obtain ⟨j, n, rfl, hjn, L, q, hL, hLb, hown, hq, hr, hO⟩ := hrel
    have hL' := hide hL
    have hown' := hide hown
    have hne' := hide (fun kk hkk => (hown'.out.lt kk hkk))
    have hwr := hO.size
    clear hL hk1 ho1 hs1'
    by_cases hj : 0 < j
    · obtain ⟨j, rfl⟩ : ∃ j', j = j' + 1 := ⟨j - 1, by omega⟩
      have hd : decide (0 < ((j + 1 : Nat) : Int)) = true := decide_eq_true (by omega)
      go_wp2_with (fail)
      go_at_call 51
      refine (l20Glue_any g q 0 wr hr (by omega) (by omega)).mono ?_
      rintro e w2 ⟨x, q2, rfl, hx, hq2, hr2, hg2⟩
      unfold gVal
      have hown2 := hide (own_keep hown (fun kk hkk => hg2.block kk ((hne'.out kk hkk).2) (fun e => by have := (hne'.out kk hkk).1; injection e with e; omega)))
      have hO2 := hide (hO.trans (Outer.grown hg2 hwr))
      have hb2 := hg2.size
      have hLb' := hide hLb
      have hr2' := hide hr2
      have hx' := hide hx
      clear hr hown hg2 hO hLb hr2 hx
      go_wp2_with (at_builtin; refine wpList_append_lies _ rfl _ _ 35 rfl w.heap.size 26 i0 (.agg #[.int .i64 0, .int .i64 0, .int .i64 0, .int .i64 0]) 4 32 Try.underlying35 hi hz0 hz1 hz2 rfl (by decide) _ _ _ rfl (hown2.out.alloc _) ⟨w2.heap.size, 0, none⟩ 1 1 [.int .i64 x.w, .int .i64 x.st, .int .i64 x.sh, .int .i64 x.o] rfl rfl (news_new w2 26 [.int .i64 x.w, .int .i64 x.st, .int .i64 x.sh, .int .i64 x.o]) (g_cells_one x) (by omega) (by unfold maxLen; omega) (by omega) (by simp; omega) _ rfl ?_)
      intro g3 cap3 w3 hown3 hg3 hat3 hlt3
      have hfin := hide (gs_step (p := p) (K := 1 + 31 * (n + 1)) hL'.out hLb'.out hx'.out hown'.out (by omega) hr2'.out hgl hO2.out hown3 hg3)
      clear hown3 hg3 hat3 hlt3
      go_wp2
      go_roundw
      case rel => exact ⟨j, n + 1, by first | rfl | go_num | (congr 1; omega), by omega, hfin.out⟩
      case measure => (simp [intOf] <;> omega)
    · obtain rfl : j = 0 := by omega
      obtain rfl : n = k := by omega
      go_wp2_with (fail)
      refine (odd_any g q m wr hr (by omega) (by omega)).mono ?_
      rintro e w2 ⟨bo, q2, rfl, hbo, hr2, hq1, hq2, hg2⟩
      have hown2 := hide (own_keep hown (fun kk hkk => hg2.block kk ((hne'.out kk hkk).2) (fun e => by have := (hne'.out kk hkk).1; injection e with e; omega)))
      have hO2 := hide (hO.trans (Outer.grown hg2 hwr))
      have hb2 := hg2.size
      have hLb' := hide hLb
      clear hr hown hg2 hO hLb hbo
      cases bo with
      | false =>
        have hr2' := hide hr2
        clear hr2
        go_wp2
        unfold GsP
        go_ret
        exact ⟨L, _, n, q2, rfl, by omega, hL'.out, hLb'.out, hown2.out, by omega, hr2'.out, hO2.out.to_grown⟩
      | true =>
        go_wp2_with (fail)
        refine (pick_any g q2 3 w2 hr2 (by omega) (by omega)).mono ?_
        rintro e w3 ⟨t, rfl, t0, t1, hr3, hg3⟩
        have hne2 := hide (fun kk hkk => (hown2.out.lt kk hkk))
        have hown3 := hide (own_keep hown2.out (fun kk hkk => hg3.block kk ((hne2.out kk hkk).2) (fun e => by have := (hne2.out kk hkk).1; injection e with e; omega)))
        have hO3 := hide (hO2.out.trans (Outer.grown hg3 (by omega)))
        have hb3 := hg3.size
        clear hr2 hg3
        by_cases ht : t = 0
        · subst ht
          have hmk := hmk'.out
          have hr3' := hide hr3
          have hz := hO3.out.size
          clear hr3
          go_wp2
          unfold GsP
          go_ret
          exact ⟨List.replicate 61 ⟨0, 0, 0, 0⟩, _, 61, q2 + 1, rfl, Nat.le_refl _, List.length_replicate, fun x hx => (by have := List.eq_of_mem_replicate hx; subst this; unfold gBnd; decide), own_row (Blk.new w3 26 _) hz (by rw [len_cellsG, List.length_replicate]) (by unfold maxLen; omega), by omega, hr3'.out.alloc _, only_alloc hO3.out.to_grown _⟩
        · have hd3 : (t == 0) = false := by simpa using ht
          have hr3' := hide hr3
          clear ht
          go_wp2_with (fail)
          go_at_call 51
          refine (l20Glue_any g (q2 + 1) 1 w3 hr3'.out (by omega) (by omega)).mono ?_
          rintro e w4 ⟨x, q4, rfl, hx, hq4, hr4, hg4⟩
          unfold gVal
          have hne3 := hide (fun kk hkk => (hown3.out.lt kk hkk))
          have hown4 := hide (own_keep hown3.out (fun kk hkk => hg4.block kk ((hne3.out kk hkk).2) (fun e => by have := (hne3.out kk hkk).1; injection e with e; omega)))
          have hO4 := hide (hO3.out.trans (Outer.grown hg4 (by omega)))
          have hb4 := hg4.size
          have hr4' := hide hr4
          have hx' := hide hx
          clear hr3 hg4 hr4 hx
          go_wp2_with (at_builtin; refine wpList_append_lies _ rfl _ _ 35 rfl w.heap.size 26 i0 (.agg #[.int .i64 0, .int .i64 0, .int .i64 0, .int .i64 0]) 4 32 Try.underlying35 hi hz0 hz1 hz2 rfl (by decide) _ _ _ rfl (hown4.out.alloc _) ⟨w4.heap.size, 0, none⟩ 1 1 [.int .i64 x.w, .int .i64 x.st, .int .i64 x.sh, .int .i64 x.o] rfl rfl (news_new w4 26 [.int .i64 x.w, .int .i64 x.st, .int .i64 x.sh, .int .i64 x.o]) (g_cells_one x) (by omega) (by unfold maxLen; omega) (by omega) (by simp; omega) _ rfl ?_)
          intro g5 cap5 w5 hown5 hg5 hat5 hlt5
          have hfin := hide (gs_step (p := p) (K := 1000) hL'.out hLb'.out hx'.out hown4.out (by omega) hr4'.out hgl hO4.out hown5 hg5)
          clear hown5 hg5 hat5 hlt5
          go_wp2
          unfold GsP
          go_ret
          obtain ⟨L5, q5, f1, f2, f3, f4, f5, f6⟩ := hfin.out
          exact ⟨L5, _, n + 1, q5, rfl, by omega, f1, f2, f3, f4, f5, f6.to_grown⟩
end Go.Proofs.Ytoiacijjbehioaa
