/- Several of my texts in one: DrItems, DrItV. Their conditions stand at each. -/
import Derived.Test.YtocaonlmlafjmaaDrItem
import Derived.Test.YtocaonlmlafjmaaKDrTx
import Derived.Test.YtocaonlmlafjmaaKPar
import Derived.Laws.OwnMore
import Derived.Test.YtocaonlmlafjmaaKRead
/- What the draw of items gives: a row of at most sixty-two items. Condition: the reader's block is its own. -/
namespace Go.Proofs.Ytocaonlmlafjmaa
open Go.RowKit
set_option linter.unusedVariables false
set_option linter.unusedSimpArgs false
set_option maxRecDepth 100000

theorem own_row7 {w : World} {base g : Nat} {e : TypeId} {xs : List Value} {size n : Nat} (h : Blk w g e xs.toArray) (hb : base ≤ g) (hl : xs.length = n * size) (hn : n ≤ maxLen) : w.ownsRow base e size (.slice (some ⟨g, 0, none⟩) n n) n xs :=
  ⟨hl, .inr ⟨g, n, xs.toArray, rfl, hb, h, Nat.le_refl _, hn, by simp [hl], by simp [← hl]⟩⟩
theorem parR_len (W l : List ByteArray) : (parR W l).length ≤ 60 := by
  cases h : parB W l with
  | false => rw [parR_no h]; simp
  | true => rw [parR_yes h]; exact parB_len h
def IsRel (w : World) (g p K : Nat) (v : Value) (n : Nat) (wr : World) : Prop :=
  ∃ (L : List I) (q : Nat), L.length = n ∧ wr.ownsRow w.heap.size 29 7 v n (cellsI L) ∧ q ≤ p + K ∧ RdS wr g q ∧ Outer w.heap.size g w wr
def IsP (g p : Nat) (w : World) (e : Ending) (w' : World) : Prop := ∃ (L : List I) (v : Value) (n q : Nat), e = .returned v ∧ n ≤ 62 ∧ L.length = n ∧ w'.ownsRow w.heap.size 29 7 v n (cellsI L) ∧ q ≤ p + 3000 ∧ RdS w' g q ∧ w.grownBy w' (some g)
theorem is_many {w wr w2 w3 : World} {g p K q2 n g3 cap3 m : Nat} {v : Value} {L M : List I} {xs : List Value} (hm : M.length = m) (hxs : xs = cellsI M) (hL : List.length L = n) (hown : wr.ownsRow w.heap.size 29 7 v n (cellsI L)) (hq2 : q2 ≤ p + K) (hr2 : RdS w2 g q2) (hgl : g < w.heap.size)
    (hO : Outer w.heap.size g w w2) (hown3 : w3.ownsRow w.heap.size 29 7 (.slice (some ⟨g3, 0, none⟩) (n + m) cap3) (n + m) (cellsI L ++ xs))
    (hg3 : (w2.alloc (.cells xs.toArray 29)).grownBy w3 v.ownBlock) : IsRel w g p K (.slice (some ⟨g3, 0, none⟩) (n + m) cap3) (n + m) w3 := by
  have hrb : ∀ k, v.ownBlock = some k → w.heap.size ≤ k := fun k hk => (hown.lt k hk).1
  refine ⟨L ++ M, q2, by simp [hL, hm], by rw [cellsI_append, ← hxs]; exact hown3, hq2, (hr2.alloc _).row hg3 (fun k hk => by have := hrb k hk; omega), ?_⟩
  exact (hO.trans (Outer.grown (only_alloc' w2 _ g) hO.size)).trans (Outer.row hg3 (by have := hO.size; simp; omega) hrb)
set_option maxHeartbeats 4000000 in
theorem l20Items_any (g p : Nat) (m : Int) (w : World) (h : RdS w g p) (hp : p ≤ 90000) (hm : 0 ≤ m ∧ m ≤ 1000000) :
    Calls Try.prog 77 #[.pointer (some ⟨g, 0, none⟩), .int .i64 m] w (IsP g p w) := by
  have hgl := h.lt
  have hk0 := Blk.new w 29 #[]
  have ho0 := only_alloc (only_refl w (some g)) (.cells #[] 29)
  have hs0 := h.alloc (.cells #[] 29)
  clear h
  obtain ⟨i0, hi, hz0, hz1, hz2⟩ := info_parts item_info
  obtain ⟨j0, hj, hy0, hy1, hy2⟩ := info_parts str_info
  have hmk' := hide (show ∀ W : World, (Instr.makeSlice 39 (.int .i64 61) (.int .i64 61)).run Try.prog W = .ok (.slice (some ⟨W.heap.size, 0, none⟩) 61 61) (W.alloc (.cells (cellsI (List.replicate 61 ⟨0, ⟨0, 0, 0, 0⟩, 0, false⟩)).toArray 29)) from by
    intro W
    have := run_make_rowN (P := Try.prog) 39 29 i0 _ Try.underlying39 hi hz0 .i64 .i64 61 61 (Nat.le_refl _) (by rw [hz2]; omega) (by omega) W
    rw [hz1] at this
    refine this.trans ?_
    congr 2
    congr 1
    exact made_flat I.cells 7 (by omega) (fun _ => rfl) ⟨0, ⟨0, 0, 0, 0⟩, 0, false⟩ 61)
  go_enter Try.func77, Try.ntmps77
  go_wp2_with (fail)
  generalize w.alloc (.cells #[] 29) = wa at hk0 ho0 hs0 ⊢
  go_at_call 80
  refine (pick_any g p 2 _ hs0 (by omega) (by omega)).mono ?_
  rintro e w1 ⟨t, rfl, t0, t1, hs1, hg1⟩
  have hk1 := hide (own_empty7 (base := w.heap.size) (hk0.grown hg1 (fun e => by injection e with e; omega)) (Nat.le_refl _))
  have ho1 := hide (Outer.grown (only_trans ho0 hg1) (Nat.le_refl _))
  have hw1 := ho1.out.size
  have hs1' := hide hs1
  clear hk0 ho0 hs0 hg1 hs1
  by_cases ht : t = 0
  · subst ht
    have hkw := hide (own_empty1 (base := w.heap.size) (Blk.new w1 9 #[]) hw1)
    have how := hide (ho1.out.trans (Outer.grown (only_alloc' w1 (.cells #[] 9) g) hw1))
    have hsw := hide (hs1'.out.alloc (.cells #[] 9))
    clear hk1 hs1' ho1
    go_wp2_with (fail)
    generalize w1.alloc (.cells #[] 9) = wb at hkw how hsw ⊢
    go_at_call 80
    refine (pick_any g (p + 1) 6 _ hsw.out (by omega) (by omega)).mono ?_
    rintro e w2 ⟨k, rfl, k0, k1, hs2, hg2⟩
    have hnw := hide (fun kk hkk => (hkw.out.lt kk hkk))
    have hkw2 := hide (own_keep hkw.out (fun kk hkk => hg2.block kk ((hnw.out kk hkk).2) (fun e => by have := (hnw.out kk hkk).1; injection e with e; omega)))
    have how2 := hide (how.out.trans (Outer.grown hg2 how.out.size))
    have hs2' := hide hs2
    obtain ⟨k, rfl⟩ := Int.eq_ofNat_of_zero_le k0
    have hk5 : k ≤ 5 := by omega
    clear hg2 hs2 hkw how hsw k0 k1 hnw
    go_wp2
    go_loopw [6, 7] (fun v i wr => ∃ j n : Nat, i = .int .i64 j ∧ j + n = k + 1 ∧ SsRel w g p (2 + 20 * n) 21 v n wr) (fun _ i _ => (intOf i).toNat)
    case atStart => exact ⟨k + 1, 0, by first | rfl | go_num | (congr 1; omega), rfl, [], p + 1 + 1, rfl, fun x hx => (by cases hx), hkw2.out, by omega, hs2'.out, how2.out⟩
    case round =>
      obtain ⟨j, n, rfl, hjn, L, q, hL, hLb, hown, hq, hr, hO⟩ := hrel
      have hL' := hide hL
      have hown' := hide hown
      have hne' := hide (fun kk hkk => (hown'.out.lt kk hkk))
      have hwr := hO.size
      have hLb' := hide hLb
      clear hL hLb hkw2 how2 hs2'
      by_cases hj0 : 0 < j
      · obtain ⟨j, rfl⟩ : ∃ j', j = j' + 1 := ⟨j - 1, by omega⟩
        have hd : decide (0 < ((j + 1 : Nat) : Int)) = true := decide_eq_true (by omega)
        go_wp2_with (fail)
        go_at_call 104
        refine (l20Text_any g q 0 wr hr (by omega) (by omega)).mono ?_
        rintro e w3 ⟨x, q2, rfl, hx, hq2, hr2, hg2⟩
        have hown2 := hide (own_keep hown (fun kk hkk => hg2.block kk ((hne'.out kk hkk).2) (fun e => by have := (hne'.out kk hkk).1; injection e with e; omega)))
        have hO2 := hide (hO.trans (Outer.grown hg2 hwr))
        have hb2 := hg2.size
        have hr2' := hide hr2
        clear hr hown hg2 hO hr2
        go_wp2_with (at_builtin; refine wpList_append_lies _ rfl _ _ 49 rfl w.heap.size 9 j0 (.string ByteArray.empty) 1 16 Try.underlying49 hj hy0 hy1 hy2 rfl (by decide) _ _ _ rfl (hown2.out.alloc _) ⟨w3.heap.size, 0, none⟩ 1 1 [.string x] rfl rfl (fun j u hj => cell_one_at (by simp) hj) (one_str _) (by omega) (by unfold maxLen; omega) (by omega) (by simp; omega) _ rfl ?_)
        intro g3 cap3 w4 hown3 hg3 hat3 hlt3
        have hfin := hide (ss_step (p := p) (K := 2 + 20 * (n + 1)) (M := 21) hL'.out hLb'.out hx hown'.out (by omega) hr2'.out hgl hO2.out hown3 hg3)
        clear hown3 hg3 hat3 hlt3 hx
        go_wp2
        go_roundw
        case rel => exact ⟨j, n + 1, by first | rfl | go_num | (congr 1; omega), by omega, hfin.out⟩
        case measure => (simp [intOf] <;> omega)
      · obtain rfl : j = 0 := by omega
        have hn6 : n ≤ 6 := by omega
        go_wp2_with (fail)
        go_at_call 91
        refine (l20Patterns_any g q 0 wr hr (by omega) (by omega)).mono ?_
        rintro e w3 ⟨Lp, vp, np, q2, rfl, hnp, hLp, hLpb, hownp, hq2, hr2, hg2⟩
        have hown2 := hide (own_keep hown (fun kk hkk => hg2.block kk ((hne'.out kk hkk).2) (fun e => by have := (hne'.out kk hkk).1; injection e with e; omega)))
        have hO2 := hide (hO.trans (Outer.grown hg2 hwr))
        have hb2 := hg2.size
        have hr2' := hide hr2
        obtain ⟨Aw, cw, rfl, _, hrdw⟩ := own_form hown2.out
        obtain ⟨Ap, cp, rfl, _, hrdp⟩ := own_form hownp
        have hpar := hide (specPar Aw n cw L Ap np cp Lp w3 (by unfold maxLen; omega) hL'.out (fun s hs => by have := hLb'.out s hs; unfold maxLen; omega) hrdw (by unfold maxLen; omega) hLp (fun s hs => by have := hLpb s hs; unfold maxLen; omega) hrdp)
        have hlr := parR_len L Lp
        clear hr hown hg2 hO hr2 hownp hrdw hrdp hLpb hLp hown' hne' hown2
        go_wp2_with (fail)
        refine hpar.out.mono ?_
        rintro e w4 ⟨v4, rfl, hown4, hb4⟩
        generalize parR L Lp = LI at *
        obtain ⟨nn, hnn⟩ : ∃ nn, LI.length = nn := ⟨_, rfl⟩
        rw [hnn] at hown4 hlr
        have hz3 := hO2.out.size
        have hown' := hide (own_mono hown4 hz3)
        have hL' := hide hnn
        clear hnn
        have hr' := hide (hr2'.out.below ⟨hb4.os, hb4.tape, hb4.output, hb4.size, hb4.block⟩)
        have hO' := hide (hO2.out.trans (Outer.grown (only_of_below hb4 (some g)) hz3))
        have hq : q2 ≤ p + 300 := by omega
        obtain ⟨q, rfl⟩ : ∃ q, q = q2 := ⟨_, rfl⟩
        obtain ⟨wr, rfl⟩ : ∃ wr, wr = w4 := ⟨_, rfl⟩
        obtain ⟨L, rfl⟩ : ∃ L, L = LI := ⟨_, rfl⟩
        clear hown4 hb4 hpar hr2' hO2 hLb'
        go_wp2_with (fail)
        go_at_call 102
        refine (odd_any g q m wr hr'.out (by omega) (by omega)).mono ?_
        rintro e w2 ⟨bo, q2, rfl, hbo, hr2, hq1, hq2, hg2⟩
        have hne' := hide (fun kk hkk => (hown'.out.lt kk hkk))
        have hwr := hO'.out.size
        have hown2 := hide (own_keep hown'.out (fun kk hkk => hg2.block kk ((hne'.out kk hkk).2) (fun e => by have := (hne'.out kk hkk).1; injection e with e; omega)))
        have hO2 := hide (hO'.out.trans (Outer.grown hg2 hwr))
        have hb2 := hg2.size
        have hr2' := hide hr2
        clear hg2 hbo hr2 hr' hO'
        cases bo with
        | false =>
          go_wp2
          unfold IsP
          go_ret
          exact ⟨L, _, nn, q2, rfl, by omega, hL'.out, hown2.out, by omega, hr2'.out, hO2.out.to_grown⟩
        | true =>
          go_wp2_with (fail)
          go_at_call 80
          refine (pick_any g q2 3 w2 hr2'.out (by omega) (by omega)).mono ?_
          rintro e w3 ⟨t, rfl, t0, t1, hr3, hg3⟩
          have hne2 := hide (fun kk hkk => (hown2.out.lt kk hkk))
          have hown3 := hide (own_keep hown2.out (fun kk hkk => hg3.block kk ((hne2.out kk hkk).2) (fun e => by have := (hne2.out kk hkk).1; injection e with e; omega)))
          have hO3 := hide (hO2.out.trans (Outer.grown hg3 (by omega)))
          have hb3 := hg3.size
          have hr3' := hide hr3
          clear hr2' hg3 hr3 hown2 hO2
          by_cases ht : t = 0
          · subst ht
            have hmk := hmk'.out
            have hz := hO3.out.size
            go_wp2
            unfold IsP
            go_ret
            exact ⟨List.replicate 61 ⟨0, ⟨0, 0, 0, 0⟩, 0, false⟩, _, 61, q2 + 1, rfl, by omega, List.length_replicate, own_row7 (Blk.new w3 29 _) hz (by rw [len_cellsI, List.length_replicate]) (by unfold maxLen; omega), by omega, hr3'.out.alloc _, only_alloc hO3.out.to_grown _⟩
          · have hd3 : (t == 0) = false := by simpa using ht
            clear ht
            go_wp2_with (fail)
            go_at_call 74
            refine (l20Item_any g (q2 + 1) 1 w3 hr3'.out (by omega) (by omega)).mono ?_
            rintro e w4 ⟨x, q4, rfl, hq4, hr4, hg4⟩
            unfold iVal
            have hne3 := hide (fun kk hkk => (hown3.out.lt kk hkk))
            have hown4 := hide (own_keep hown3.out (fun kk hkk => hg4.block kk ((hne3.out kk hkk).2) (fun e => by have := (hne3.out kk hkk).1; injection e with e; omega)))
            have hO4 := hide (hO3.out.trans (Outer.grown hg4 (by omega)))
            have hb4 := hg4.size
            have hr4' := hide hr4
            clear hg4 hr4 hr3' hown3 hO3
            go_wp2_with (at_builtin; refine wpList_append_lies _ rfl _ _ 39 rfl w.heap.size 29 i0 (.agg #[.int .i64 0, .int .i64 0, .int .i64 0, .int .i64 0, .int .i64 0, .int .i64 0, .bool false]) 7 56 Try.underlying39 hi hz0 hz1 hz2 rfl (by decide) _ _ _ rfl (hown4.out.alloc _) ⟨w4.heap.size, 0, none⟩ 1 1 [.int .i64 x.k, .int .i64 x.g.w, .int .i64 x.g.st, .int .i64 x.g.sh, .int .i64 x.g.o, .int .i64 x.c, .bool x.m] rfl rfl (news_new w4 29 [.int .i64 x.k, .int .i64 x.g.w, .int .i64 x.g.st, .int .i64 x.g.sh, .int .i64 x.g.o, .int .i64 x.c, .bool x.m]) (one_item7 _ _ _ _ _ _ _) (by omega) (by unfold maxLen; omega) (by omega) (by simp; omega) _ rfl ?_)
            intro g5 cap5 w5 hown5 hg5 hat5 hlt5
            have hfin := hide (is_many (p := p) (K := 3000) (M := [x]) (m := 1) rfl (by simp [cellsI, I.cells]) hL'.out hown4.out (by omega) hr4'.out hgl hO4.out hown5 hg5)
            clear hown5 hg5 hat5 hlt5
            go_wp2
            unfold IsP
            go_ret
            obtain ⟨L5, q5, f1, f3, f4, f5, f6⟩ := hfin.out
            exact ⟨L5, _, nn + 1, q5, rfl, by omega, f1, f3, f4, f5, f6.to_grown⟩
  · have ht0 : (t == 0) = false := by simpa using ht
    clear ht
    go_wp2_with (fail)
    go_at_call 80
    refine (pick_any g (p + 1) 10 _ hs1'.out (by omega) (by omega)).mono ?_
    rintro e w2 ⟨k, rfl, k0, k1, hs2, hg2⟩
    have hnw := hide (fun kk hkk => (hk1.out.lt kk hkk))
    have hk2 := hide (own_keep hk1.out (fun kk hkk => hg2.block kk ((hnw.out kk hkk).2) (fun e => by have := (hnw.out kk hkk).1; injection e with e; omega)))
    have ho2 := hide (ho1.out.trans (Outer.grown hg2 ho1.out.size))
    have hs2' := hide hs2
    obtain ⟨k, rfl⟩ := Int.eq_ofNat_of_zero_le k0
    have hk9 : k ≤ 9 := by omega
    clear hg2 hs2 hk1 ho1 hs1' k0 k1 hnw
    go_wp2
    go_loopw [5, 8] (fun v i wr => ∃ j n : Nat, i = .int .i64 j ∧ j + n = k ∧ IsRel w g p (2 + 60 * n) v n wr) (fun _ i _ => (intOf i).toNat)
    case atStart => exact ⟨k, 0, rfl, rfl, [], p + 1 + 1, rfl, hk2.out, by omega, hs2'.out, ho2.out⟩
    case round =>
      obtain ⟨j, n, rfl, hjn, L, q, hL, hown, hq, hr, hO⟩ := hrel
      have hL' := hide hL
      have hown' := hide hown
      have hne' := hide (fun kk hkk => (hown'.out.lt kk hkk))
      have hwr := hO.size
      clear hL hk2 ho2 hs2'
      by_cases hj0 : 0 < j
      · obtain ⟨j, rfl⟩ : ∃ j', j = j' + 1 := ⟨j - 1, by omega⟩
        have hd : decide (0 < ((j + 1 : Nat) : Int)) = true := decide_eq_true (by omega)
        go_wp2_with (fail)
        go_at_call 74
        refine (l20Item_any g q 0 wr hr (by omega) (by omega)).mono ?_
        rintro e w3 ⟨x, q2, rfl, hq2, hr2, hg2⟩
        unfold iVal
        have hown2 := hide (own_keep hown (fun kk hkk => hg2.block kk ((hne'.out kk hkk).2) (fun e => by have := (hne'.out kk hkk).1; injection e with e; omega)))
        have hO2 := hide (hO.trans (Outer.grown hg2 hwr))
        have hb2 := hg2.size
        have hr2' := hide hr2
        clear hr hown hg2 hO hr2
        go_wp2_with (at_builtin; refine wpList_append_lies _ rfl _ _ 39 rfl w.heap.size 29 i0 (.agg #[.int .i64 0, .int .i64 0, .int .i64 0, .int .i64 0, .int .i64 0, .int .i64 0, .bool false]) 7 56 Try.underlying39 hi hz0 hz1 hz2 rfl (by decide) _ _ _ rfl (hown2.out.alloc _) ⟨w3.heap.size, 0, none⟩ 1 1 [.int .i64 x.k, .int .i64 x.g.w, .int .i64 x.g.st, .int .i64 x.g.sh, .int .i64 x.g.o, .int .i64 x.c, .bool x.m] rfl rfl (news_new w3 29 [.int .i64 x.k, .int .i64 x.g.w, .int .i64 x.g.st, .int .i64 x.g.sh, .int .i64 x.g.o, .int .i64 x.c, .bool x.m]) (one_item7 _ _ _ _ _ _ _) (by omega) (by unfold maxLen; omega) (by omega) (by simp; omega) _ rfl ?_)
        intro g3 cap3 w4 hown3 hg3 hat3 hlt3
        have hfin := hide (is_many (p := p) (K := 2 + 60 * (n + 1)) (M := [x]) (m := 1) rfl (by simp [cellsI, I.cells]) hL'.out hown2.out (by omega) hr2'.out hgl hO2.out hown3 hg3)
        clear hown3 hg3 hat3 hlt3
        go_wp2
        go_roundw
        case rel => exact ⟨j, n + 1, by first | rfl | go_num | (congr 1; omega), by omega, hfin.out⟩
        case measure => (simp [intOf] <;> omega)
      · obtain rfl : j = 0 := by omega
        have hn9 : n ≤ 9 := by omega
        have hr0 := hide hr
        have hO0 := hide hO
        clear hr hown hO
        go_wp2_with (at_builtin; refine wpList_append_lies _ rfl _ _ 39 rfl w.heap.size 29 i0 (.agg #[.int .i64 0, .int .i64 0, .int .i64 0, .int .i64 0, .int .i64 0, .int .i64 0, .bool false]) 7 56 Try.underlying39 hi hz0 hz1 hz2 rfl (by decide) _ _ _ rfl (hown'.out.alloc _) ⟨wr.heap.size, 0, none⟩ 2 2 [.int .i64 2, .int .i64 0, .int .i64 1, .int .i64 0, .int .i64 1, .int .i64 0, .bool false, .int .i64 3, .int .i64 0, .int .i64 0, .int .i64 0, .int .i64 0, .int .i64 (-10000), .bool false] rfl rfl (news_new wr 29 [.int .i64 2, .int .i64 0, .int .i64 1, .int .i64 0, .int .i64 1, .int .i64 0, .bool false, .int .i64 3, .int .i64 0, .int .i64 0, .int .i64 0, .int .i64 0, .int .i64 (-10000), .bool false]) (one_items [⟨2, ⟨0, 1, 0, 1⟩, 0, false⟩, ⟨3, ⟨0, 0, 0, 0⟩, -10000, false⟩]) (by omega) (by unfold maxLen; omega) (by omega) (by simp; omega) _ rfl ?_)
        intro g3 cap3 w4 hown3 hg3 hat3 hlt3
        have hfin := is_many (p := p) (K := 2 + 60 * n) (M := [⟨2, ⟨0, 1, 0, 1⟩, 0, false⟩, ⟨3, ⟨0, 0, 0, 0⟩, -10000, false⟩]) (m := 2) rfl rfl hL'.out hown'.out hq hr0.out hgl hO0.out hown3 hg3
        obtain ⟨L5, q5, f1, f3, f4, f5, f6⟩ := hfin
        clear hown3 hg3 hat3 hlt3 hL' hown' hne' hq hr0 hO0 hwr
        have hL' := hide f1
        have hown' := hide f3
        have hr' := hide f5
        have hO' := hide f6
        have hq : q5 ≤ p + 600 := by omega
        clear f1 f3 f5 f6
        obtain ⟨q, rfl⟩ : ∃ q, q = q5 := ⟨_, rfl⟩
        obtain ⟨wr, rfl⟩ : ∃ wr, wr = w4 := ⟨_, rfl⟩
        obtain ⟨L, rfl⟩ : ∃ L, L = L5 := ⟨_, rfl⟩
        go_wp2_with (fail)
        go_at_call 102
        refine (odd_any g q m wr hr'.out (by omega) (by omega)).mono ?_
        rintro e w2 ⟨bo, q2, rfl, hbo, hr2, hq1, hq2, hg2⟩
        have hne' := hide (fun kk hkk => (hown'.out.lt kk hkk))
        have hwr := hO'.out.size
        have hown2 := hide (own_keep hown'.out (fun kk hkk => hg2.block kk ((hne'.out kk hkk).2) (fun e => by have := (hne'.out kk hkk).1; injection e with e; omega)))
        have hO2 := hide (hO'.out.trans (Outer.grown hg2 hwr))
        have hb2 := hg2.size
        have hr2' := hide hr2
        clear hg2 hbo hr2 hr' hO'
        cases bo with
        | false =>
          go_wp2
          unfold IsP
          go_ret
          exact ⟨L, _, (n + 2), q2, rfl, by omega, hL'.out, hown2.out, by omega, hr2'.out, hO2.out.to_grown⟩
        | true =>
          go_wp2_with (fail)
          go_at_call 80
          refine (pick_any g q2 3 w2 hr2'.out (by omega) (by omega)).mono ?_
          rintro e w3 ⟨t, rfl, t0, t1, hr3, hg3⟩
          have hne2 := hide (fun kk hkk => (hown2.out.lt kk hkk))
          have hown3 := hide (own_keep hown2.out (fun kk hkk => hg3.block kk ((hne2.out kk hkk).2) (fun e => by have := (hne2.out kk hkk).1; injection e with e; omega)))
          have hO3 := hide (hO2.out.trans (Outer.grown hg3 (by omega)))
          have hb3 := hg3.size
          have hr3' := hide hr3
          clear hr2' hg3 hr3 hown2 hO2
          by_cases ht : t = 0
          · subst ht
            have hmk := hmk'.out
            have hz := hO3.out.size
            go_wp2
            unfold IsP
            go_ret
            exact ⟨List.replicate 61 ⟨0, ⟨0, 0, 0, 0⟩, 0, false⟩, _, 61, q2 + 1, rfl, by omega, List.length_replicate, own_row7 (Blk.new w3 29 _) hz (by rw [len_cellsI, List.length_replicate]) (by unfold maxLen; omega), by omega, hr3'.out.alloc _, only_alloc hO3.out.to_grown _⟩
          · have hd3 : (t == 0) = false := by simpa using ht
            clear ht
            go_wp2_with (fail)
            go_at_call 74
            refine (l20Item_any g (q2 + 1) 1 w3 hr3'.out (by omega) (by omega)).mono ?_
            rintro e w4 ⟨x, q4, rfl, hq4, hr4, hg4⟩
            unfold iVal
            have hne3 := hide (fun kk hkk => (hown3.out.lt kk hkk))
            have hown4 := hide (own_keep hown3.out (fun kk hkk => hg4.block kk ((hne3.out kk hkk).2) (fun e => by have := (hne3.out kk hkk).1; injection e with e; omega)))
            have hO4 := hide (hO3.out.trans (Outer.grown hg4 (by omega)))
            have hb4 := hg4.size
            have hr4' := hide hr4
            clear hg4 hr4 hr3' hown3 hO3
            go_wp2_with (at_builtin; refine wpList_append_lies _ rfl _ _ 39 rfl w.heap.size 29 i0 (.agg #[.int .i64 0, .int .i64 0, .int .i64 0, .int .i64 0, .int .i64 0, .int .i64 0, .bool false]) 7 56 Try.underlying39 hi hz0 hz1 hz2 rfl (by decide) _ _ _ rfl (hown4.out.alloc _) ⟨w4.heap.size, 0, none⟩ 1 1 [.int .i64 x.k, .int .i64 x.g.w, .int .i64 x.g.st, .int .i64 x.g.sh, .int .i64 x.g.o, .int .i64 x.c, .bool x.m] rfl rfl (news_new w4 29 [.int .i64 x.k, .int .i64 x.g.w, .int .i64 x.g.st, .int .i64 x.g.sh, .int .i64 x.g.o, .int .i64 x.c, .bool x.m]) (one_item7 _ _ _ _ _ _ _) (by omega) (by unfold maxLen; omega) (by omega) (by simp; omega) _ rfl ?_)
            intro g5 cap5 w5 hown5 hg5 hat5 hlt5
            have hfin := hide (is_many (p := p) (K := 3000) (M := [x]) (m := 1) rfl (by simp [cellsI, I.cells]) hL'.out hown4.out (by omega) hr4'.out hgl hO4.out hown5 hg5)
            clear hown5 hg5 hat5 hlt5
            go_wp2
            unfold IsP
            go_ret
            obtain ⟨L5, q5, f1, f3, f4, f5, f6⟩ := hfin.out
            exact ⟨L5, _, (n + 2) + 1, q5, rfl, by omega, f1, f3, f4, f5, f6.to_grown⟩
end Go.Proofs.Ytocaonlmlafjmaa

/- What the draws of items give, for the laws. No condition. -/
namespace Go.Proofs.Ytocaonlmlafjmaa
open Go.RowKit
set_option linter.unusedVariables false
set_option linter.unusedSimpArgs false
set_option maxRecDepth 100000

def OneIs (w : World) (e : Ending) (w' : World) : Prop := ∃ (L : List I) (v : Value) (n : Nat), e = .returned v ∧ n ≤ 62 ∧ L.length = n ∧ w'.ownsRow w.heap.size 29 7 v n (cellsI L) ∧ Below w.heap.size w w'
def TwoIs (w : World) (e : Ending) (w' : World) : Prop := ∃ (L : List I) (v : Value) (n : Nat) (z : Int), e = .returned (.tuple #[v, .int .i64 z]) ∧ n ≤ 62 ∧ L.length = n ∧ (-3 ≤ z ∧ z ≤ 100) ∧ w'.ownsRow w.heap.size 29 7 v n (cellsI L) ∧ Below w.heap.size w w'
theorem drawItemsV (w : World) (A : Option Addr) (n c : Nat) (l : List Int) (hl : List.length l = n) (hc : n ≤ c) (hn63 : n < 4611686018427387904) (h : Rd w 1 A n (cellsB l)) (h5 : ∀ z ∈ l, 0 ≤ z ∧ z ≤ 255) :
    Calls Try.prog 32 #[.slice A n c] w (OneIs w) := by
  go_enter Try.func32, Try.ntmps32
  go_wp2_with (fail)
  refine (l20Open_any w A n c l hl hc hn63 h h5).mono ?_
  rintro e w1 ⟨rfl, hr, hb⟩
  have hz1 := hb.size
  clear h h5 hl
  go_wp2_with (fail)
  refine (l20Items_any w.heap.size 0 2 w1 hr (by omega) (by omega)).mono ?_
  rintro e w3 ⟨L, v, k, q, rfl, hk, hL, hown, hq, hr3, hg3⟩
  have hb3 := hide (Below.only hb hg3 hz1 (Nat.le_refl _))
  have hown' := hide (own_mono hown hz1)
  clear hr hg3 hb hr3 hq hown
  go_wp2
  unfold OneIs
  go_ret
  exact ⟨L, _, k, rfl, hk, hL, hown'.out, hb3.out⟩
theorem drawBoxesO (w : World) (A : Option Addr) (n c : Nat) (l : List Int) (hl : List.length l = n) (hc : n ≤ c) (hn63 : n < 4611686018427387904) (h : Rd w 1 A n (cellsB l)) (h5 : ∀ z ∈ l, 0 ≤ z ∧ z ≤ 255) :
    Calls Try.prog 58 #[.slice A n c] w (OneIs w) := by
  go_enter Try.func58, Try.ntmps58
  go_wp2_with (fail)
  refine (l20Open_any w A n c l hl hc hn63 h h5).mono ?_
  rintro e w1 ⟨rfl, hr, hb⟩
  have hz1 := hb.size
  clear h h5 hl
  go_wp2_with (fail)
  refine (l20Items_any w.heap.size 0 9 w1 hr (by omega) (by omega)).mono ?_
  rintro e w3 ⟨L, v, k, q, rfl, hk, hL, hown, hq, hr3, hg3⟩
  have hb3 := hide (Below.only hb hg3 hz1 (Nat.le_refl _))
  have hown' := hide (own_mono hown hz1)
  clear hr hg3 hb hr3 hq hown
  go_wp2
  unfold OneIs
  go_ret
  exact ⟨L, _, k, rfl, hk, hL, hown'.out, hb3.out⟩
set_option maxHeartbeats 1000000 in
theorem drawMayB (w : World) (A : Option Addr) (n c : Nat) (l : List Int) (hl : List.length l = n) (hc : n ≤ c) (hn63 : n < 4611686018427387904) (h : Rd w 1 A n (cellsB l)) (h5 : ∀ z ∈ l, 0 ≤ z ∧ z ≤ 255) :
    Calls Try.prog 35 #[.slice A n c] w (TwoIs w) := by
  go_enter Try.func35, Try.ntmps35
  go_wp2_with (fail)
  refine (l20Open_any w A n c l hl hc hn63 h h5).mono ?_
  rintro e w1 ⟨rfl, hr, hb⟩
  have hz1 := hb.size
  clear h h5 hl
  go_wp2_with (fail)
  refine (l20Items_any w.heap.size 0 9 w1 hr (by omega) (by omega)).mono ?_
  rintro e w3 ⟨L, v, k, q, rfl, hk, hL, hown, hq, hr3, hg3⟩
  obtain ⟨A1, c1, rfl, _, _⟩ := own_form hown
  have hne := hide (fun kk hkk => hown.lt kk hkk)
  have hL' := hide hL
  have hg0 : w.heap.size < w1.heap.size := hr.lt
  clear hr hL
  go_wp2_with (fail)
  go_at_call 80
  refine (pick_any w.heap.size q ((k : Int) + 1) w3 hr3 (by omega) (by omega)).mono ?_
  rintro e w4 ⟨x, rfl, x0, x1, hr4, hg4⟩
  have hown4 := hide (own_keep hown (fun kk hkk => hg4.block kk ((hne.out kk hkk).2) (fun e => by have := (hne.out kk hkk).1; injection e with e; omega)))
  have hs4 := hg4.size
  clear hr3 hown
  go_wp2_with (fail)
  go_at_call 80
  refine (pick_any w.heap.size (q + 1) 12 w4 hr4 (by omega) (by omega)).mono ?_
  rintro e w5 ⟨y, rfl, y0, y1, hr5, hg5⟩
  have hown5 := hide (own_keep hown4.out (fun kk hkk => hg5.block kk (by have := (hne.out kk hkk).2; omega) (fun e => by have := (hne.out kk hkk).1; injection e with e; omega)))
  have hb3 := Below.only hb hg3 hz1 (Nat.le_refl _)
  have hb4 := Below.only hb3 hg4 hb3.size (Nat.le_refl _)
  have hb5 := hide (Below.only hb4 hg5 hb4.size (Nat.le_refl _))
  have hown' := hide (own_mono hown5.out hz1)
  have hy : 0 ≤ y / 11 ∧ y / 11 ≤ 1 := by omega
  have hx : x ≤ 64 := by omega
  clear hr4 hr5 hg3 hg4 hg5 hb hb3 hb4 hown4 hown5 hne
  go_wp2
  unfold TwoIs
  go_ret2
  exact ⟨L, _, k, _, rfl, hk, hL'.out, by omega, hown'.out, hb5.out⟩
set_option maxHeartbeats 1000000 in
theorem drawLineSt (w : World) (A : Option Addr) (n c : Nat) (l : List Int) (hl : List.length l = n) (hc : n ≤ c) (hn63 : n < 4611686018427387904) (h : Rd w 1 A n (cellsB l)) (h5 : ∀ z ∈ l, 0 ≤ z ∧ z ≤ 255) :
    Calls Try.prog 38 #[.slice A n c] w (TwoIs w) := by
  go_enter Try.func38, Try.ntmps38
  go_wp2_with (fail)
  refine (l20Open_any w A n c l hl hc hn63 h h5).mono ?_
  rintro e w1 ⟨rfl, hr, hb⟩
  have hz1 := hb.size
  clear h h5 hl
  go_wp2_with (fail)
  refine (l20Items_any w.heap.size 0 9 w1 hr (by omega) (by omega)).mono ?_
  rintro e w3 ⟨L, v, k, q, rfl, hk, hL, hown, hq, hr3, hg3⟩
  obtain ⟨A1, c1, rfl, _, _⟩ := own_form hown
  have hne := hide (fun kk hkk => hown.lt kk hkk)
  have hL' := hide hL
  have hg0 : w.heap.size < w1.heap.size := hr.lt
  clear hr hL
  go_wp2_with (fail)
  go_at_call 80
  refine (pick_any w.heap.size q ((k : Int) + 2) w3 hr3 (by omega) (by omega)).mono ?_
  rintro e w4 ⟨x, rfl, x0, x1, hr4, hg4⟩
  have hown4 := hide (own_keep hown (fun kk hkk => hg4.block kk ((hne.out kk hkk).2) (fun e => by have := (hne.out kk hkk).1; injection e with e; omega)))
  have hs4 := hg4.size
  clear hr3 hown
  go_wp2_with (fail)
  go_at_call 80
  refine (pick_any w.heap.size (q + 1) 12 w4 hr4 (by omega) (by omega)).mono ?_
  rintro e w5 ⟨y, rfl, y0, y1, hr5, hg5⟩
  have hown5 := hide (own_keep hown4.out (fun kk hkk => hg5.block kk (by have := (hne.out kk hkk).2; omega) (fun e => by have := (hne.out kk hkk).1; injection e with e; omega)))
  have hb3 := Below.only hb hg3 hz1 (Nat.le_refl _)
  have hb4 := Below.only hb3 hg4 hb3.size (Nat.le_refl _)
  have hb5 := hide (Below.only hb4 hg5 hb4.size (Nat.le_refl _))
  have hown' := hide (own_mono hown5.out hz1)
  have hy : 0 ≤ y / 11 ∧ y / 11 ≤ 1 := by omega
  have hx : x ≤ 64 := by omega
  clear hr4 hr5 hg3 hg4 hg5 hb hb3 hb4 hown4 hown5 hne
  go_wp2
  unfold TwoIs
  go_ret2
  exact ⟨L, _, k, _, rfl, hk, hL'.out, by omega, hown'.out, hb5.out⟩
end Go.Proofs.Ytocaonlmlafjmaa
