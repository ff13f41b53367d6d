/- The walks through the laws of items, of breaks and of starts. No condition. -/
import Derived.Test.YtocaonlmlafjmaaKCore
import Derived.Test.YtocaonlmlafjmaaKDrIt
import Derived.Test.YtocaonlmlafjmaaKItems
namespace Go.Proofs.Ytocaonlmlafjmaa
open Go.RowKit
set_option linter.unusedVariables false
set_option linter.unusedSimpArgs false
set_option maxRecDepth 100000

theorem items_drop {L : List I} (h : items60 L = true) (m : Nat) : items60 (L.drop m) = true := by
  simp only [items60, Bool.and_eq_true, decide_eq_true_eq, List.all_eq_true] at h ⊢
  refine ⟨fun x hx => h.1 x (List.mem_of_mem_drop hx), ?_⟩
  rw [List.length_drop]; omega
theorem items_snoc (L : List I) : items60 (L ++ [⟨0, ⟨0, 0, 0, 0⟩, 0, false⟩]) = false := by
  have e : itemOk ⟨0, ⟨0, 0, 0, 0⟩, 0, false⟩ = false := by decide
  unfold items60
  rw [List.all_append]
  simp [e]
set_option maxHeartbeats 4000000 in
theorem walkFnItemsValid (A0 : Option Addr) (n0 c0 : Nat) (l0 : List Int) (w : World) (w0a : n0 ≤ c0) (w0b : c0 ≤ maxLen) (w0c : List.length l0 = n0) (w0d : Rd w 1 A0 n0 (cellsB l0)) (w0e : ∀ z ∈ l0, 0 ≤ z ∧ z ≤ 255) :
    Calls Try.prog 6 #[.slice A0 n0 c0] w fun e w' => e = .returned (.bool true) ∧ Below w.heap.size w w' := by
  by_cases hbig : 1048576 < n0
  · have hd : decide (1048576 < (n0 : Int)) = true := by simp; omega
    clear w0a w0b w0c w0d w0e hbig
    go_enter Try.func6, Try.ntmps6
    go_wp2
    go_ret
    exact ⟨rfl, Below.refl _ _⟩
  · have hd : decide (1048576 < (n0 : Int)) = false := by simp; omega
    have hdraw := hide (drawItemsV w A0 n0 c0 l0 w0c w0a (by omega) w0d w0e)
    clear w0a w0b w0c w0d w0e hbig
    go_enter Try.func6, Try.ntmps6
    go_wp2_with (fail)
    refine hdraw.out.mono ?_
    rintro e w1 ⟨L, v, n, rfl, hn, hL, hown, hb1⟩
    obtain ⟨A1, c1, rfl, hnc, hrd⟩ := own_form hown
    have hcm := own_cap hown
    have hb1' := hide hb1
    have hsz1 := hb1.size
    have hrd' := hide hrd
    have hL' := hide hL
    have hnm : n ≤ maxLen := by unfold maxLen; omega
    clear hdraw hb1 hown hL hrd
    have ci := hide (fun W (M : List I) B m d (h1 : m ≤ maxLen) (h2 : List.length M = m) (h4 : Rd W 7 B m (cellsI M)) => implItems B m d M W h1 h2 h4)
    have cs := hide (fun W (h4 : Rd W 7 A1 n (cellsI L)) => specItems A1 n c1 L W hnm hL'.out h4)
    go_wp2_with fail
    refine (ci.out w1 L A1 n c1 hnm hL'.out hrd'.out).mono ?_
    rintro e w1b ⟨rfl, hb⟩
    have bx1 := hide hb
    have t1 := hb.size
    clear hb
    go_wp2_with fail
    refine (cs.out _ (hrd'.out.below bx1.out)).mono ?_
    rintro e w2 ⟨rfl, hb⟩
    have bx2 := hide (bx1.out.trans (hb.mono t1))
    have bel2 := hide (hb1'.out.trans (bx2.out.mono hsz1))
    have sbel2 := bel2.out.size
    have hrd2 := hide (hrd'.out.below bx2.out)
    clear hb bx1 t1
    have hsn := items_snoc L
    have hmn : n / 2 ≤ n := by omega
    have q1 : ((n : Int) / 2).toNat = n / 2 := by omega
    have q2 : (0 : Int) ≤ (n : Int) / 2 := by omega
    have q3 : (n : Int) / 2 ≤ (n : Int) := by omega
    obtain ⟨i0, hi, hz0, hz1, hz2⟩ := info_parts item_info
    have hsub := hide (rdI_drop hrd2.out hnc hmn)
    cases hv : items60 L with
    | false =>
      have hk0 := hide (own_empty7 (base := w2.heap.size) (Blk.new w2 29 #[]) (Nat.le_refl _))
      go_wp2_with (at_builtin; refine wpList_wanted (by first | rfl | simp [Region.wanted, yielded]) ?_)
      intro K hK
      refine wp_append_rdN _ _ _ 39 rfl w2.heap.size 29 i0 (.agg #[.int .i64 0, .int .i64 0, .int .i64 0, .int .i64 0, .int .i64 0, .int .i64 0, .bool false]) 7 56 Try.underlying39 hi hz0 hz1 hz2 rfl (by decide) w2.heap.size rfl hk0.out A1 n c1 rfl (cellsI L) (hrd2.out.alloc _) (one_items L) hnm (by omega) (by simp) ?_
      intro A5 c5 w5 own5 hg5
      have bel5 := hide (bel2.out.trans ((Below.only ((Below.refl w2.heap.size w2).alloc (Nat.le_refl _) (.cells #[] 29)) hg5 (by simp) (Nat.le_refl _)).mono sbel2))
      have own5' := hide own5
      have s5 := hg5.size
      simp only [World.size_alloc] at s5
      clear own5 hg5
      refine hK _ _ ?_
      clear hK K
      go_wp2_with (at_builtin; refine wpList_wanted (by first | rfl | simp [Region.wanted, yielded]) ?_)
      intro K hK
      refine wp_append_lies _ _ _ 39 rfl w2.heap.size 29 i0 (.agg #[.int .i64 0, .int .i64 0, .int .i64 0, .int .i64 0, .int .i64 0, .int .i64 0, .bool false]) 7 56 Try.underlying39 hi hz0 hz1 hz2 rfl (by decide) _ _ _ rfl (own5'.out.alloc _) ⟨w5.heap.size, 0, none⟩ 1 1 [.int .i64 0, .int .i64 0, .int .i64 0, .int .i64 0, .int .i64 0, .int .i64 0, .bool false] rfl rfl (news_new w5 29 [.int .i64 0, .int .i64 0, .int .i64 0, .int .i64 0, .int .i64 0, .int .i64 0, .bool false]) (one_item7 _ _ _ _ _ _ _) (by omega) (by unfold maxLen; omega) (by omega) (by simp; omega) _ rfl ?_
      intro g3 cap3 w6 hown6 hg6 hat6 hlt6
      have hrd6 := hide (Rd.of_own hown6)
      have bel6 := hide ((bel5.out.alloc (by omega) (.cells [.int .i64 0, .int .i64 0, .int .i64 0, .int .i64 0, .int .i64 0, .int .i64 0, .bool false].toArray 29)).grown hg6 (by simp; omega) (fun kk hkk => by have := (own5'.out.lt kk hkk).1; omega))
      have s6 := bel6.out.size
      clear hown6 hg6 hat6 hlt6
      refine hK _ _ ?_
      clear hK K
      go_wp2_with fail
      refine (ci.out w6 (L ++ [⟨0, ⟨0, 0, 0, 0⟩, 0, false⟩]) _ (n + 1) cap3 (by unfold maxLen; omega) (by simp [hL'.out]) (by rw [cellsI_snoc]; exact hrd6.out)).mono ?_
      rintro e w7 ⟨rfl, hb7⟩
      have bel7 := hide (bel6.out.trans (hb7.mono s6))
      have s7 := bel7.out.size
      rw [hsn]
      clear hb7
      go_wp2_with fail
      refine (alive_any _).mono ?_
      rintro e w99 ⟨rfl, hb99⟩
      have hend := hide (bel7.out.trans (hb99.mono s7))
      clear hb99
      go_wp2
      go_ret
      exact ⟨rfl, hend.out⟩
    | true =>
      have hdr := hide (items_drop hv (n / 2))
      by_cases hcc : c1 = n / 2
      · obtain rfl : n = 0 := by omega
        obtain rfl : c1 = 0 := by omega
        have hv' := hide hv
        clear hv hdr hsub q1 q2 q3 hmn hcc
        go_wp2_with fail
        refine (ci.out w2 L A1 0 0 hnm hL'.out hrd2.out).mono ?_
        rintro e w2c ⟨rfl, hb⟩
        have bel2c := hide (bel2.out.trans (hb.mono sbel2))
        have hrd2c := hide (hrd2.out.below hb)
        clear hb bel2 hrd2 sbel2 bx2
        obtain ⟨w2, rfl⟩ : ∃ w2, w2 = w2c := ⟨_, rfl⟩
        have bel2 := bel2c
        have hrd2 := hrd2c
        have sbel2 := bel2.out.size
        have hk0 := hide (own_empty7 (base := w2.heap.size) (Blk.new w2 29 #[]) (Nat.le_refl _))
        rw [hv'.out]
        clear bel2c hrd2c
        go_wp2_with (at_builtin; refine wpList_wanted (by first | rfl | simp [Region.wanted, yielded]) ?_)
        intro K hK
        refine wp_append_rdN _ _ _ 39 rfl w2.heap.size 29 i0 (.agg #[.int .i64 0, .int .i64 0, .int .i64 0, .int .i64 0, .int .i64 0, .int .i64 0, .bool false]) 7 56 Try.underlying39 hi hz0 hz1 hz2 rfl (by decide) w2.heap.size rfl hk0.out A1 0 0 rfl (cellsI L) (hrd2.out.alloc _) (one_items L) hnm (by omega) (by simp) ?_
        intro A5 c5 w5 own5 hg5
        have bel5 := hide (bel2.out.trans ((Below.only ((Below.refl w2.heap.size w2).alloc (Nat.le_refl _) (.cells #[] 29)) hg5 (by simp) (Nat.le_refl _)).mono sbel2))
        have own5' := hide own5
        have s5 := hg5.size
        simp only [World.size_alloc] at s5
        clear own5 hg5
        refine hK _ _ ?_
        clear hK K
        go_wp2_with (at_builtin; refine wpList_wanted (by first | rfl | simp [Region.wanted, yielded]) ?_)
        intro K hK
        refine wp_append_lies _ _ _ 39 rfl w2.heap.size 29 i0 (.agg #[.int .i64 0, .int .i64 0, .int .i64 0, .int .i64 0, .int .i64 0, .int .i64 0, .bool false]) 7 56 Try.underlying39 hi hz0 hz1 hz2 rfl (by decide) _ _ _ rfl (own5'.out.alloc _) ⟨w5.heap.size, 0, none⟩ 1 1 [.int .i64 0, .int .i64 0, .int .i64 0, .int .i64 0, .int .i64 0, .int .i64 0, .bool false] rfl rfl (news_new w5 29 [.int .i64 0, .int .i64 0, .int .i64 0, .int .i64 0, .int .i64 0, .int .i64 0, .bool false]) (one_item7 _ _ _ _ _ _ _) (by omega) (by unfold maxLen; omega) (by omega) (by simp; omega) _ rfl ?_
        intro g3 cap3 w6 hown6 hg6 hat6 hlt6
        have hrd6 := hide (Rd.of_own hown6)
        have bel6 := hide ((bel5.out.alloc (by omega) (.cells [.int .i64 0, .int .i64 0, .int .i64 0, .int .i64 0, .int .i64 0, .int .i64 0, .bool false].toArray 29)).grown hg6 (by simp; omega) (fun kk hkk => by have := (own5'.out.lt kk hkk).1; omega))
        have s6 := bel6.out.size
        clear hown6 hg6 hat6 hlt6
        refine hK _ _ ?_
        clear hK K
        go_wp2_with fail
        refine (ci.out w6 (L ++ [⟨0, ⟨0, 0, 0, 0⟩, 0, false⟩]) _ (0 + 1) cap3 (by unfold maxLen; omega) (by simp [hL'.out]) (by rw [cellsI_snoc]; exact hrd6.out)).mono ?_
        rintro e w7 ⟨rfl, hb7⟩
        have bel7 := hide (bel6.out.trans (hb7.mono s6))
        have s7 := bel7.out.size
        rw [hsn]
        clear hb7
        go_wp2_with fail
        refine (alive_any _).mono ?_
        rintro e w99 ⟨rfl, hb99⟩
        have hend := hide (bel7.out.trans (hb99.mono s7))
        clear hb99
        go_wp2
        go_ret
        exact ⟨rfl, hend.out⟩
      · rw [if_neg hcc] at hsub
        clear hv
        go_wp2_with fail
        refine (ci.out w2 (L.drop (n / 2)) _ (n - n / 2) (c1 - n / 2) (by omega) (by rw [List.length_drop, hL'.out]) hsub.out).mono ?_
        rintro e w2c ⟨rfl, hb⟩
        rw [hdr.out]
        have bel2c := hide (bel2.out.trans (hb.mono sbel2))
        have hrd2c := hide (hrd2.out.below hb)
        clear hb bel2 hrd2 sbel2 bx2 hsub
        obtain ⟨w2, rfl⟩ : ∃ w2, w2 = w2c := ⟨_, rfl⟩
        have bel2 := bel2c
        have hrd2 := hrd2c
        have sbel2 := bel2.out.size
        have hk0 := hide (own_empty7 (base := w2.heap.size) (Blk.new w2 29 #[]) (Nat.le_refl _))
        clear bel2c hrd2c
        go_wp2_with (at_builtin; refine wpList_wanted (by first | rfl | simp [Region.wanted, yielded]) ?_)
        intro K hK
        refine wp_append_rdN _ _ _ 39 rfl w2.heap.size 29 i0 (.agg #[.int .i64 0, .int .i64 0, .int .i64 0, .int .i64 0, .int .i64 0, .int .i64 0, .bool false]) 7 56 Try.underlying39 hi hz0 hz1 hz2 rfl (by decide) w2.heap.size rfl hk0.out A1 n c1 rfl (cellsI L) (hrd2.out.alloc _) (one_items L) hnm (by omega) (by simp) ?_
        intro A5 c5 w5 own5 hg5
        have bel5 := hide (bel2.out.trans ((Below.only ((Below.refl w2.heap.size w2).alloc (Nat.le_refl _) (.cells #[] 29)) hg5 (by simp) (Nat.le_refl _)).mono sbel2))
        have own5' := hide own5
        have s5 := hg5.size
        simp only [World.size_alloc] at s5
        clear own5 hg5
        refine hK _ _ ?_
        clear hK K
        go_wp2_with (at_builtin; refine wpList_wanted (by first | rfl | simp [Region.wanted, yielded]) ?_)
        intro K hK
        refine wp_append_lies _ _ _ 39 rfl w2.heap.size 29 i0 (.agg #[.int .i64 0, .int .i64 0, .int .i64 0, .int .i64 0, .int .i64 0, .int .i64 0, .bool false]) 7 56 Try.underlying39 hi hz0 hz1 hz2 rfl (by decide) _ _ _ rfl (own5'.out.alloc _) ⟨w5.heap.size, 0, none⟩ 1 1 [.int .i64 0, .int .i64 0, .int .i64 0, .int .i64 0, .int .i64 0, .int .i64 0, .bool false] rfl rfl (news_new w5 29 [.int .i64 0, .int .i64 0, .int .i64 0, .int .i64 0, .int .i64 0, .int .i64 0, .bool false]) (one_item7 _ _ _ _ _ _ _) (by omega) (by unfold maxLen; omega) (by omega) (by simp; omega) _ rfl ?_
        intro g3 cap3 w6 hown6 hg6 hat6 hlt6
        have hrd6 := hide (Rd.of_own hown6)
        have bel6 := hide ((bel5.out.alloc (by omega) (.cells [.int .i64 0, .int .i64 0, .int .i64 0, .int .i64 0, .int .i64 0, .int .i64 0, .bool false].toArray 29)).grown hg6 (by simp; omega) (fun kk hkk => by have := (own5'.out.lt kk hkk).1; omega))
        have s6 := bel6.out.size
        clear hown6 hg6 hat6 hlt6
        refine hK _ _ ?_
        clear hK K
        go_wp2_with fail
        refine (ci.out w6 (L ++ [⟨0, ⟨0, 0, 0, 0⟩, 0, false⟩]) _ (n + 1) cap3 (by unfold maxLen; omega) (by simp [hL'.out]) (by rw [cellsI_snoc]; exact hrd6.out)).mono ?_
        rintro e w7 ⟨rfl, hb7⟩
        have bel7 := hide (bel6.out.trans (hb7.mono s6))
        have s7 := bel7.out.size
        rw [hsn]
        clear hb7
        go_wp2_with fail
        refine (alive_any _).mono ?_
        rintro e w99 ⟨rfl, hb99⟩
        have hend := hide (bel7.out.trans (hb99.mono s7))
        clear hb99
        go_wp2
        go_ret
        exact ⟨rfl, hend.out⟩
theorem may_cases {L : List I} {t : Int} {n : Nat} (hL : L.length = n) (h : mayI L t = true) : ∃ (q : Nat) (x : I), t = (q : Int) ∧ q < n ∧ L[q]? = some x ∧ ((x.k = 3) ∨ (x.k = 2 ∧ ∃ j y, q = j + 1 ∧ L[j]? = some y ∧ y.k = 1)) := by
  unfold mayI at h
  rw [Bool.and_eq_true] at h
  have hb := inB_true h.1
  obtain ⟨q, rfl⟩ := Int.eq_ofNat_of_zero_le hb.1
  have hq : q < L.length := by omega
  have hx : L[q]? = some L[q] := List.getElem?_eq_getElem hq
  refine ⟨q, L[q], rfl, by omega, hx, ?_⟩
  have h2 := h.2
  rw [Int.toNat_natCast] at h2
  unfold mayB at h2
  rw [hx] at h2
  dsimp only at h2
  by_cases h3 : L[q].k = 2
  · rw [if_pos h3, Bool.and_eq_true, decide_eq_true_eq] at h2
    obtain ⟨j, rfl⟩ : ∃ j, q = j + 1 := ⟨q - 1, by omega⟩
    refine .inr ⟨h3, j, L[j]'(by omega), rfl, List.getElem?_eq_getElem _, ?_⟩
    have h4 := h2.2
    rw [Nat.add_sub_cancel, List.getElem?_eq_getElem (by omega : j < L.length)] at h4
    simpa using h4
  · rw [if_neg h3, Bool.and_eq_true] at h2
    exact .inl (by simpa using h2.1)
set_option maxHeartbeats 4000000 in
theorem walkFnMayBreak (A0 : Option Addr) (n0 c0 : Nat) (l0 : List Int) (w : World) (w0a : n0 ≤ c0) (w0b : c0 ≤ maxLen) (w0c : List.length l0 = n0) (w0d : Rd w 1 A0 n0 (cellsB l0)) (w0e : ∀ z ∈ l0, 0 ≤ z ∧ z ≤ 255) :
    Calls Try.prog 8 #[.slice A0 n0 c0] w fun e w' => e = .returned (.bool true) ∧ Below w.heap.size w w' := by
  by_cases hbig : 1048576 < n0
  · have hd : decide (1048576 < (n0 : Int)) = true := by simp; omega
    clear w0a w0b w0c w0d w0e hbig
    go_enter Try.func8, Try.ntmps8
    go_wp2
    go_ret
    exact ⟨rfl, Below.refl _ _⟩
  · have hd : decide (1048576 < (n0 : Int)) = false := by simp; omega
    have hdraw := hide (drawMayB w A0 n0 c0 l0 w0c w0a (by omega) w0d w0e)
    clear w0a w0b w0c w0d w0e hbig
    go_enter Try.func8, Try.ntmps8
    go_wp2_with (fail)
    refine hdraw.out.mono ?_
    rintro e w1 ⟨L, v, n, t, rfl, hn, hL, ht, hown, hb1⟩
    obtain ⟨A1, c1, rfl, hnc, hrd⟩ := own_form hown
    have hcm := own_cap hown
    have hb1' := hide hb1
    have hsz1 := hb1.size
    have hrd' := hide hrd
    have hL' := hide hL
    have hnm : n ≤ maxLen := by unfold maxLen; omega
    clear hdraw hb1 hown hL hrd
    have ci := hide (implMay A1 n c1 L t w1 hnm hL'.out hrd'.out)
    have cs := hide (fun W (h4 : Rd W 7 A1 n (cellsI L)) => specMay A1 n c1 L t W hnm hL'.out h4)
    go_wp2_with fail
    refine (ci.out).mono ?_
    rintro e w1b ⟨rfl, hb⟩
    have bx1 := hide hb
    have t1 := hb.size
    clear hb
    go_wp2_with fail
    refine (cs.out _ (hrd'.out.below bx1.out)).mono ?_
    rintro e w2 ⟨rfl, hb⟩
    have bx2 := hide (bx1.out.trans (hb.mono t1))
    have bel2 := hide (hb1'.out.trans (bx2.out.mono hsz1))
    have sbel2 := bel2.out.size
    have hrd2 := hide (hrd'.out.below bx2.out)
    clear hb bx1 t1
    cases hv : (items60 L && mayI L t) with
    | false =>
      go_wp2_with fail
      refine (alive_any _).mono ?_
      rintro e w99 ⟨rfl, hb99⟩
      have hend := hide (bel2.out.trans (hb99.mono sbel2))
      clear hb99
      go_wp2
      go_ret
      exact ⟨rfl, hend.out⟩
    | true =>
      rw [Bool.and_eq_true] at hv
      obtain ⟨q, x, rfl, hq, hx, hk⟩ := may_cases hL'.out hv.2
      have hqi : (q : Int) < (n : Int) := by omega
      obtain ⟨b, off, x9, rfl, hbk, hx9, c0, c1', c2, c3, c4, c5, c6⟩ := hrd2.out.item hL'.out hq
      obtain rfl : x = x9 := by rw [hx] at hx9; exact Option.some.inj hx9
      rcases hk with hk | ⟨hk, j, y, rfl, hy, hyk⟩
      · rw [hk] at c0
        clear hv hx hx9 hk
        go_wp2
        go_ret
        exact ⟨rfl, bel2.out⟩
      · obtain ⟨b8, off8, y9, hA8, hbk8, hy9, d0, d1, d2, d3, d4, d5, d6⟩ := hrd2.out.item hL'.out (show j < n by omega)
        injection hA8 with hA8
        injection hA8 with hA81 hA82
        subst hA81
        subst hA82
        have hye : y9 = y := by rw [hy] at hy9; exact (Option.some.inj hy9).symm
        rw [hye, hyk] at d0
        rw [hk] at c0
        have e1 : ((j + 1 : Nat) : Int) - 1 = (j : Int) := by omega
        have e2 : (0 : Int) < ((j + 1 : Nat) : Int) := by omega
        have hji : (j : Int) < (n : Int) := by omega
        clear hv hx hx9 hk hy hy9 hye hyk
        go_wp2
        go_ret
        exact ⟨rfl, bel2.out⟩
end Go.Proofs.Ytocaonlmlafjmaa
