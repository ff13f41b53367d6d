/- The walk through FnPatternsValid. No condition. -/
import Derived.Test.YtgcbibabmfncmaaArgs
import Derived.Test.YtgcbibabmfncmaaDrLev
import Derived.Test.YtgcbibabmfncmaaPats
import Derived.Test.YtgcbibabmfncmaaGlue
import Derived.Test.YtgcbibabmfncmaaAppSub
namespace Go.Proofs.Ytgcbibabmfncmaa
open Go.RowKit
set_option linter.unusedVariables false
set_option linter.unusedSimpArgs false
set_option maxRecDepth 100000

theorem pats_drop {L : List ByteArray} (h : pats20 L = true) (m : Nat) : pats20 (L.drop m) = true := by
  simp only [pats20, Bool.and_eq_true, decide_eq_true_eq, List.all_eq_true] at h ⊢
  refine ⟨fun x hx => h.1 x (List.mem_of_mem_drop hx), ?_⟩
  rw [List.length_drop]; omega
theorem pats_snoc (L : List ByteArray) : pats20 (L ++ [ByteArray.empty]) = false := by
  have e : patB ByteArray.empty = false := by decide
  unfold pats20
  rw [List.all_append]
  simp [e]
set_option maxHeartbeats 2000000 in
theorem walkFnPatternsValid (A0 : Option Addr) (n0 c0 : Nat) (l0 : List Int) (w : World) (w0a : n0 ≤ c0) (w0b : c0 ≤ maxLen) (w0c : List.length l0 = n0) (w0d : Rd w 1 A0 n0 (cellsB l0)) (w0e : ∀ z ∈ l0, 0 ≤ z ∧ z ≤ 255) :
    Calls Try.prog 26 #[.slice A0 n0 c0] w fun e w' => e = .returned (.bool true) ∧ Below w.heap.size w w' := by
  by_cases hbig : 1048576 < n0
  · have hd : decide (1048576 < (n0 : Int)) = true := by simp; omega
    clear w0a w0b w0c w0d w0e hbig
    go_enter Try.func26, Try.ntmps26
    go_wp2
    go_ret
    exact ⟨rfl, Below.refl _ _⟩
  · have hd : decide (1048576 < (n0 : Int)) = false := by simp; omega
    have hdraw := hide (drawPatsV w A0 n0 c0 l0 w0c w0a (by omega) w0d w0e)
    clear w0a w0b w0c w0d w0e hbig
    go_enter Try.func26, Try.ntmps26
    go_wp2_with (fail)
    refine hdraw.out.mono ?_
    rintro e w1 ⟨L, v, n, rfl, hn, hL, hLb, hown, hb1⟩
    obtain ⟨A1, c1, rfl, hnc, hrd⟩ := own_form hown
    have hcm := own_cap hown
    have hb1' := hide hb1
    have hsz1 := hb1.size
    have hrd' := hide hrd
    have hL' := hide hL
    have hLz := hide (show ∀ x ∈ L, x.size ≤ maxLen from fun x hx => by have := hLb x hx; unfold maxLen; omega)
    have hnm : n ≤ maxLen := by unfold maxLen; omega
    clear hdraw hb1 hown hLb hL hrd
    have ci := hide (fun W (M : List ByteArray) B m d (h1 : m ≤ maxLen) (h2 : List.length M = m) (h3 : ∀ s ∈ M, s.size ≤ maxLen) (h4 : Rd W 1 B m (cellsS M)) => implPats B m d M W h1 h2 h3 h4)
    have cs := hide (specPats A1 n c1 L w1 hnm hL'.out hLz.out hrd'.out)
    go_wp2_with fail
    refine (ci.out w1 L A1 n c1 hnm hL'.out hLz.out hrd'.out).mono ?_
    rintro e w' ⟨rfl, rfl⟩
    go_wp2_with fail
    refine cs.out.mono ?_
    rintro e w' ⟨rfl, rfl⟩
    have hsn := pats_snoc L
    have hmn : n / 2 ≤ n := by omega
    have q1 : ((n : Int) / 2).toNat = n / 2 := by omega
    have q2 : (0 : Int) ≤ (n : Int) / 2 := by omega
    have q3 : (n : Int) / 2 ≤ (n : Int) := by omega
    obtain ⟨i0, hi, hz0, hz1, hz2⟩ := info_parts str_info
    have hk0 := hide (own_empty1 (base := w1.heap.size) (Blk.new w1 9 #[]) (Nat.le_refl _))
    have hsub := hide (rd_sub hrd'.out hL'.out hnc hmn)
    cases hv : pats20 L with
    | false =>
      go_wp2_with (at_builtin; refine wpList_wanted (by first | rfl | simp [Region.wanted, yielded]) ?_)
      intro K hK
      refine wp_append_rd _ _ _ 27 rfl w1.heap.size 9 i0 (.string ByteArray.empty) 16 Try.underlying27 hi hz0 hz1 hz2 rfl w1.heap.size rfl hk0.out A1 n c1 rfl L (hrd'.out.alloc _) hnm (by omega) (by simp) ?_
      intro A5 c5 w5 own5 hg5
      have bel5 := hide (hb1'.out.trans ((Below.only ((Below.refl w1.heap.size w1).alloc (Nat.le_refl _) (.cells #[] 9)) hg5 (by simp) (Nat.le_refl _)).mono hsz1))
      have own5' := hide own5
      have s5 := hg5.size
      simp only [World.size_alloc] at s5
      clear own5 hg5
      refine hK _ _ ?_
      clear hK K
      go_wp2_with (at_builtin; refine wpList_wanted (by first | rfl | simp [Region.wanted, yielded]) ?_)
      intro K hK
      refine wp_append_lies _ _ _ 27 rfl w1.heap.size 9 i0 (.string ByteArray.empty) 1 16 Try.underlying27 hi hz0 hz1 hz2 rfl (by decide) _ _ _ rfl (own5'.out.alloc _) ⟨w5.heap.size, 0, none⟩ 1 1 [.string ByteArray.empty] rfl rfl (fun j u hj => cell_one_at (by simp) hj) (one_str _) (by omega) (by unfold maxLen; omega) (by omega) (by simp; omega) _ rfl ?_
      intro g3 cap3 w6 hown6 hg6 hat6 hlt6
      have hrd6 := hide (Rd.of_own hown6)
      have bel6 := hide ((bel5.out.alloc (by omega) (.cells #[.string ByteArray.empty] 9)).grown hg6 (by simp; omega) (fun kk hkk => by have := (own5'.out.lt kk hkk).1; omega))
      have s6 := bel6.out.size
      clear hown6 hg6 hat6 hlt6
      refine hK _ _ ?_
      clear hK K
      go_wp2_with fail
      refine (ci.out w6 (L ++ [ByteArray.empty]) _ (n + 1) cap3 (by unfold maxLen; omega) (by simp [hL'.out]) (fun x hx => by
        rcases List.mem_append.1 hx with hx | hx
        · exact hLz.out x hx
        · simp at hx; subst hx; simp) (by rw [cellsS_snoc]; exact hrd6.out)).mono ?_
      rintro e w' ⟨rfl, rfl⟩
      rw [hsn]
      go_wp2_with fail
      refine (alive_any _).mono ?_
      rintro e w99 ⟨rfl, hb99⟩
      go_wp2
      go_ret
      exact ⟨rfl, bel6.out.trans (hb99.mono s6)⟩
    | true =>
      have hdr := hide (pats_drop hv (n / 2))
      by_cases hcc : c1 = n / 2
      · obtain rfl : n = 0 := by omega
        obtain rfl : c1 = 0 := by omega
        have hv' := hide hv
        clear hv hdr hsub q1 q2 q3 hmn hcc
        go_wp2_with fail
        refine (ci.out w1 L A1 0 0 hnm hL'.out hLz.out hrd'.out).mono ?_
        rintro e w' ⟨rfl, rfl⟩
        rw [hv'.out]
        go_wp2_with (at_builtin; refine wpList_wanted (by first | rfl | simp [Region.wanted, yielded]) ?_)
        intro K hK
        refine wp_append_rd _ _ _ 27 rfl w1.heap.size 9 i0 (.string ByteArray.empty) 16 Try.underlying27 hi hz0 hz1 hz2 rfl w1.heap.size rfl hk0.out A1 0 0 rfl L (hrd'.out.alloc _) hnm (by omega) (by simp) ?_
        intro A5 c5 w5 own5 hg5
        have bel5 := hide (hb1'.out.trans ((Below.only ((Below.refl w1.heap.size w1).alloc (Nat.le_refl _) (.cells #[] 9)) hg5 (by simp) (Nat.le_refl _)).mono hsz1))
        have own5' := hide own5
        have s5 := hg5.size
        simp only [World.size_alloc] at s5
        clear own5 hg5
        refine hK _ _ ?_
        clear hK K
        go_wp2_with (at_builtin; refine wpList_wanted (by first | rfl | simp [Region.wanted, yielded]) ?_)
        intro K hK
        refine wp_append_lies _ _ _ 27 rfl w1.heap.size 9 i0 (.string ByteArray.empty) 1 16 Try.underlying27 hi hz0 hz1 hz2 rfl (by decide) _ _ _ rfl (own5'.out.alloc _) ⟨w5.heap.size, 0, none⟩ 1 1 [.string ByteArray.empty] rfl rfl (fun j u hj => cell_one_at (by simp) hj) (one_str _) (by omega) (by unfold maxLen; omega) (by omega) (by simp; omega) _ rfl ?_
        intro g3 cap3 w6 hown6 hg6 hat6 hlt6
        have hrd6 := hide (Rd.of_own hown6)
        have bel6 := hide ((bel5.out.alloc (by omega) (.cells #[.string ByteArray.empty] 9)).grown hg6 (by simp; omega) (fun kk hkk => by have := (own5'.out.lt kk hkk).1; omega))
        have s6 := bel6.out.size
        clear hown6 hg6 hat6 hlt6
        refine hK _ _ ?_
        clear hK K
        go_wp2_with fail
        refine (ci.out w6 (L ++ [ByteArray.empty]) _ (0 + 1) cap3 (by unfold maxLen; omega) (by simp [hL'.out]) (fun x hx => by
          rcases List.mem_append.1 hx with hx | hx
          · exact hLz.out x hx
          · simp at hx; subst hx; simp) (by rw [cellsS_snoc]; exact hrd6.out)).mono ?_
        rintro e w' ⟨rfl, rfl⟩
        rw [hsn]
        go_wp2_with fail
        refine (alive_any _).mono ?_
        rintro e w99 ⟨rfl, hb99⟩
        go_wp2
        go_ret
        exact ⟨rfl, bel6.out.trans (hb99.mono s6)⟩
      · rw [if_neg hcc, Nat.mul_one] at hsub
        clear hv
        go_wp2_with fail
        refine (ci.out w1 (L.drop (n / 2)) _ (n - n / 2) (c1 - n / 2) (by omega) (by rw [List.length_drop, hL'.out]) (fun x hx => hLz.out x (List.mem_of_mem_drop hx)) hsub.out).mono ?_
        rintro e w' ⟨rfl, rfl⟩
        rw [hdr.out]
        go_wp2_with (at_builtin; refine wpList_wanted (by first | rfl | simp [Region.wanted, yielded]) ?_)
        intro K hK
        refine wp_append_rd _ _ _ 27 rfl w1.heap.size 9 i0 (.string ByteArray.empty) 16 Try.underlying27 hi hz0 hz1 hz2 rfl w1.heap.size rfl hk0.out A1 n c1 rfl L (hrd'.out.alloc _) hnm (by omega) (by simp) ?_
        intro A5 c5 w5 own5 hg5
        have bel5 := hide (hb1'.out.trans ((Below.only ((Below.refl w1.heap.size w1).alloc (Nat.le_refl _) (.cells #[] 9)) hg5 (by simp) (Nat.le_refl _)).mono hsz1))
        have own5' := hide own5
        have s5 := hg5.size
        simp only [World.size_alloc] at s5
        clear own5 hg5
        refine hK _ _ ?_
        clear hK K
        go_wp2_with (at_builtin; refine wpList_wanted (by first | rfl | simp [Region.wanted, yielded]) ?_)
        intro K hK
        refine wp_append_lies _ _ _ 27 rfl w1.heap.size 9 i0 (.string ByteArray.empty) 1 16 Try.underlying27 hi hz0 hz1 hz2 rfl (by decide) _ _ _ rfl (own5'.out.alloc _) ⟨w5.heap.size, 0, none⟩ 1 1 [.string ByteArray.empty] rfl rfl (fun j u hj => cell_one_at (by simp) hj) (one_str _) (by omega) (by unfold maxLen; omega) (by omega) (by simp; omega) _ rfl ?_
        intro g3 cap3 w6 hown6 hg6 hat6 hlt6
        have hrd6 := hide (Rd.of_own hown6)
        have bel6 := hide ((bel5.out.alloc (by omega) (.cells #[.string ByteArray.empty] 9)).grown hg6 (by simp; omega) (fun kk hkk => by have := (own5'.out.lt kk hkk).1; omega))
        have s6 := bel6.out.size
        clear hown6 hg6 hat6 hlt6
        refine hK _ _ ?_
        clear hK K
        go_wp2_with fail
        refine (ci.out w6 (L ++ [ByteArray.empty]) _ (n + 1) cap3 (by unfold maxLen; omega) (by simp [hL'.out]) (fun x hx => by
          rcases List.mem_append.1 hx with hx | hx
          · exact hLz.out x hx
          · simp at hx; subst hx; simp) (by rw [cellsS_snoc]; exact hrd6.out)).mono ?_
        rintro e w' ⟨rfl, rfl⟩
        rw [hsn]
        go_wp2_with fail
        refine (alive_any _).mono ?_
        rintro e w99 ⟨rfl, hb99⟩
        go_wp2
        go_ret
        exact ⟨rfl, bel6.out.trans (hb99.mono s6)⟩
end Go.Proofs.Ytgcbibabmfncmaa
