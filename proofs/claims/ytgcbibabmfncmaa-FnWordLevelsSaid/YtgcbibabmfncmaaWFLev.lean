/- The walks through the laws of levels of words. No condition. -/
import Derived.Test.YtgcbibabmfncmaaArgs
import Derived.Test.YtgcbibabmfncmaaDrLev
import Derived.Test.YtgcbibabmfncmaaLevelsF
import Derived.Test.YtgcbibabmfncmaaPatLaw
import Derived.Test.YtgcbibabmfncmaaWFPat
namespace Go.Proofs.Ytgcbibabmfncmaa
open Go.RowKit
set_option linter.unusedVariables false
set_option linter.unusedSimpArgs false
set_option maxRecDepth 100000

def TuRel (L : List ByteArray) (w : World) (n k : Nat) (v : Value) (wr : World) : Prop :=
  wr.ownsRow w.heap.size 9 1 v (n - k) (cellsS (L.drop k).reverse) ∧ Below w.heap.size w wr
theorem tu_step {L : List ByteArray} {w wr w3 : World} {n j g3 cap3 : Nat} {v : Value} {x : ByteArray} (hL : L.length = n) (hj : j < n) (hx : L[j]? = some x) (h : TuRel L w n (j + 1) v wr)
    (hown3 : w3.ownsRow w.heap.size 9 1 (.slice (some ⟨g3, 0, none⟩) (n - (j + 1) + 1) cap3) (n - (j + 1) + 1) (cellsS (L.drop (j + 1)).reverse ++ [.string x]))
    (hg3 : (wr.alloc (.cells #[.string x] 9)).grownBy w3 v.ownBlock) : TuRel L w n j (.slice (some ⟨g3, 0, none⟩) (n - (j + 1) + 1) cap3) w3 := by
  obtain ⟨h1, h4⟩ := h
  refine ⟨?_, (h4.alloc h4.size _).grown hg3 (by simp; have := h4.size; omega) (fun kk hkk => (h1.lt kk hkk).1)⟩
  have e : n - (j + 1) + 1 = n - j := by omega
  have ed : L.drop j = x :: L.drop (j + 1) := by
    obtain ⟨h2, rfl⟩ := List.getElem?_eq_some_iff.1 hx
    exact List.drop_eq_getElem_cons h2
  rw [e] at hown3
  rw [e, ed, List.reverse_cons]
  simpa [cellsS] using hown3
set_option maxHeartbeats 2000000 in
theorem walkFnPatternOrder (A0 : Option Addr) (n0 c0 : Nat) (l0 : List Int) (w : World) (w0a : n0 ≤ c0) (w0b : c0 ≤ maxLen) (w0c : List.length l0 = n0) (w0d : Rd w 1 A0 n0 (cellsB l0)) (w0e : ∀ z ∈ l0, 0 ≤ z ∧ z ≤ 255) :
    Calls Try.prog 27 #[.slice A0 n0 c0] w fun e w' => e = .returned (.bool true) ∧ Below w.heap.size w w' := by
  by_cases hbig : 1048576 < n0
  · have hd : decide (1048576 < (n0 : Int)) = true := by simp; omega
    clear w0a w0b w0c w0d w0e hbig
    go_enter Try.func27, Try.ntmps27
    go_wp2
    go_ret
    exact ⟨rfl, Below.refl _ _⟩
  · have hd : decide (1048576 < (n0 : Int)) = false := by simp; omega
    have hdraw := hide (drawWL w A0 n0 c0 l0 w0c w0a (by omega) w0d w0e)
    clear w0a w0b w0c w0d w0e hbig
    go_enter Try.func27, Try.ntmps27
    go_wp2_with (fail)
    refine hdraw.out.mono ?_
    rintro e w1 ⟨s, L, v, n, rfl, hss, hn, hL, hLb, hown, hb1⟩
    obtain ⟨A1, c1, rfl, _, _⟩ := own_form hown
    have hb1' := hide hb1
    have hsz1 := hb1.size
    have own1 := hide hown
    have hL' := hide hL
    have hsm : s.size ≤ maxLen := by unfold maxLen; omega
    have hLz := hide (show ∀ x ∈ L, x.size ≤ maxLen from fun x hx => by have := hLb x hx; unfold maxLen; omega)
    have hnm : n ≤ maxLen := by unfold maxLen; omega
    clear hdraw hb1 hown hLb hL
    have ci := hide (fun W (M : List ByteArray) B m d (h1 : m ≤ maxLen) (h2 : List.length M = m) (h3 : ∀ s ∈ M, s.size ≤ maxLen) (h4 : Rd W 1 B m (cellsS M)) => implLevels s B m d M W hsm h1 h2 h3 h4)
    have cs := hide (fun W (h4 : Rd W 1 A1 n (cellsS L)) => specLevels s A1 n c1 L W hsm hnm hL'.out hLz.out h4)
    have hrev := hide (levels_reverse s L)
    have h21 := levelsW_bd s L
    generalize hR : levelsW s L = R at *
    have hR' := hide hR
    have hRm : R.length ≤ maxLen := by unfold maxLen; omega
    clear hR
    go_wp2_with fail
    refine (ci.out w1 L A1 n c1 hnm hL'.out hLz.out (Rd.of_own own1.out)).mono ?_
    intro e w2 hp
    rw [hR'.out] at hp
    obtain ⟨v2, rfl, own2, hbX⟩ := hp
    obtain ⟨A2, c2, rfl, _, _⟩ := own_form own2
    have own2' := hide own2
    have own12 := hide (own_below own1.out hbX)
    have bel2 := hide (hb1'.out.trans (hbX.mono hsz1))
    have s2 := bel2.out.size
    clear hbX own2 own1
    go_wp2_with fail
    refine (cs.out w2 (Rd.of_own own12.out)).mono ?_
    intro e w3 hp
    obtain ⟨v3, rfl, own3, hbX⟩ := hp
    obtain ⟨A3, c3, rfl, _, _⟩ := own_form own3
    have own3' := hide own3
    have own13 := hide (own_below own12.out hbX)
    have own23 := hide (own_below own2'.out hbX)
    have bel3 := hide (bel2.out.trans (hbX.mono s2))
    have s3 := bel3.out.size
    clear hbX own3 own12 own2' cs
    go_wp2_with fail
    refine (sameInts_same _ _ R.length _ _ R _ hRm rfl (Rd.of_own own23.out) (Rd.of_own own3'.out)).mono ?_
    rintro e w4 ⟨rfl, hbX⟩
    have own14 := hide (own_below own13.out hbX)
    have own24 := hide (own_below own23.out hbX)
    have bel4 := hide (bel3.out.trans (hbX.mono s3))
    have s4 := bel4.out.size
    clear hbX own13 own23 own3'
    obtain ⟨i0, hi, hz0, hz1, hz2⟩ := info_parts str_info
    have hst := hide (show TuRel L w4 n n (.slice (some ⟨w4.heap.size, 0, none⟩) 0 0) (w4.alloc (.cells #[] 9)) by
      refine ⟨?_, (Below.refl _ _).alloc (Nat.le_refl _) _⟩
      rw [Nat.sub_self, List.drop_of_length_le (by have := hL'.out; omega)]
      exact own_empty1 (Blk.new w4 9 #[]) (Nat.le_refl _))
    go_wp2
    go_loopw [6, 7] (fun v i wr => ∃ k : Nat, k ≤ n ∧ i = .int .i64 ((k : Int) - 1) ∧ TuRel L w4 n k v wr) (fun _ i _ => ((intOf i) + 1).toNat)
    case atStart => exact ⟨n, Nat.le_refl _, rfl, hst.out⟩
    case round =>
      obtain ⟨k, hk, rfl, hrel⟩ := hrel
      have hrel' := hide hrel
      obtain ⟨hown, hb⟩ := hrel
      have hbs := hb.size
      by_cases hk0 : 0 < k
      · obtain ⟨j, rfl⟩ : ∃ j, k = j + 1 := ⟨k - 1, by omega⟩
        have ej : ((j + 1 : Nat) : Int) - 1 = (j : Int) := by omega
        rw [ej]
        have hown' := hide hown
        obtain ⟨b, off, x, rfl, hbk, hx, d0⟩ := (Rd.of_own (own_below own14.out hb)).str hL'.out (show j < n by omega)
        have hx' := hide hx
        have hjn : j < n := by omega
        clear hown hb hx hst hk0 ej
        go_wp2_with (at_builtin; refine wpList_append_lies _ rfl _ _ 27 rfl w4.heap.size 9 i0 (.string ByteArray.empty) 1 16 Try.underlying27 hi hz0 hz1 hz2 rfl (by decide) _ _ _ rfl (hown'.out.alloc _) ⟨wr.heap.size, 0, none⟩ 1 1 [.string x] rfl rfl (fun j u hj => cell_one_at (by simp) hj) (one_str _) (by omega) (by unfold maxLen; omega) (by omega) (by simp; omega) _ rfl ?_)
        intro g3 cap3 w5 hown3 hg3 hat3 hlt3
        have hfin := hide (tu_step hL'.out hjn hx'.out hrel'.out hown3 hg3)
        clear hown3 hg3 hat3 hlt3
        go_wp2
        go_roundw
        case rel => exact ⟨j, by omega, by first | rfl | go_num, hfin.out⟩
        case measure => (simp [intOf] <;> omega)
      · obtain rfl : k = 0 := by omega
        have hdn : decide ((0 : Int) ≤ ((0 : Nat) : Int) - 1) = false := by decide
        rw [Nat.sub_zero, List.drop_zero] at hown
        obtain ⟨A6, c6, rfl, _, _⟩ := own_form hown
        have own6 := hide hown
        have own26 := hide (own_below own24.out hb)
        have bel6 := hide (bel4.out.trans (hb.mono s4))
        have s6 := bel6.out.size
        clear hown hb hst hrel'
        go_wp2_with fail
        refine (ci.out wr L.reverse A6 n c6 hnm (by rw [List.length_reverse]; exact hL'.out) (fun x hx => hLz.out x (List.mem_reverse.1 hx)) (Rd.of_own own6.out)).mono ?_
        intro e w7 hp
        rw [hrev.out] at hp
        obtain ⟨v7, rfl, own7, hbX⟩ := hp
        obtain ⟨A7, c7, rfl, _, _⟩ := own_form own7
        have own7' := hide own7
        have own27 := hide (own_below own26.out hbX)
        have bel7 := hide (bel6.out.trans (hbX.mono s6))
        have s7 := bel7.out.size
        clear hbX own7
        go_wp2_with fail
        refine (sameInts_same _ _ R.length _ _ R _ hRm rfl (Rd.of_own own7'.out) (Rd.of_own own27.out)).mono ?_
        rintro e w8 ⟨rfl, hbX⟩
        have bel8 := hide (bel7.out.trans (hbX.mono s7))
        have s8 := bel8.out.size
        clear hbX
        go_wp2_with fail
        refine (alive_any _).mono ?_
        rintro e w99 ⟨rfl, hb99⟩
        go_wp2
        go_ret
        exact ⟨rfl, bel8.out.trans (hb99.mono s8)⟩
end Go.Proofs.Ytgcbibabmfncmaa
