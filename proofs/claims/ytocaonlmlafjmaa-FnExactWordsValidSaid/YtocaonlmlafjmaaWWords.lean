/- The walk through the exact law of words. No condition. -/
import Derived.Test.YtocaonlmlafjmaaWords
import Derived.Test.YtocaonlmlafjmaaExS
import Derived.Test.YtocaonlmlafjmaaArgs
namespace Go.Proofs.Ytocaonlmlafjmaa
open Go.RowKit
set_option linter.unusedVariables false
set_option linter.unusedSimpArgs false
theorem walkFnExactWordsValid (A0 : Option Addr) (n0 c0 : Nat) (l0 : List ByteArray) (w : World) (w0a : n0 ≤ c0) (w0b : c0 ≤ maxLen) (w0c : List.length l0 = n0) (w0d : Rd w 1 A0 n0 (cellsS l0)) (w0e : ∀ s ∈ l0, s.size ≤ maxLen) :
    Calls Try.prog 11 #[.slice A0 n0 c0] w fun e w' => e = .returned (.bool true) ∧ Below w.heap.size w w' := by
  have hl := hide w0c
  have hm : n0 ≤ maxLen := by omega
  have hz := hide w0e
  have hsz := hide (szStringS_any A0 n0 c0 l0 w 1048576 hm hl.out hz.out w0d (by omega) (by omega))
  have hsc : (cellsS l0).length = n0 * 1 := by rw [len_cellsS, hl.out]
  have rdB : ∀ (W : World) (g : Nat), Blk W g 9 (cellsS l0).toArray → Rd W 1 (some ⟨g, 0, none⟩) n0 (cellsS l0) := fun W g hb => Rd.of_blk hb hsc
  have rdB' := hide rdB
  clear rdB hsc w0a w0b w0c w0e
  go_enter Try.func11, Try.ntmps11
  go_wp2_with fail
  refine hsz.out.mono ?_
  rintro e w' ⟨r0, rfl, hr0, hq0, rfl⟩
  have hq0' := hide hq0
  clear hq0
  by_cases hz0 : r0 < 0
  · have hd : decide (r0 < 0) = true := by simpa using hz0
    go_wp2
    go_ret
    exact ⟨rfl, Below.refl _ _⟩
  · have hd : decide (r0 < 0) = false := by simpa using hz0
    have hqn := (hq0'.out (by omega)).1
    go_wp2_with fail
    refine (toStringS_any A0 n0 c0 l0 _ (by omega) hl.out w0d).mono ?_
    rintro e w1 ⟨g1, rfl, hg1, hk1, hb1⟩
    have bel1 := hide hb1
    have s1 := hb1.size
    have k1 := hide hk1
    clear hk1 hb1
    go_wp2_with fail
    refine (specWords _ n0 n0 l0 _ hm hl.out hz.out (rdB'.out _ _ k1.out)).mono ?_
    rintro e w' ⟨rfl, rfl⟩
    go_wp2_with fail
    refine (toStringS_any A0 n0 c0 l0 _ (by omega) hl.out (w0d.below bel1.out)).mono ?_
    rintro e w2 ⟨g2, rfl, hg2, hk2, hb2⟩
    have bel2 := hide (bel1.out.trans (hb2.mono s1))
    have s2 := bel2.out.size
    have k2 := hide hk2
    clear hk2 hb2
    go_wp2_with fail
    refine (implWords _ n0 n0 l0 _ hm hl.out hz.out (rdB'.out _ _ k2.out)).mono ?_
    rintro e w' ⟨rfl, rfl⟩
    go_wp2_with fail
    refine (toStringS_any A0 n0 c0 l0 _ (by omega) hl.out (w0d.below bel2.out)).mono ?_
    rintro e w3 ⟨g3, rfl, hg3, hk3, hb3⟩
    have k23 := hide (k2.out.below' hb3)
    have bel3 := hide (bel2.out.trans (hb3.mono s2))
    have s3 := bel3.out.size
    have k3 := hide hk3
    clear hk3 hb3
    go_wp2_with fail
    refine (eqStringS_same _ _ n0 n0 n0 l0 _ hm hl.out (rdB'.out _ _ k23.out) (rdB'.out _ _ k3.out)).mono ?_
    rintro e w4 ⟨rfl, hb4⟩
    have bel4 := hide (bel3.out.trans (hb4.mono s3))
    clear hb4
    go_wp2
    go_ret
    exact ⟨rfl, bel4.out⟩
end Go.Proofs.Ytocaonlmlafjmaa
