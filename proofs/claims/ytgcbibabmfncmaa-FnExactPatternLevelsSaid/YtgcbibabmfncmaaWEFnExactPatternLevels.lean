/- The walk through FnExactPatternLevels. No condition. -/
import Derived.Test.YtgcbibabmfncmaaArgs
import Derived.Test.YtgcbibabmfncmaaExN
import Derived.Test.YtgcbibabmfncmaaPat2
import Derived.Test.YtgcbibabmfncmaaApart
namespace Go.Proofs.Ytgcbibabmfncmaa
open Go.RowKit
set_option linter.unusedVariables false
set_option linter.unusedSimpArgs false

set_option maxRecDepth 100000 in
set_option maxHeartbeats 2000000 in
theorem walkFnExactPatternLevels (a0 : ByteArray) (w : World) (w0 : a0.size ≤ maxLen) :
    Calls Try.prog 18 #[.string a0] w fun e w' => e = .returned (.bool true) ∧ Below w.heap.size w w' := by
  by_cases hn0 : 1048576 < a0.size
  · have hd : decide (1048576 < (a0.size : Int)) = true := by simp; omega
    clear w0 hn0 
    go_enter Try.func18, Try.ntmps18
    go_wp2
    go_ret
    exact ⟨rfl, Below.refl _ _⟩
  have hd0 : decide (1048576 < (a0.size : Int)) = false := by simp; omega
  have hLl := patLv_bd a0
  generalize hR : patLv a0 = R at *
  have hR' := hide hR
  clear hR
  have hs0 := hide w0
  clear w0 hn0
  have hLm : R.length ≤ maxLen := by unfold maxLen; omega
  go_enter Try.func18, Try.ntmps18
  have bel0 := hide (Below.refl w.heap.size w)
  have s0 := Nat.le_refl w.heap.size
  go_wp2_with fail
  refine (specPatLevels a0 _ hs0.out).mono ?_
  intro e w1 hp
  unfold RowN at hp
  rw [hR'.out] at hp
  obtain ⟨vow, rfl, ownow, hbow⟩ := hp
  obtain ⟨Aow, cow, rfl, _, _⟩ := own_form ownow
  have ivow := hide (fun k hk => ownow.lt k hk)
  have ownow' := hide ownow
  clear ownow
  have bel2 := hide (bel0.out.trans (hbow.mono s0))
  have z2 := hbow.size
  have s2 := bel2.out.size
  clear hbow  bel0
  have ow_0 := hide ownow'.out
  clear ownow'
  go_wp2_with fail
  refine (implPatLevels a0 _ hs0.out).mono ?_
  intro e w3 hp
  unfold RowN at hp
  rw [hR'.out] at hp
  obtain ⟨vog, rfl, ownog, hbog⟩ := hp
  obtain ⟨Aog, cog, rfl, _, _⟩ := own_form ownog
  have ivog := hide (fun k hk => ownog.lt k hk)
  have ownog' := hide ownog
  clear ownog
  have ow_4 := hide (own_below ow_0.out hbog)
  have bel4 := hide (bel2.out.trans (hbog.mono s2))
  have z4 := hbog.size
  have s4 := bel4.out.size
  clear hbog ow_0 bel2
  have og_0 := hide ownog'.out
  clear ownog'
  go_wp2_with fail
  refine (eqIntS_same _ _ R.length _ _ R _ hLm rfl (Rd.of_own og_0.out) (Rd.of_own ow_4.out)).mono ?_
  rintro e w5 ⟨rfl, hbq5⟩
  have ow_6 := hide (own_below ow_4.out hbq5)
  have og_6 := hide (own_below og_0.out hbq5)
  have bel6 := hide (bel4.out.trans (hbq5.mono s4))
  have z6 := hbq5.size
  have s6 := bel6.out.size
  clear hbq5 ow_4 og_0 bel4
  go_wp2_with fail
  refine (markIntS_any _ R.length 1 _ R _ (by omega) (by omega) rfl og_6.out).mono ?_
  rintro e w7 ⟨rfl, hmk7, hgr7⟩
  have mk_7 := hide hmk7
  clear hmk7
  have ow_7 := hide (ow_6.out.kept hgr7 (own_apart' (fun k h1 h2 => by have := ivow.out k h1; have := ivog.out k h2; omega)))
  have bel7 := hide (bel6.out.trans (below_of_row' hgr7 s6 (fun k hk => by have := ivog.out k hk; omega)))
  have z7 := hgr7.size
  have s7 := bel7.out.size
  clear hgr7 ow_6 og_6 bel6
  go_wp2_with fail
  refine (heldIntS_any _ R.length _ 1 _ (by omega) (by omega) (Rd.of_own mk_7.out)).mono ?_
  rintro e w8 ⟨rfl, rfl⟩
  go_wp2_with fail
  refine (implPatLevels a0 _ hs0.out).mono ?_
  intro e w9 hp
  unfold RowN at hp
  rw [hR'.out] at hp
  obtain ⟨voh, rfl, ownoh, hboh⟩ := hp
  obtain ⟨Aoh, coh, rfl, _, _⟩ := own_form ownoh
  have ivoh := hide (fun k hk => ownoh.lt k hk)
  have ownoh' := hide ownoh
  clear ownoh
  have ow_10 := hide (own_below ow_7.out hboh)
  have mk_10 := hide (own_below mk_7.out hboh)
  have bel10 := hide (bel7.out.trans (hboh.mono s7))
  have z10 := hboh.size
  have s10 := bel10.out.size
  clear hboh ow_7 mk_7 bel7
  have oh_0 := hide ownoh'.out
  clear ownoh'
  go_wp2_with fail
  refine (eqIntS_same _ _ R.length _ _ R _ hLm rfl (Rd.of_own oh_0.out) (Rd.of_own ow_10.out)).mono ?_
  rintro e w11 ⟨rfl, hbq11⟩
  have ow_12 := hide (own_below ow_10.out hbq11)
  have mk_12 := hide (own_below mk_10.out hbq11)
  have oh_12 := hide (own_below oh_0.out hbq11)
  have bel12 := hide (bel10.out.trans (hbq11.mono s10))
  have z12 := hbq11.size
  have s12 := bel12.out.size
  clear hbq11 ow_10 mk_10 oh_0 bel10
  go_wp2_with fail
  refine (heldIntS_any _ R.length _ 1 _ (by omega) (by omega) (Rd.of_own mk_12.out)).mono ?_
  rintro e w13 ⟨rfl, rfl⟩
  go_wp2
  go_ret
  exact ⟨rfl, bel12.out⟩
end Go.Proofs.Ytgcbibabmfncmaa
