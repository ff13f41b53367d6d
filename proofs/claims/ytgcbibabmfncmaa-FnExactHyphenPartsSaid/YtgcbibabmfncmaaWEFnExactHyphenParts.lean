/- The walk through FnExactHyphenParts. No condition. -/
import Derived.Test.YtgcbibabmfncmaaArgs
import Derived.Test.YtgcbibabmfncmaaMarkS
import Derived.Test.YtgcbibabmfncmaaParts
import Derived.Test.YtgcbibabmfncmaaApart
namespace Go.Proofs.Ytgcbibabmfncmaa
open Go.RowKit
set_option linter.unusedVariables false
set_option linter.unusedSimpArgs false

set_option maxRecDepth 100000 in
set_option maxHeartbeats 2000000 in
theorem walkFnExactHyphenParts (a0 : ByteArray) (A1 : Option Addr) (n1 c1 : Nat) (l1 : List ByteArray) (w : World) (w0 : a0.size ≤ maxLen) (w1a : n1 ≤ c1) (w1b : c1 ≤ maxLen) (w1c : List.length l1 = n1) (w1d : Rd w 1 A1 n1 (cellsS l1)) (w1e : ∀ s ∈ l1, s.size ≤ maxLen) :
    Calls Try.prog 22 #[.string a0, .slice A1 n1 c1] w fun e w' => e = .returned (.bool true) ∧ Below w.heap.size w w' := by
  have hl1 := hide w1c
  have hm1 : n1 ≤ maxLen := by omega
  have hw1 := hide w1e
  have hsz1 := hide (fun W m (hr : Rd W 1 A1 n1 (cellsS l1)) h1 h2 => szStringS_any A1 n1 c1 l1 W m hm1 hl1.out hw1.out hr h1 h2)
  clear w1a w1b w1c w1e
  by_cases hn0 : 1048576 < a0.size
  · have hd : decide (1048576 < (a0.size : Int)) = true := by simp; omega
    clear w0 hn0 
    go_enter Try.func22, Try.ntmps22
    go_wp2
    go_ret
    exact ⟨rfl, Below.refl _ _⟩
  have hd0 : decide (1048576 < (a0.size : Int)) = false := by simp; omega
  have hLl := partsW_bd a0 l1
  generalize hR : partsW a0 l1 = R at *
  have hR' := hide hR
  clear hR
  have hs0 := hide w0
  clear w0 hn0
  have hLm : R.length ≤ maxLen := by unfold maxLen; omega
  have hsc1 : (cellsS l1).length = n1 * 1 := by rw [len_cellsS, hl1.out]
  have rdB1 : ∀ (W : World) (g : Nat), Blk W g 9 (cellsS l1).toArray → Rd W 1 (some ⟨g, 0, none⟩) n1 (cellsS l1) := fun W g hb => Rd.of_blk hb hsc1
  have rdB1' := hide rdB1
  clear rdB1 hsc1
  go_enter Try.func22, Try.ntmps22
  have bel0 := hide (Below.refl w.heap.size w)
  have s0 := Nat.le_refl w.heap.size
  go_wp2_with fail
  refine (hsz1.out _ (1048576) w1d (by omega) (by omega)).mono ?_
  rintro e w' ⟨r1, rfl, hr1, hq1, rfl⟩
  have hq1' := hide hq1
  clear hq1
  by_cases hz1 : r1 < 0
  · have hd : decide (r1 < 0) = true := by simpa using hz1
    go_wp2
    go_ret
    exact ⟨rfl, Below.refl _ _⟩
  have hdz1 : decide (r1 < 0) = false := by simp; omega
  have hqn1 := hq1'.out (by omega)
  go_wp2_with fail
  refine (toStringS_any A1 n1 c1 l1 _ (by omega) hl1.out (w1d.below bel0.out)).mono ?_
  rintro e w1 ⟨gca1, rfl, hgca1, hkca1, hbca1⟩
  have ltca1 := hkca1.lt
  have hkca1' := hide hkca1
  clear hkca1
  have bel2 := hide (bel0.out.trans (hbca1.mono s0))
  have z2 := hbca1.size
  have s2 := bel2.out.size
  clear hbca1  bel0
  have ca1_0 := hide hkca1'.out
  clear hkca1'
  go_wp2_with fail
  refine (specParts a0 _ n1 n1 l1 _ hs0.out hm1 hl1.out hw1.out (rdB1'.out _ _ ca1_0.out)).mono ?_
  intro e w3 hp
  unfold RowS at hp
  rw [hR'.out] at hp
  obtain ⟨vow, rfl, ownow, hbow⟩ := hp
  obtain ⟨Aow, cow, rfl, _, _⟩ := own_form ownow
  have ivow := hide (fun k hk => ownow.lt k hk)
  have ownow' := hide ownow
  clear ownow
  have ca1_4 := hide (ca1_0.out.below' hbow)
  have bel4 := hide (bel2.out.trans (hbow.mono s2))
  have z4 := hbow.size
  have s4 := bel4.out.size
  clear hbow ca1_0 bel2
  have ow_0 := hide ownow'.out
  clear ownow'
  clear ca1_4
  go_wp2_with fail
  refine (toStringS_any A1 n1 c1 l1 _ (by omega) hl1.out (w1d.below bel4.out)).mono ?_
  rintro e w5 ⟨gcb1, rfl, hgcb1, hkcb1, hbcb1⟩
  have ltcb1 := hkcb1.lt
  have hkcb1' := hide hkcb1
  clear hkcb1
  have ow_6 := hide (own_below ow_0.out hbcb1)
  have bel6 := hide (bel4.out.trans (hbcb1.mono s4))
  have z6 := hbcb1.size
  have s6 := bel6.out.size
  clear hbcb1 ow_0 bel4
  have cb1_0 := hide hkcb1'.out
  clear hkcb1'
  go_wp2_with fail
  refine (implParts a0 _ n1 n1 l1 _ hs0.out hm1 hl1.out hw1.out (rdB1'.out _ _ cb1_0.out)).mono ?_
  intro e w7 hp
  unfold RowS at hp
  rw [hR'.out] at hp
  obtain ⟨vog, rfl, ownog, hbog⟩ := hp
  obtain ⟨Aog, cog, rfl, _, _⟩ := own_form ownog
  have ivog := hide (fun k hk => ownog.lt k hk)
  have ownog' := hide ownog
  clear ownog
  have ow_8 := hide (own_below ow_6.out hbog)
  have cb1_8 := hide (cb1_0.out.below' hbog)
  have bel8 := hide (bel6.out.trans (hbog.mono s6))
  have z8 := hbog.size
  have s8 := bel8.out.size
  clear hbog ow_6 cb1_0 bel6
  have og_0 := hide ownog'.out
  clear ownog'
  go_wp2_with fail
  refine (eqStringS_same _ _ R.length _ _ R _ hLm rfl (Rd.of_own og_0.out) (Rd.of_own ow_8.out)).mono ?_
  rintro e w9 ⟨rfl, hbq9⟩
  have ow_10 := hide (own_below ow_8.out hbq9)
  have cb1_10 := hide (cb1_8.out.below' hbq9)
  have og_10 := hide (own_below og_0.out hbq9)
  have bel10 := hide (bel8.out.trans (hbq9.mono s8))
  have z10 := hbq9.size
  have s10 := bel10.out.size
  clear hbq9 ow_8 cb1_8 og_0 bel8
  go_wp2_with fail
  refine (toStringS_any A1 n1 c1 l1 _ (by omega) hl1.out (w1d.below bel10.out)).mono ?_
  rintro e w11 ⟨gcc1, rfl, hgcc1, hkcc1, hbcc1⟩
  have ltcc1 := hkcc1.lt
  have hkcc1' := hide hkcc1
  clear hkcc1
  have ow_12 := hide (own_below ow_10.out hbcc1)
  have cb1_12 := hide (cb1_10.out.below' hbcc1)
  have og_12 := hide (own_below og_10.out hbcc1)
  have bel12 := hide (bel10.out.trans (hbcc1.mono s10))
  have z12 := hbcc1.size
  have s12 := bel12.out.size
  clear hbcc1 ow_10 cb1_10 og_10 bel10
  have cc1_0 := hide hkcc1'.out
  clear hkcc1'
  go_wp2_with fail
  refine (eqStringS_same _ _ n1 n1 n1 l1 _ hm1 hl1.out (rdB1'.out _ _ cb1_12.out) (rdB1'.out _ _ cc1_0.out)).mono ?_
  rintro e w13 ⟨rfl, hbq13⟩
  have ow_14 := hide (own_below ow_12.out hbq13)
  have cb1_14 := hide (cb1_12.out.below' hbq13)
  have og_14 := hide (own_below og_12.out hbq13)
  have cc1_14 := hide (cc1_0.out.below' hbq13)
  have bel14 := hide (bel12.out.trans (hbq13.mono s12))
  have z14 := hbq13.size
  have s14 := bel14.out.size
  clear hbq13 ow_12 cb1_12 og_12 cc1_0 bel12
  clear cc1_14
  go_wp2_with fail
  refine (markStringS_own gcb1 n1 n1 (1) l1 _ rfl (by omega) (by omega) hl1.out cb1_14.out).mono ?_
  rintro e w15 ⟨rfl, hgr15⟩
  have ow_15 := hide (ow_14.out.kept hgr15 (own_not' fun k hk => by have := ivow.out k hk; omega))
  have og_15 := hide (og_14.out.kept hgr15 (own_not' fun k hk => by have := ivog.out k hk; omega))
  have bel15 := hide (bel14.out.trans (below_of_only' hgr15 s14 (by omega)))
  have z15 := hgr15.size
  have s15 := bel15.out.size
  clear hgr15 ow_14 cb1_14 og_14 bel14
  go_wp2_with fail
  refine (eqStringS_same _ _ R.length _ _ R _ hLm rfl (Rd.of_own og_15.out) (Rd.of_own ow_15.out)).mono ?_
  rintro e w16 ⟨rfl, hbq16⟩
  have ow_17 := hide (own_below ow_15.out hbq16)
  have og_17 := hide (own_below og_15.out hbq16)
  have bel17 := hide (bel15.out.trans (hbq16.mono s15))
  have z17 := hbq16.size
  have s17 := bel17.out.size
  clear hbq16 ow_15 og_15 bel15
  go_wp2_with fail
  refine (markStringS_any _ R.length 1 _ R _ (by omega) (by omega) rfl og_17.out).mono ?_
  rintro e w18 ⟨rfl, hmk18, hgr18⟩
  have mk_18 := hide hmk18
  clear hmk18
  have ow_18 := hide (ow_17.out.kept hgr18 (own_apart' (fun k h1 h2 => by have := ivow.out k h1; have := ivog.out k h2; omega)))
  have bel18 := hide (bel17.out.trans (below_of_row' hgr18 s17 (fun k hk => by have := ivog.out k hk; omega)))
  have z18 := hgr18.size
  have s18 := bel18.out.size
  clear hgr18 ow_17 og_17 bel17
  go_wp2_with fail
  refine (heldStringS_any _ R.length _ 1 _ (by omega) (by omega) (Rd.of_own mk_18.out)).mono ?_
  rintro e w19 ⟨rfl, hbh19⟩
  have ow_20 := hide (own_below ow_18.out hbh19)
  have mk_20 := hide (own_below mk_18.out hbh19)
  have bel20 := hide (bel18.out.trans (hbh19.mono s18))
  have z20 := hbh19.size
  have s20 := bel20.out.size
  clear hbh19 ow_18 mk_18 bel18
  go_wp2_with fail
  refine (toStringS_any A1 n1 c1 l1 _ (by omega) hl1.out (w1d.below bel20.out)).mono ?_
  rintro e w21 ⟨gcd1, rfl, hgcd1, hkcd1, hbcd1⟩
  have ltcd1 := hkcd1.lt
  have hkcd1' := hide hkcd1
  clear hkcd1
  have ow_22 := hide (own_below ow_20.out hbcd1)
  have mk_22 := hide (own_below mk_20.out hbcd1)
  have bel22 := hide (bel20.out.trans (hbcd1.mono s20))
  have z22 := hbcd1.size
  have s22 := bel22.out.size
  clear hbcd1 ow_20 mk_20 bel20
  have cd1_0 := hide hkcd1'.out
  clear hkcd1'
  go_wp2_with fail
  refine (implParts a0 _ n1 n1 l1 _ hs0.out hm1 hl1.out hw1.out (rdB1'.out _ _ cd1_0.out)).mono ?_
  intro e w23 hp
  unfold RowS at hp
  rw [hR'.out] at hp
  obtain ⟨voh, rfl, ownoh, hboh⟩ := hp
  obtain ⟨Aoh, coh, rfl, _, _⟩ := own_form ownoh
  have ivoh := hide (fun k hk => ownoh.lt k hk)
  have ownoh' := hide ownoh
  clear ownoh
  have ow_24 := hide (own_below ow_22.out hboh)
  have mk_24 := hide (own_below mk_22.out hboh)
  have cd1_24 := hide (cd1_0.out.below' hboh)
  have bel24 := hide (bel22.out.trans (hboh.mono s22))
  have z24 := hboh.size
  have s24 := bel24.out.size
  clear hboh ow_22 mk_22 cd1_0 bel22
  have oh_0 := hide ownoh'.out
  clear ownoh'
  go_wp2_with fail
  refine (eqStringS_same _ _ R.length _ _ R _ hLm rfl (Rd.of_own oh_0.out) (Rd.of_own ow_24.out)).mono ?_
  rintro e w25 ⟨rfl, hbq25⟩
  have ow_26 := hide (own_below ow_24.out hbq25)
  have mk_26 := hide (own_below mk_24.out hbq25)
  have cd1_26 := hide (cd1_24.out.below' hbq25)
  have oh_26 := hide (own_below oh_0.out hbq25)
  have bel26 := hide (bel24.out.trans (hbq25.mono s24))
  have z26 := hbq25.size
  have s26 := bel26.out.size
  clear hbq25 ow_24 mk_24 cd1_24 oh_0 bel24
  go_wp2_with fail
  refine (heldStringS_any _ R.length _ 1 _ (by omega) (by omega) (Rd.of_own mk_26.out)).mono ?_
  rintro e w27 ⟨rfl, hbh27⟩
  have ow_28 := hide (own_below ow_26.out hbh27)
  have mk_28 := hide (own_below mk_26.out hbh27)
  have cd1_28 := hide (cd1_26.out.below' hbh27)
  have oh_28 := hide (own_below oh_26.out hbh27)
  have bel28 := hide (bel26.out.trans (hbh27.mono s26))
  have z28 := hbh27.size
  have s28 := bel28.out.size
  clear hbh27 ow_26 mk_26 cd1_26 oh_26 bel26
  go_wp2
  go_ret
  exact ⟨rfl, bel28.out⟩
end Go.Proofs.Ytgcbibabmfncmaa
