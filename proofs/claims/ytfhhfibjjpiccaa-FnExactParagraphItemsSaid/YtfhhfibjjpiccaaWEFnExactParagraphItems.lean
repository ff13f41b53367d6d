/- The walk through FnExactParagraphItems. No condition. -/
import Derived.Test.YtfhhfibjjpiccaaArgs
import Derived.Test.YtfhhfibjjpiccaaExN
import Derived.Test.YtfhhfibjjpiccaaExI
import Derived.Test.YtfhhfibjjpiccaaMarkS
import Derived.Test.YtfhhfibjjpiccaaMarkO
import Derived.Test.YtfhhfibjjpiccaaPar3
import Derived.Test.YtfhhfibjjpiccaaApart
namespace Go.Proofs.Ytfhhfibjjpiccaa
open Go.RowKit
set_option linter.unusedVariables false
set_option linter.unusedSimpArgs false

theorem parR_bd (W l : List ByteArray) : (parR W l).length ≤ 60 := by
  cases h : parB W l with
  | false => rw [parR_no h]; simp
  | true => rw [parR_yes h]; exact parB_len h
set_option maxRecDepth 100000 in
set_option maxHeartbeats 2000000 in
theorem walkFnExactParagraphItems (A0 : Option Addr) (n0 c0 : Nat) (l0 : List ByteArray) (A1 : Option Addr) (n1 c1 : Nat) (l1 : List ByteArray) (w : World) (w0a : n0 ≤ c0) (w0b : c0 ≤ maxLen) (w0c : List.length l0 = n0) (w0d : Rd w 1 A0 n0 (cellsS l0)) (w0e : ∀ s ∈ l0, s.size ≤ maxLen) (w1a : n1 ≤ c1) (w1b : c1 ≤ maxLen) (w1c : List.length l1 = n1) (w1d : Rd w 1 A1 n1 (cellsS l1)) (w1e : ∀ s ∈ l1, s.size ≤ maxLen) :
    Calls Try.prog 11 #[.slice A0 n0 c0, .slice A1 n1 c1] w fun e w' => e = .returned (.bool true) ∧ Below w.heap.size w w' := by
  have hl0 := hide w0c
  have hm0 : n0 ≤ maxLen := by omega
  have hw0 := hide w0e
  have hsz0 := hide (fun W m (hr : Rd W 1 A0 n0 (cellsS l0)) h1 h2 => szStringS_any A0 n0 c0 l0 W m hm0 hl0.out hw0.out hr h1 h2)
  clear w0a w0b w0c w0e
  have hl1 := hide w1c
  have hm1 : n1 ≤ maxLen := by omega
  have hw1 := hide w1e
  have hsz1 := hide (fun W m (hr : Rd W 1 A1 n1 (cellsS l1)) h1 h2 => szStringS_any A1 n1 c1 l1 W m hm1 hl1.out hw1.out hr h1 h2)
  clear w1a w1b w1c w1e
  have hLl := parR_bd l0 l1
  generalize hR : parR l0 l1 = R at *
  have hR' := hide hR
  clear hR
  generalize hB : parB l0 l1 = bb at *
  have hB' := hide hB
  clear hB
  have hbb : (bb != bb) = false := by cases bb <;> rfl
  have hLm : R.length ≤ maxLen := by unfold maxLen; omega
  have hsc0 : (cellsS l0).length = n0 * 1 := by rw [len_cellsS, hl0.out]
  have rdB0 : ∀ (W : World) (g : Nat), Blk W g 9 (cellsS l0).toArray → Rd W 1 (some ⟨g, 0, none⟩) n0 (cellsS l0) := fun W g hb => Rd.of_blk hb hsc0
  have rdB0' := hide rdB0
  clear rdB0 hsc0
  have hsc1 : (cellsS l1).length = n1 * 1 := by rw [len_cellsS, hl1.out]
  have rdB1 : ∀ (W : World) (g : Nat), Blk W g 9 (cellsS l1).toArray → Rd W 1 (some ⟨g, 0, none⟩) n1 (cellsS l1) := fun W g hb => Rd.of_blk hb hsc1
  have rdB1' := hide rdB1
  clear rdB1 hsc1
  go_enter Try.func11, Try.ntmps11
  have bel0 := hide (Below.refl w.heap.size w)
  have s0 := Nat.le_refl w.heap.size
  go_wp2_with fail
  refine (hsz0.out _ (1048576) w0d (by omega) (by omega)).mono ?_
  rintro e w' ⟨r0, rfl, hr0, hq0, rfl⟩
  have hq0' := hide hq0
  clear hq0
  by_cases hz0 : r0 < 0
  · have hd : decide (r0 < 0) = true := by simpa using hz0
    go_wp2
    go_ret
    exact ⟨rfl, Below.refl _ _⟩
  have hdz0 : decide (r0 < 0) = false := by simp; omega
  have hqn0 := hq0'.out (by omega)
  go_wp2_with fail
  refine (hsz1.out _ (r0) w1d (by omega) (by omega)).mono ?_
  rintro e w' ⟨r1, rfl, hr1, hq1, rfl⟩
  have hq1' := hide hq1
  clear hq1
  by_cases hz1 : r1 < 0
  · have hd : decide (r1 < 0) = true := by simpa using hz1
    go_wp2
    go_ret
    exact ⟨rfl, Below.refl _ _⟩
  have hdz1 : decide (r1 < 0) = false := by simp; omega
  have hqn1 := hq1'.out (by omega)
  go_wp2_with fail
  refine (toStringS_any A0 n0 c0 l0 _ (by omega) hl0.out (w0d.below bel0.out)).mono ?_
  rintro e w1 ⟨gca0, rfl, hgca0, hkca0, hbca0⟩
  have ltca0 := hkca0.lt
  have hkca0' := hide hkca0
  clear hkca0
  have bel2 := hide (bel0.out.trans (hbca0.mono s0))
  have z2 := hbca0.size
  have s2 := bel2.out.size
  clear hbca0  bel0
  have ca0_0 := hide hkca0'.out
  clear hkca0'
  go_wp2_with fail
  refine (toStringS_any A1 n1 c1 l1 _ (by omega) hl1.out (w1d.below bel2.out)).mono ?_
  rintro e w3 ⟨gca1, rfl, hgca1, hkca1, hbca1⟩
  have ltca1 := hkca1.lt
  have hkca1' := hide hkca1
  clear hkca1
  have ca0_4 := hide (ca0_0.out.below' hbca1)
  have bel4 := hide (bel2.out.trans (hbca1.mono s2))
  have z4 := hbca1.size
  have s4 := bel4.out.size
  clear hbca1 ca0_0 bel2
  have ca1_0 := hide hkca1'.out
  clear hkca1'
  go_wp2_with fail
  refine (specPar _ n0 n0 l0 _ n1 n1 l1 _ hm0 hl0.out hw0.out (rdB0'.out _ _ ca0_4.out) hm1 hl1.out hw1.out (rdB1'.out _ _ ca1_0.out)).mono ?_
  intro e w5 hp
  unfold ParP at hp
  rw [hR'.out, hB'.out] at hp
  obtain ⟨vow, rfl, ownow, hbow⟩ := hp
  obtain ⟨Aow, cow, rfl, _, _⟩ := own_form ownow
  have ivow := hide (fun k hk => ownow.lt k hk)
  have ownow' := hide ownow
  clear ownow
  have ca0_6 := hide (ca0_4.out.below' hbow)
  have ca1_6 := hide (ca1_0.out.below' hbow)
  have bel6 := hide (bel4.out.trans (hbow.mono s4))
  have z6 := hbow.size
  have s6 := bel6.out.size
  clear hbow ca0_4 ca1_0 bel4
  have ow_0 := hide ownow'.out
  clear ownow'
  clear ca0_6
  clear ca1_6
  go_wp2_with fail
  refine (toStringS_any A0 n0 c0 l0 _ (by omega) hl0.out (w0d.below bel6.out)).mono ?_
  rintro e w7 ⟨gcb0, rfl, hgcb0, hkcb0, hbcb0⟩
  have ltcb0 := hkcb0.lt
  have hkcb0' := hide hkcb0
  clear hkcb0
  have ow_8 := hide (own_below ow_0.out hbcb0)
  have bel8 := hide (bel6.out.trans (hbcb0.mono s6))
  have z8 := hbcb0.size
  have s8 := bel8.out.size
  clear hbcb0 ow_0 bel6
  have cb0_0 := hide hkcb0'.out
  clear hkcb0'
  go_wp2_with fail
  refine (toStringS_any A1 n1 c1 l1 _ (by omega) hl1.out (w1d.below bel8.out)).mono ?_
  rintro e w9 ⟨gcb1, rfl, hgcb1, hkcb1, hbcb1⟩
  have ltcb1 := hkcb1.lt
  have hkcb1' := hide hkcb1
  clear hkcb1
  have ow_10 := hide (own_below ow_8.out hbcb1)
  have cb0_10 := hide (cb0_0.out.below' hbcb1)
  have bel10 := hide (bel8.out.trans (hbcb1.mono s8))
  have z10 := hbcb1.size
  have s10 := bel10.out.size
  clear hbcb1 ow_8 cb0_0 bel8
  have cb1_0 := hide hkcb1'.out
  clear hkcb1'
  go_wp2_with fail
  refine (implPar _ n0 n0 l0 _ n1 n1 l1 _ hm0 hl0.out hw0.out (rdB0'.out _ _ cb0_10.out) hm1 hl1.out hw1.out (rdB1'.out _ _ cb1_0.out)).mono ?_
  intro e w11 hp
  unfold ParP at hp
  rw [hR'.out, hB'.out] at hp
  obtain ⟨vog, rfl, ownog, hbog⟩ := hp
  obtain ⟨Aog, cog, rfl, _, _⟩ := own_form ownog
  have ivog := hide (fun k hk => ownog.lt k hk)
  have ownog' := hide ownog
  clear ownog
  have ow_12 := hide (own_below ow_10.out hbog)
  have cb0_12 := hide (cb0_10.out.below' hbog)
  have cb1_12 := hide (cb1_0.out.below' hbog)
  have bel12 := hide (bel10.out.trans (hbog.mono s10))
  have z12 := hbog.size
  have s12 := bel12.out.size
  clear hbog ow_10 cb0_10 cb1_0 bel10
  have og_0 := hide ownog'.out
  clear ownog'
  go_wp2_with fail
  refine (eqItemS_same _ _ R.length _ _ R _ hLm rfl (Rd.of_own og_0.out) (Rd.of_own ow_12.out)).mono ?_
  rintro e w13 ⟨rfl, hbq13⟩
  have ow_14 := hide (own_below ow_12.out hbq13)
  have cb0_14 := hide (cb0_12.out.below' hbq13)
  have cb1_14 := hide (cb1_12.out.below' hbq13)
  have og_14 := hide (own_below og_0.out hbq13)
  have bel14 := hide (bel12.out.trans (hbq13.mono s12))
  have z14 := hbq13.size
  have s14 := bel14.out.size
  clear hbq13 ow_12 cb0_12 cb1_12 og_0 bel12
  go_wp2_with fail
  refine (toStringS_any A0 n0 c0 l0 _ (by omega) hl0.out (w0d.below bel14.out)).mono ?_
  rintro e w15 ⟨gcc0, rfl, hgcc0, hkcc0, hbcc0⟩
  have ltcc0 := hkcc0.lt
  have hkcc0' := hide hkcc0
  clear hkcc0
  have ow_16 := hide (own_below ow_14.out hbcc0)
  have cb0_16 := hide (cb0_14.out.below' hbcc0)
  have cb1_16 := hide (cb1_14.out.below' hbcc0)
  have og_16 := hide (own_below og_14.out hbcc0)
  have bel16 := hide (bel14.out.trans (hbcc0.mono s14))
  have z16 := hbcc0.size
  have s16 := bel16.out.size
  clear hbcc0 ow_14 cb0_14 cb1_14 og_14 bel14
  have cc0_0 := hide hkcc0'.out
  clear hkcc0'
  go_wp2_with fail
  refine (eqStringS_same _ _ n0 n0 n0 l0 _ hm0 hl0.out (rdB0'.out _ _ cb0_16.out) (rdB0'.out _ _ cc0_0.out)).mono ?_
  rintro e w17 ⟨rfl, hbq17⟩
  have ow_18 := hide (own_below ow_16.out hbq17)
  have cb0_18 := hide (cb0_16.out.below' hbq17)
  have cb1_18 := hide (cb1_16.out.below' hbq17)
  have og_18 := hide (own_below og_16.out hbq17)
  have cc0_18 := hide (cc0_0.out.below' hbq17)
  have bel18 := hide (bel16.out.trans (hbq17.mono s16))
  have z18 := hbq17.size
  have s18 := bel18.out.size
  clear hbq17 ow_16 cb0_16 cb1_16 og_16 cc0_0 bel16
  clear cc0_18
  go_wp2_with fail
  refine (toStringS_any A1 n1 c1 l1 _ (by omega) hl1.out (w1d.below bel18.out)).mono ?_
  rintro e w19 ⟨gcc1, rfl, hgcc1, hkcc1, hbcc1⟩
  have ltcc1 := hkcc1.lt
  have hkcc1' := hide hkcc1
  clear hkcc1
  have ow_20 := hide (own_below ow_18.out hbcc1)
  have cb0_20 := hide (cb0_18.out.below' hbcc1)
  have cb1_20 := hide (cb1_18.out.below' hbcc1)
  have og_20 := hide (own_below og_18.out hbcc1)
  have bel20 := hide (bel18.out.trans (hbcc1.mono s18))
  have z20 := hbcc1.size
  have s20 := bel20.out.size
  clear hbcc1 ow_18 cb0_18 cb1_18 og_18 bel18
  have cc1_0 := hide hkcc1'.out
  clear hkcc1'
  go_wp2_with fail
  refine (eqStringS_same _ _ n1 n1 n1 l1 _ hm1 hl1.out (rdB1'.out _ _ cb1_20.out) (rdB1'.out _ _ cc1_0.out)).mono ?_
  rintro e w21 ⟨rfl, hbq21⟩
  have ow_22 := hide (own_below ow_20.out hbq21)
  have cb0_22 := hide (cb0_20.out.below' hbq21)
  have cb1_22 := hide (cb1_20.out.below' hbq21)
  have og_22 := hide (own_below og_20.out hbq21)
  have cc1_22 := hide (cc1_0.out.below' hbq21)
  have bel22 := hide (bel20.out.trans (hbq21.mono s20))
  have z22 := hbq21.size
  have s22 := bel22.out.size
  clear hbq21 ow_20 cb0_20 cb1_20 og_20 cc1_0 bel20
  clear cc1_22
  go_wp2_with fail
  refine (markStringS_own gcb0 n0 n0 (1) l0 _ rfl (by omega) (by omega) hl0.out cb0_22.out).mono ?_
  rintro e w23 ⟨rfl, hgr23⟩
  have ow_23 := hide (ow_22.out.kept hgr23 (own_not' fun k hk => by have := ivow.out k hk; omega))
  have cb1_23 := hide (cb1_22.out.grown hgr23 (fun e => by injection e with e; omega))
  have og_23 := hide (og_22.out.kept hgr23 (own_not' fun k hk => by have := ivog.out k hk; omega))
  have bel23 := hide (bel22.out.trans (below_of_only' hgr23 s22 (by omega)))
  have z23 := hgr23.size
  have s23 := bel23.out.size
  clear hgr23 ow_22 cb0_22 cb1_22 og_22 bel22
  go_wp2_with fail
  refine (markStringS_own gcb1 n1 n1 (1 + n0) l1 _ rfl (by omega) (by omega) hl1.out cb1_23.out).mono ?_
  rintro e w24 ⟨rfl, hgr24⟩
  have ow_24 := hide (ow_23.out.kept hgr24 (own_not' fun k hk => by have := ivow.out k hk; omega))
  have og_24 := hide (og_23.out.kept hgr24 (own_not' fun k hk => by have := ivog.out k hk; omega))
  have bel24 := hide (bel23.out.trans (below_of_only' hgr24 s23 (by omega)))
  have z24 := hgr24.size
  have s24 := bel24.out.size
  clear hgr24 ow_23 cb1_23 og_23 bel23
  go_wp2_with fail
  refine (eqItemS_same _ _ R.length _ _ R _ hLm rfl (Rd.of_own og_24.out) (Rd.of_own ow_24.out)).mono ?_
  rintro e w25 ⟨rfl, hbq25⟩
  have ow_26 := hide (own_below ow_24.out hbq25)
  have og_26 := hide (own_below og_24.out hbq25)
  have bel26 := hide (bel24.out.trans (hbq25.mono s24))
  have z26 := hbq25.size
  have s26 := bel26.out.size
  clear hbq25 ow_24 og_24 bel24
  go_wp2_with fail
  refine (markItemS_any _ R.length 1 _ R _ (by omega) (by omega) rfl og_26.out).mono ?_
  rintro e w27 ⟨rfl, hmk27, hgr27⟩
  have mk_27 := hide hmk27
  clear hmk27
  have ow_27 := hide (ow_26.out.kept hgr27 (own_apart' (fun k h1 h2 => by have := ivow.out k h1; have := ivog.out k h2; omega)))
  have bel27 := hide (bel26.out.trans (below_of_row' hgr27 s26 (fun k hk => by have := ivog.out k hk; omega)))
  have z27 := hgr27.size
  have s27 := bel27.out.size
  clear hgr27 ow_26 og_26 bel26
  go_wp2_with fail
  refine (heldItemS_any _ R.length _ 1 _ (by omega) (by omega) (Rd.of_own mk_27.out)).mono ?_
  rintro e w28 ⟨rfl, hbh28⟩
  have ow_29 := hide (own_below ow_27.out hbh28)
  have mk_29 := hide (own_below mk_27.out hbh28)
  have bel29 := hide (bel27.out.trans (hbh28.mono s27))
  have z29 := hbh28.size
  have s29 := bel29.out.size
  clear hbh28 ow_27 mk_27 bel27
  go_wp2_with fail
  refine (toStringS_any A0 n0 c0 l0 _ (by omega) hl0.out (w0d.below bel29.out)).mono ?_
  rintro e w30 ⟨gcd0, rfl, hgcd0, hkcd0, hbcd0⟩
  have ltcd0 := hkcd0.lt
  have hkcd0' := hide hkcd0
  clear hkcd0
  have ow_31 := hide (own_below ow_29.out hbcd0)
  have mk_31 := hide (own_below mk_29.out hbcd0)
  have bel31 := hide (bel29.out.trans (hbcd0.mono s29))
  have z31 := hbcd0.size
  have s31 := bel31.out.size
  clear hbcd0 ow_29 mk_29 bel29
  have cd0_0 := hide hkcd0'.out
  clear hkcd0'
  go_wp2_with fail
  refine (toStringS_any A1 n1 c1 l1 _ (by omega) hl1.out (w1d.below bel31.out)).mono ?_
  rintro e w32 ⟨gcd1, rfl, hgcd1, hkcd1, hbcd1⟩
  have ltcd1 := hkcd1.lt
  have hkcd1' := hide hkcd1
  clear hkcd1
  have ow_33 := hide (own_below ow_31.out hbcd1)
  have mk_33 := hide (own_below mk_31.out hbcd1)
  have cd0_33 := hide (cd0_0.out.below' hbcd1)
  have bel33 := hide (bel31.out.trans (hbcd1.mono s31))
  have z33 := hbcd1.size
  have s33 := bel33.out.size
  clear hbcd1 ow_31 mk_31 cd0_0 bel31
  have cd1_0 := hide hkcd1'.out
  clear hkcd1'
  go_wp2_with fail
  refine (implPar _ n0 n0 l0 _ n1 n1 l1 _ hm0 hl0.out hw0.out (rdB0'.out _ _ cd0_33.out) hm1 hl1.out hw1.out (rdB1'.out _ _ cd1_0.out)).mono ?_
  intro e w34 hp
  unfold ParP at hp
  rw [hR'.out, hB'.out] at hp
  obtain ⟨voh, rfl, ownoh, hboh⟩ := hp
  obtain ⟨Aoh, coh, rfl, _, _⟩ := own_form ownoh
  have ivoh := hide (fun k hk => ownoh.lt k hk)
  have ownoh' := hide ownoh
  clear ownoh
  have ow_35 := hide (own_below ow_33.out hboh)
  have mk_35 := hide (own_below mk_33.out hboh)
  have cd0_35 := hide (cd0_33.out.below' hboh)
  have cd1_35 := hide (cd1_0.out.below' hboh)
  have bel35 := hide (bel33.out.trans (hboh.mono s33))
  have z35 := hboh.size
  have s35 := bel35.out.size
  clear hboh ow_33 mk_33 cd0_33 cd1_0 bel33
  have oh_0 := hide ownoh'.out
  clear ownoh'
  go_wp2_with fail
  refine (eqItemS_same _ _ R.length _ _ R _ hLm rfl (Rd.of_own oh_0.out) (Rd.of_own ow_35.out)).mono ?_
  rintro e w36 ⟨rfl, hbq36⟩
  have ow_37 := hide (own_below ow_35.out hbq36)
  have mk_37 := hide (own_below mk_35.out hbq36)
  have cd0_37 := hide (cd0_35.out.below' hbq36)
  have cd1_37 := hide (cd1_35.out.below' hbq36)
  have oh_37 := hide (own_below oh_0.out hbq36)
  have bel37 := hide (bel35.out.trans (hbq36.mono s35))
  have z37 := hbq36.size
  have s37 := bel37.out.size
  clear hbq36 ow_35 mk_35 cd0_35 cd1_35 oh_0 bel35
  go_wp2_with fail
  refine (heldItemS_any _ R.length _ 1 _ (by omega) (by omega) (Rd.of_own mk_37.out)).mono ?_
  rintro e w38 ⟨rfl, hbh38⟩
  have ow_39 := hide (own_below ow_37.out hbh38)
  have mk_39 := hide (own_below mk_37.out hbh38)
  have cd0_39 := hide (cd0_37.out.below' hbh38)
  have cd1_39 := hide (cd1_37.out.below' hbh38)
  have oh_39 := hide (own_below oh_37.out hbh38)
  have bel39 := hide (bel37.out.trans (hbh38.mono s37))
  have z39 := hbh38.size
  have s39 := bel39.out.size
  clear hbh38 ow_37 mk_37 cd0_37 cd1_37 oh_37 bel37
  go_wp2
  go_ret
  exact ⟨rfl, bel39.out⟩
end Go.Proofs.Ytfhhfibjjpiccaa
