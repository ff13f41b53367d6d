/- The walk through FnExactLineItems. No condition. -/
import Derived.Test.YtocaonlmlafjmaaKCore
import Derived.Test.YtocaonlmlafjmaaKEx
import Derived.Test.YtocaonlmlafjmaaExI
import Derived.Test.YtocaonlmlafjmaaKSpec
import Derived.Test.YtocaonlmlafjmaaKLines
namespace Go.Proofs.Ytocaonlmlafjmaa
open Go.RowKit
set_option linter.unusedVariables false
set_option linter.unusedSimpArgs false

set_option maxRecDepth 100000 in
set_option maxHeartbeats 2000000 in
theorem walkFnExactLineItems (A0 : Option Addr) (n0 c0 : Nat) (l0 : List I) (a1 : Int) (a2 : Int) (w : World) (w0a : n0 ≤ c0) (w0b : c0 ≤ maxLen) (w0c : List.length l0 = n0) (w0d : Rd w 7 A0 n0 (cellsI l0)) (w1 : (Lit.int .i64 a1).wf = true) (w2 : (Lit.int .i64 a2).wf = true) :
    Calls Try.prog 20 #[.slice A0 n0 c0, .int .i64 a1, .int .i64 a2] w fun e w' => e = .returned (.bool true) ∧ Below w.heap.size w w' := by
  clear w1
  clear w2
  have hl0 := hide w0c
  have hm0 : n0 ≤ maxLen := by omega
  clear w0a w0b w0c
  have hLl := lineIts_bd l0 a1 a2
  generalize hR : toI (lineI l0 a1 a2) = R at *
  have hR' := hide hR
  clear hR
  have hLm : R.length ≤ maxLen := by unfold maxLen; omega
  have hsc0 : (cellsI l0).length = n0 * 7 := by rw [len_cellsI, hl0.out]
  have rdB0 : ∀ (W : World) (g : Nat), Blk W g 29 (cellsI l0).toArray → Rd W 7 (some ⟨g, 0, none⟩) n0 (cellsI l0) := fun W g hb => Rd.of_blk hb hsc0
  have rdB0' := hide rdB0
  clear rdB0 hsc0
  go_enter Try.func20, Try.ntmps20
  have bel0 := hide (Below.refl w.heap.size w)
  have s0 := Nat.le_refl w.heap.size
  go_wp2_with fail
  refine (szItemS_any A0 n0 c0 _ hm0).mono ?_
  rintro e w' ⟨rfl, rfl⟩
  by_cases hqm0 : 1048576 < n0
  · rw [if_neg (by omega)]
    go_wp2
    go_ret
    exact ⟨rfl, Below.refl _ _⟩
  have hqn0 : n0 ≤ 1048576 := by omega
  rw [if_pos hqn0]
  clear hqm0
  have hdz0 : decide (1048576 - (n0 : Int) < 0) = false := decide_eq_false (by omega)
  go_wp2_with fail
  refine (toItemS_any A0 n0 c0 l0 _ (by omega) hl0.out (w0d.below bel0.out)).mono ?_
  rintro e w1 ⟨gca0, rfl, hgca0, hkca0, hbca0⟩
  have ltca0 := hkca0.lt
  have hkca0' := hide hkca0
  clear hkca0
  have bel2 := hide (bel0.out.trans (hbca0.mono s0))
  have z2 := hbca0.size
  have s2 := bel2.out.size
  clear hbca0  bel0
  have ca0_0 := hide hkca0'.out
  clear hkca0'
  go_wp2_with fail
  refine (specLineIts _ n0 n0 l0 a1 a2 _ hm0 hl0.out (rdB0'.out _ _ ca0_0.out)).mono ?_
  intro e w3 hp
  unfold RowB at hp
  rw [hR'.out] at hp
  obtain ⟨vow, rfl, ownow, hbow⟩ := hp
  obtain ⟨Aow, cow, rfl, _, _⟩ := own_form ownow
  have ivow := hide (fun k hk => ownow.lt k hk)
  have ownow' := hide ownow
  clear ownow
  have ca0_4 := hide (ca0_0.out.below' hbow)
  have bel4 := hide (bel2.out.trans (hbow.mono s2))
  have z4 := hbow.size
  have s4 := bel4.out.size
  clear hbow ca0_0 bel2
  have ow_0 := hide ownow'.out
  clear ownow'
  clear ca0_4
  go_wp2_with fail
  refine (toItemS_any A0 n0 c0 l0 _ (by omega) hl0.out (w0d.below bel4.out)).mono ?_
  rintro e w5 ⟨gcb0, rfl, hgcb0, hkcb0, hbcb0⟩
  have ltcb0 := hkcb0.lt
  have hkcb0' := hide hkcb0
  clear hkcb0
  have ow_6 := hide (own_below ow_0.out hbcb0)
  have bel6 := hide (bel4.out.trans (hbcb0.mono s4))
  have z6 := hbcb0.size
  have s6 := bel6.out.size
  clear hbcb0 ow_0 bel4
  have cb0_0 := hide hkcb0'.out
  clear hkcb0'
  go_wp2_with fail
  refine (implLineIts _ n0 n0 l0 a1 a2 _ hm0 hl0.out (rdB0'.out _ _ cb0_0.out)).mono ?_
  intro e w7 hp
  unfold RowB at hp
  rw [hR'.out] at hp
  obtain ⟨vog, rfl, ownog, hbog⟩ := hp
  obtain ⟨Aog, cog, rfl, _, _⟩ := own_form ownog
  have ivog := hide (fun k hk => ownog.lt k hk)
  have ownog' := hide ownog
  clear ownog
  have ow_8 := hide (own_below ow_6.out hbog)
  have cb0_8 := hide (cb0_0.out.below' hbog)
  have bel8 := hide (bel6.out.trans (hbog.mono s6))
  have z8 := hbog.size
  have s8 := bel8.out.size
  clear hbog ow_6 cb0_0 bel6
  have og_0 := hide ownog'.out
  clear ownog'
  go_wp2_with fail
  refine (eqIntS_same _ _ R.length _ _ R _ hLm rfl (Rd.of_own og_0.out) (Rd.of_own ow_8.out)).mono ?_
  rintro e w9 ⟨rfl, hbq9⟩
  have ow_10 := hide (own_below ow_8.out hbq9)
  have cb0_10 := hide (cb0_8.out.below' hbq9)
  have og_10 := hide (own_below og_0.out hbq9)
  have bel10 := hide (bel8.out.trans (hbq9.mono s8))
  have z10 := hbq9.size
  have s10 := bel10.out.size
  clear hbq9 ow_8 cb0_8 og_0 bel8
  go_wp2_with fail
  refine (toItemS_any A0 n0 c0 l0 _ (by omega) hl0.out (w0d.below bel10.out)).mono ?_
  rintro e w11 ⟨gcc0, rfl, hgcc0, hkcc0, hbcc0⟩
  have ltcc0 := hkcc0.lt
  have hkcc0' := hide hkcc0
  clear hkcc0
  have ow_12 := hide (own_below ow_10.out hbcc0)
  have cb0_12 := hide (cb0_10.out.below' hbcc0)
  have og_12 := hide (own_below og_10.out hbcc0)
  have bel12 := hide (bel10.out.trans (hbcc0.mono s10))
  have z12 := hbcc0.size
  have s12 := bel12.out.size
  clear hbcc0 ow_10 cb0_10 og_10 bel10
  have cc0_0 := hide hkcc0'.out
  clear hkcc0'
  go_wp2_with fail
  refine (eqItemS_same _ _ n0 n0 n0 l0 _ hm0 hl0.out (rdB0'.out _ _ cb0_12.out) (rdB0'.out _ _ cc0_0.out)).mono ?_
  rintro e w13 ⟨rfl, hbq13⟩
  have ow_14 := hide (own_below ow_12.out hbq13)
  have cb0_14 := hide (cb0_12.out.below' hbq13)
  have og_14 := hide (own_below og_12.out hbq13)
  have cc0_14 := hide (cc0_0.out.below' hbq13)
  have bel14 := hide (bel12.out.trans (hbq13.mono s12))
  have z14 := hbq13.size
  have s14 := bel14.out.size
  clear hbq13 ow_12 cb0_12 og_12 cc0_0 bel12
  clear cc0_14
  go_wp2_with fail
  refine (markItemS_own gcb0 n0 n0 (1) l0 _ rfl (by omega) (by omega) hl0.out cb0_14.out).mono ?_
  rintro e w15 ⟨rfl, hgr15⟩
  have ow_15 := hide (ow_14.out.kept hgr15 (own_not' fun k hk => by have := ivow.out k hk; omega))
  have og_15 := hide (og_14.out.kept hgr15 (own_not' fun k hk => by have := ivog.out k hk; omega))
  have bel15 := hide (bel14.out.trans (below_of_only' hgr15 s14 (by omega)))
  have z15 := hgr15.size
  have s15 := bel15.out.size
  clear hgr15 ow_14 cb0_14 og_14 bel14
  go_wp2_with fail
  refine (eqIntS_same _ _ R.length _ _ R _ hLm rfl (Rd.of_own og_15.out) (Rd.of_own ow_15.out)).mono ?_
  rintro e w16 ⟨rfl, hbq16⟩
  have ow_17 := hide (own_below ow_15.out hbq16)
  have og_17 := hide (own_below og_15.out hbq16)
  have bel17 := hide (bel15.out.trans (hbq16.mono s15))
  have z17 := hbq16.size
  have s17 := bel17.out.size
  clear hbq16 ow_15 og_15 bel15
  go_wp2_with fail
  refine (markIntS_any _ R.length 1 _ R _ (by omega) (by omega) rfl og_17.out).mono ?_
  rintro e w18 ⟨rfl, hmk18, hgr18⟩
  have mk_18 := hide hmk18
  clear hmk18
  have ow_18 := hide (ow_17.out.kept hgr18 (own_apart' (fun k h1 h2 => by have := ivow.out k h1; have := ivog.out k h2; omega)))
  have bel18 := hide (bel17.out.trans (below_of_row' hgr18 s17 (fun k hk => by have := ivog.out k hk; omega)))
  have z18 := hgr18.size
  have s18 := bel18.out.size
  clear hgr18 ow_17 og_17 bel17
  go_wp2_with fail
  refine (heldIntS_any _ R.length _ 1 _ (by omega) (by omega) (Rd.of_own mk_18.out)).mono ?_
  rintro e w19 ⟨rfl, rfl⟩
  go_wp2_with fail
  refine (toItemS_any A0 n0 c0 l0 _ (by omega) hl0.out (w0d.below bel18.out)).mono ?_
  rintro e w20 ⟨gcd0, rfl, hgcd0, hkcd0, hbcd0⟩
  have ltcd0 := hkcd0.lt
  have hkcd0' := hide hkcd0
  clear hkcd0
  have ow_21 := hide (own_below ow_18.out hbcd0)
  have mk_21 := hide (own_below mk_18.out hbcd0)
  have bel21 := hide (bel18.out.trans (hbcd0.mono s18))
  have z21 := hbcd0.size
  have s21 := bel21.out.size
  clear hbcd0 ow_18 mk_18 bel18
  have cd0_0 := hide hkcd0'.out
  clear hkcd0'
  go_wp2_with fail
  refine (implLineIts _ n0 n0 l0 a1 a2 _ hm0 hl0.out (rdB0'.out _ _ cd0_0.out)).mono ?_
  intro e w22 hp
  unfold RowB at hp
  rw [hR'.out] at hp
  obtain ⟨voh, rfl, ownoh, hboh⟩ := hp
  obtain ⟨Aoh, coh, rfl, _, _⟩ := own_form ownoh
  have ivoh := hide (fun k hk => ownoh.lt k hk)
  have ownoh' := hide ownoh
  clear ownoh
  have ow_23 := hide (own_below ow_21.out hboh)
  have mk_23 := hide (own_below mk_21.out hboh)
  have cd0_23 := hide (cd0_0.out.below' hboh)
  have bel23 := hide (bel21.out.trans (hboh.mono s21))
  have z23 := hboh.size
  have s23 := bel23.out.size
  clear hboh ow_21 mk_21 cd0_0 bel21
  have oh_0 := hide ownoh'.out
  clear ownoh'
  go_wp2_with fail
  refine (eqIntS_same _ _ R.length _ _ R _ hLm rfl (Rd.of_own oh_0.out) (Rd.of_own ow_23.out)).mono ?_
  rintro e w24 ⟨rfl, hbq24⟩
  have ow_25 := hide (own_below ow_23.out hbq24)
  have mk_25 := hide (own_below mk_23.out hbq24)
  have cd0_25 := hide (cd0_23.out.below' hbq24)
  have oh_25 := hide (own_below oh_0.out hbq24)
  have bel25 := hide (bel23.out.trans (hbq24.mono s23))
  have z25 := hbq24.size
  have s25 := bel25.out.size
  clear hbq24 ow_23 mk_23 cd0_23 oh_0 bel23
  go_wp2_with fail
  refine (heldIntS_any _ R.length _ 1 _ (by omega) (by omega) (Rd.of_own mk_25.out)).mono ?_
  rintro e w26 ⟨rfl, rfl⟩
  go_wp2
  go_ret
  exact ⟨rfl, bel25.out⟩
end Go.Proofs.Ytocaonlmlafjmaa
