/- The walk through the exact law of set glues. No condition. -/
import Derived.Test.YtoiacijjbehioaaArgs
import Derived.Test.YtoiacijjbehioaaExG
import Derived.Test.YtoiacijjbehioaaExN
import Derived.Test.YtoiacijjbehioaaMarkG
import Derived.Test.YtoiacijjbehioaaSetBoth
namespace Go.Proofs.Ytoiacijjbehioaa
open Go.RowKit
set_option linter.unusedVariables false
set_option linter.unusedSimpArgs false

theorem sg_len (l : List G) (width : Int) : (SG l width).1.length ≤ l.length := by
  unfold SG
  split
  · exact Nat.le_of_eq (setList_len _ _)
  · simp
theorem own_apart {a b : Value} {B : Nat} (ha : ∀ k, a.ownBlock = some k → k < B) (hb : ∀ k, b.ownBlock = some k → B ≤ k) : a.ownBlock = none ∨ a.ownBlock ≠ b.ownBlock := by
  cases h : a.ownBlock with
  | none => exact .inl rfl
  | some k =>
    refine .inr fun e => ?_
    have h1 := ha k h
    have h2 := hb k e.symm
    omega
theorem own_not {a : Value} {g : Nat} (ha : ∀ k, a.ownBlock = some k → k ≠ g) : a.ownBlock = none ∨ a.ownBlock ≠ some g := by
  cases h : a.ownBlock with
  | none => exact .inl rfl
  | some k => exact .inr fun e => ha k h (Option.some.inj e)
theorem below_of_only {a b : World} {B g : Nat} (h : a.grownBy b (some g)) (hB : B ≤ a.heap.size) (hg : B ≤ g) : Below B a b := Below.only (Below.refl _ _) h hB hg
theorem below_of_row {a b : World} {B : Nat} {v : Value} (h : a.grownBy b v.ownBlock) (hB : B ≤ a.heap.size) (hg : ∀ k, v.ownBlock = some k → B ≤ k) : Below B a b := (Below.refl _ _).grown h hB hg

set_option maxRecDepth 100000 in
set_option maxHeartbeats 2000000 in
theorem walkFnExactSetGlues (A0 : Option Addr) (n0 c0 : Nat) (l0 : List G) (a1 : Int) (w : World) (w0a : n0 ≤ c0) (w0b : c0 ≤ maxLen) (w0c : List.length l0 = n0) (w0d : Rd w 4 A0 n0 (cellsG l0)) (w1 : (Lit.int .i64 a1).wf = true) :
    Calls Try.prog 9 #[.slice A0 n0 c0, .int .i64 a1] w fun e w' => e = .returned (.bool true) ∧ Below w.heap.size w w' := by
  have hsz := szGlueS_any A0 n0 c0 w (by omega)
  have hl := hide w0c
  have hm : n0 ≤ maxLen := by omega
  clear w0a w0b w0c w1
  by_cases hn : n0 ≤ 1048576
  · rw [if_pos hn] at hsz
    have hsz' := hide hsz
    have hLl := sg_len l0 a1
    have hL1 : (SG l0 a1).1.length ≤ 1048576 := by have := hl.out; omega
    have hLm : (SG l0 a1).1.length ≤ maxLen := by unfold maxLen; omega
    have hlen : ∀ xs : List G, xs = l0 → (cellsG xs).length = n0 * 4 := fun xs hx => by rw [hx, len_cellsG, hl.out]
    have hlen' := hide hlen
    generalize hR : (SG l0 a1).1 = R at *
    generalize hO : (SG l0 a1).2 = ok at *
    have hR' := hide hR
    have hO' := hide hO
    clear hsz hR hO hLl hlen
    have rdB : ∀ (W : World) (g : Nat), Blk W g 26 (cellsG l0).toArray → Rd W 4 (some ⟨g, 0, none⟩) n0 (cellsG l0) := fun W g hb => Rd.of_blk hb (hlen'.out l0 rfl)
    have rdB' := hide rdB
    clear rdB
    go_enter Try.func9, Try.ntmps9
    go_wp2_with fail
    refine (hsz'.out).mono ?_
    rintro e w1 ⟨rfl, rfl⟩
    go_wp2_with fail
    refine (toGlueS_any A0 n0 c0 l0 _ hn hl.out w0d).mono ?_
    rintro e w1 ⟨g1, rfl, hg1, hk1, hb1⟩
    go_wp2_with fail
    refine (specSG _ n0 n0 l0 a1 _ hm hl.out (rdB'.out _ _ hk1)).mono ?_
    intro e w2 hp
    unfold SGPost at hp
    rw [hR'.out, hO'.out] at hp
    obtain ⟨v0, rfl, own0, hb2⟩ := hp
    obtain ⟨A2, c2, rfl, _, _⟩ := own_form own0
    have bel2 := hide (hb1.trans (hb2.mono hb1.size))
    have s2 := bel2.out.size
    have lt0 := hide (fun k hk => (own0.lt k hk).2)
    have own0' := hide own0
    clear hk1 hb1 hb2 own0 hg1
    go_wp2_with fail
    refine (toGlueS_any A0 n0 c0 l0 _ hn hl.out (w0d.below bel2.out)).mono ?_
    rintro e w3 ⟨g3, rfl, hg3, hk3, hb3⟩
    have own3 := hide (own_below own0'.out hb3)
    have bel3 := hide (bel2.out.trans (hb3.mono s2))
    have s3 := bel3.out.size
    have lg3 := hk3.lt
    have blk3 := hide hk3
    have hs23 := hb3.size
    clear hk3 hb3
    go_wp2_with fail
    refine (implSG _ n0 n0 l0 a1 _ hm hl.out (rdB'.out _ _ blk3.out)).mono ?_
    intro e w4 hp
    unfold SGPost at hp
    rw [hR'.out, hO'.out] at hp
    obtain ⟨v1, rfl, own1, hb4⟩ := hp
    obtain ⟨A4, c4, rfl, _, _⟩ := own_form own1
    have own4 := hide (own_below own3.out hb4)
    have blk4 := hide (blk3.out.below' hb4)
    have bel4 := hide (bel3.out.trans (hb4.mono s3))
    have ge1 := hide (fun k hk => (own1.lt k hk).1)
    have own1' := hide own1
    have s4 := bel4.out.size
    have hs34 := hb4.size
    clear hb4 own1
    go_wp2_with fail
    refine (eqIntS_same _ _ R.length _ _ R _ hLm rfl (Rd.of_own own1'.out) (Rd.of_own own4.out)).mono ?_
    rintro e w5 ⟨rfl, hb5⟩
    have o0 := hide (own_below own4.out hb5)
    have o1 := hide (own_below own1'.out hb5)
    have b3 := hide (blk4.out.below' hb5)
    have bel5 := hide (bel4.out.trans (hb5.mono s4))
    have s5 := bel5.out.size
    have hs45 := hb5.size
    clear hb5
    go_wp2_with fail
    refine (toGlueS_any A0 n0 c0 l0 _ hn hl.out (w0d.below bel5.out)).mono ?_
    rintro e w6 ⟨g6, rfl, hg6, hk6, hb6⟩
    have o06 := hide (own_below o0.out hb6)
    have o16 := hide (own_below o1.out hb6)
    have b36 := hide (b3.out.below' hb6)
    have bel6 := hide (bel5.out.trans (hb6.mono s5))
    have s6 := bel6.out.size
    have hs56 := hb6.size
    have blk6 := hide hk6
    clear hb6 hk6
    go_wp2_with fail
    refine (eqGlueS_same _ _ n0 n0 n0 l0 _ hm hl.out (rdB'.out _ _ b36.out) (rdB'.out _ _ blk6.out)).mono ?_
    rintro e w7 ⟨rfl, hb7⟩
    have o07 := hide (own_below o06.out hb7)
    have o17 := hide (own_below o16.out hb7)
    have b37 := hide (b36.out.below' hb7)
    have bel7 := hide (bel6.out.trans (hb7.mono s6))
    have s7 := bel7.out.size
    have hs67 := hb7.size
    clear hb7
    go_wp2_with fail
    refine (markGlueS_any g3 n0 n0 l0 _ (by omega) hl.out b37.out).mono ?_
    rintro e w8 ⟨rfl, hg8⟩
    have o08 := hide (o07.out.kept hg8 (own_not fun k hk => by have := lt0.out k hk; omega))
    have o18 := hide (o17.out.kept hg8 (own_not fun k hk => by have := ge1.out k hk; omega))
    have bel8 := hide (bel7.out.trans (below_of_only hg8 s7 (by omega)))
    have s8 := bel8.out.size
    have hs78 := hg8.size
    clear hg8
    go_wp2_with fail
    refine (eqIntS_same _ _ R.length _ _ R _ hLm rfl (Rd.of_own o18.out) (Rd.of_own o08.out)).mono ?_
    rintro e w9 ⟨rfl, hb9⟩
    have o09 := hide (own_below o08.out hb9)
    have o19 := hide (own_below o18.out hb9)
    have bel9 := hide (bel8.out.trans (hb9.mono s8))
    have s9 := bel9.out.size
    have hs89 := hb9.size
    clear hb9
    go_wp2_with fail
    refine (markIntS_any w3.heap.size R.length 1 _ R _ (by omega) (by omega) rfl o19.out).mono ?_
    rintro e w10 ⟨rfl, hm10, hg10⟩
    have o010 := hide (o09.out.kept hg10 (own_apart (B := w2.heap.size) lt0.out (fun k hk => by have := ge1.out k hk; omega)))
    have m10 := hide hm10
    have bel10 := hide (bel9.out.trans (below_of_row hg10 s9 (fun k hk => by have := ge1.out k hk; omega)))
    have s10 := bel10.out.size
    have hs910 := hg10.size
    clear hg10 hm10
    go_wp2_with fail
    refine (heldIntS_any _ R.length _ 1 _ (by omega) (by omega) (Rd.of_own m10.out)).mono ?_
    rintro e w11 ⟨rfl, rfl⟩
    go_wp2_with fail
    refine (toGlueS_any A0 n0 c0 l0 _ hn hl.out (w0d.below bel10.out)).mono ?_
    rintro e w11 ⟨g11, rfl, hg11, hk11, hb11⟩
    have o011 := hide (own_below o010.out hb11)
    have m11 := hide (own_below m10.out hb11)
    have bel11 := hide (bel10.out.trans (hb11.mono s10))
    have s11 := bel11.out.size
    have blk11 := hide hk11
    clear hb11 hk11
    go_wp2_with fail
    refine (implSG _ n0 n0 l0 a1 _ hm hl.out (rdB'.out _ _ blk11.out)).mono ?_
    intro e w12 hp
    unfold SGPost at hp
    rw [hR'.out, hO'.out] at hp
    obtain ⟨v2, rfl, own2, hb12⟩ := hp
    obtain ⟨A12, c12, rfl, _, _⟩ := own_form own2
    have o012 := hide (own_below o011.out hb12)
    have m12 := hide (own_below m11.out hb12)
    have bel12 := hide (bel11.out.trans (hb12.mono s11))
    have s12 := bel12.out.size
    have own2' := hide own2
    clear hb12 own2
    go_wp2_with fail
    refine (eqIntS_same _ _ R.length _ _ R _ hLm rfl (Rd.of_own own2'.out) (Rd.of_own o012.out)).mono ?_
    rintro e w13 ⟨rfl, hb13⟩
    have m13 := hide (own_below m12.out hb13)
    have bel13 := hide (bel12.out.trans (hb13.mono s12))
    clear hb13
    go_wp2_with fail
    refine (heldIntS_any _ R.length _ 1 _ (by omega) (by omega) (Rd.of_own m13.out)).mono ?_
    rintro e w14 ⟨rfl, rfl⟩
    go_wp2
    go_ret
    exact ⟨rfl, bel13.out⟩
  · rw [if_neg hn] at hsz
    have hsz' := hide hsz
    clear hsz
    go_enter Try.func9, Try.ntmps9
    go_wp2_with fail
    refine (hsz'.out).mono ?_
    rintro e w1 ⟨rfl, rfl⟩
    go_wp2
    go_ret
    exact ⟨rfl, Below.refl _ _⟩
end Go.Proofs.Ytoiacijjbehioaa
