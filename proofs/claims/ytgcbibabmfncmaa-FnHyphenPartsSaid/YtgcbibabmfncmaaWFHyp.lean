/- The walk through the law of parts. No condition. -/
import Derived.Test.YtgcbibabmfncmaaArgs
import Derived.Test.YtgcbibabmfncmaaDrLev
import Derived.Test.YtgcbibabmfncmaaParts
import Derived.Test.YtgcbibabmfncmaaPlaces
import Derived.Test.YtgcbibabmfncmaaPatLaw
import Derived.Test.YtgcbibabmfncmaaWidMath
import Derived.Test.YtgcbibabmfncmaaWFWord
namespace Go.Proofs.Ytgcbibabmfncmaa
open Go.RowKit
set_option linter.unusedVariables false
set_option linter.unusedSimpArgs false
set_option maxRecDepth 100000

theorem partTo_cat {s : ByteArray} {l : List ByteArray} (h1 : wordB s = true) (h2 : pats20 l = true) : ∀ k, k ≤ (placesN s l).length → (partTo s (placesN s l) k).flatMap bl = (bl s).take (fromAt (placesN s l) k) := by
  intro k
  induction k with
  | zero => intro _; rw [fromAt_zero]; rfl
  | succ k ih =>
    intro hk
    have hp := places_at h1 h2 (k := k) (by omega)
    rw [partTo, List.flatMap_append, ih (by omega), fromAt_succ]
    generalize fromAt (placesN s l) k = a at *
    generalize (placesN s l).getD k 0 = b at *
    have e : b = a + (b - a) := by omega
    rw [List.flatMap_singleton, bl_extract]
    conv => rhs; rw [e, List.take_add]
theorem parts_cat {s : ByteArray} {l : List ByteArray} (h1 : wordB s = true) (h2 : pats20 l = true) : (partsW s l).flatMap bl = bl s := by
  have hf := places_from h1 h2 (Nat.le_refl _)
  unfold partsW partsOf
  rw [if_pos ⟨h1, h2⟩, List.flatMap_append, partTo_cat h1 h2 _ (Nat.le_refl _), List.flatMap_singleton, bl_extract]
  generalize fromAt (placesN s l) (placesN s l).length = a at *
  rw [List.take_of_length_le (l := (bl s).drop a) (by rw [List.length_drop, bl_len]; omega), List.take_append_drop]
theorem parts_len {s : ByteArray} {l : List ByteArray} (h1 : wordB s = true) (h2 : pats20 l = true) : (partsW s l).length = (placesN s l).length + 1 := by
  unfold partsW partsOf
  rw [if_pos ⟨h1, h2⟩, List.length_append, partTo_len]; rfl
theorem parts_no {s : ByteArray} {l : List ByteArray} (h : wordB s = false ∨ pats20 l = false) : partsW s l = [] := by
  unfold partsW
  rw [if_neg]
  rintro ⟨h1, h2⟩
  rcases h with h | h
  · rw [h] at h1; cases h1
  · rw [h] at h2; cases h2
theorem cat_le {L : List ByteArray} {s : ByteArray} (h : L.flatMap bl = bl s) {k : Nat} (hk : k ≤ L.length) : (catTo L k).size ≤ s.size := by
  have e := bl_catTo L k hk
  have e1 : (bl (catTo L k)).length = (catTo L k).size := bl_len _
  have e2 : (bl s).length = s.size := bl_len _
  rw [← e1, ← e2, e, ← h]
  conv => rhs; rw [← List.take_append_drop k L]
  rw [List.flatMap_append, List.length_append]
  omega
set_option maxHeartbeats 2000000 in
theorem walkFnHyphenParts (A0 : Option Addr) (n0 c0 : Nat) (l0 : List Int) (w : World) (w0a : n0 ≤ c0) (w0b : c0 ≤ maxLen) (w0c : List.length l0 = n0) (w0d : Rd w 1 A0 n0 (cellsB l0)) (w0e : ∀ z ∈ l0, 0 ≤ z ∧ z ≤ 255) :
    Calls Try.prog 30 #[.slice A0 n0 c0] w fun e w' => e = .returned (.bool true) ∧ Below w.heap.size w w' := by
  by_cases hbig : 1048576 < n0
  · have hd : decide (1048576 < (n0 : Int)) = true := by simp; omega
    clear w0a w0b w0c w0d w0e hbig
    go_enter Try.func30, Try.ntmps30
    go_wp2
    go_ret
    exact ⟨rfl, Below.refl _ _⟩
  · have hd : decide (1048576 < (n0 : Int)) = false := by simp; omega
    have hdraw := hide (drawHPt w A0 n0 c0 l0 w0c w0a (by omega) w0d w0e)
    clear w0a w0b w0c w0d w0e hbig
    go_enter Try.func30, Try.ntmps30
    go_wp2_with (fail)
    refine hdraw.out.mono ?_
    rintro e w1 ⟨s, L, v, n, rfl, hss, hn, hL, hLb, hown, hb1⟩
    obtain ⟨A1, c1, rfl, _, _⟩ := own_form hown
    have hb1' := hide hb1
    have hsz1 := hb1.size
    have own1 := hide hown
    have hL' := hide hL
    have hsm : s.size ≤ maxLen := by unfold maxLen; omega
    have hLz := hide (show ∀ x ∈ L, x.size ≤ maxLen from fun x hx => by have := hLb x hx; unfold maxLen; omega)
    have hnm : n ≤ maxLen := by unfold maxLen; omega
    clear hdraw hb1 hown hLb hL
    have ci := hide (fun W (M : List ByteArray) B m d (h1 : m ≤ maxLen) (h2 : List.length M = m) (h3 : ∀ s ∈ M, s.size ≤ maxLen) (h4 : Rd W 1 B m (cellsS M)) => implParts s B m d M W hsm h1 h2 h3 h4)
    have cs := hide (fun W (h4 : Rd W 1 A1 n (cellsS L)) => specParts s A1 n c1 L W hsm hnm hL'.out hLz.out h4)
    have hcat := hide (fun h1 h2 => parts_cat (s := s) (l := L) h1 h2)
    have hno := hide (fun h => parts_no (s := s) (l := L) h)
    have hlen := hide (fun h1 h2 => parts_len (s := s) (l := L) h1 h2)
    have h21 := partsW_bd s L
    have cw := hide (fun W => specWord s W hsm)
    have cp := hide (fun W h4 => specPats A1 n c1 L W hnm hL'.out hLz.out h4)
    have ch := hide (fun W h4 => implPlaces s A1 n c1 L W hsm hnm hL'.out hLz.out h4)
    generalize hR : partsW s L = R at *
    have hR' := hide hR
    have hRm : R.length ≤ maxLen := by unfold maxLen; omega
    clear hR
    go_wp2_with fail
    refine (ci.out w1 L A1 n c1 hnm hL'.out hLz.out (Rd.of_own own1.out)).mono ?_
    intro e w2 hp
    rw [hR'.out] at hp
    obtain ⟨v2, rfl, own2, hbX⟩ := hp
    obtain ⟨A2, c2, rfl, _, _⟩ := own_form own2
    have own2' := hide own2
    have own12 := hide (own_below own1.out hbX)
    have bel2 := hide (hb1'.out.trans (hbX.mono hsz1))
    have s2 := bel2.out.size
    clear hbX own2 own1
    go_wp2_with fail
    refine (cs.out w2 (Rd.of_own own12.out)).mono ?_
    intro e w3 hp
    obtain ⟨v3, rfl, own3, hbX⟩ := hp
    obtain ⟨A3, c3, rfl, _, _⟩ := own_form own3
    have own3' := hide own3
    have own13 := hide (own_below own12.out hbX)
    have own23 := hide (own_below own2'.out hbX)
    have bel3 := hide (bel2.out.trans (hbX.mono s2))
    have s3 := bel3.out.size
    clear hbX own3 own12 own2' cs
    go_wp2_with fail
    refine (sameTexts_same _ _ R.length _ _ R _ hRm rfl (Rd.of_own own23.out) (Rd.of_own own3'.out)).mono ?_
    rintro e w4 ⟨rfl, hbX⟩
    have own14 := hide (own_below own13.out hbX)
    have own24 := hide (own_below own23.out hbX)
    have bel4 := hide (bel3.out.trans (hbX.mono s3))
    have s4 := bel4.out.size
    clear hbX own13 own23 own3'
    go_wp2_with fail
    refine (cw.out _).mono ?_
    rintro e w' ⟨rfl, rfl⟩
    cases hw : wordB s with
    | false =>
      obtain rfl : R = [] := hno.out (.inl hw)
      go_wp2_with fail
      refine (alive_any _).mono ?_
      rintro e w99 ⟨rfl, hb99⟩
      go_wp2
      go_ret
      exact ⟨rfl, bel4.out.trans (hb99.mono s4)⟩
    | true =>
      go_wp2_with fail
      refine (cp.out _ (Rd.of_own own14.out)).mono ?_
      rintro e w' ⟨rfl, rfl⟩
      cases hp : pats20 L with
      | false =>
        obtain rfl : R = [] := hno.out (.inr hp)
        go_wp2_with fail
        refine (alive_any _).mono ?_
        rintro e w99 ⟨rfl, hb99⟩
        go_wp2
        go_ret
        exact ⟨rfl, bel4.out.trans (hb99.mono s4)⟩
      | true =>
        have hc := hide (hcat.out hw hp)
        have hl := hide (hlen.out hw hp)
        have hrd := hide (Rd.of_own own24.out)
        have ch4 := hide (ch.out _ (Rd.of_own own14.out))
        obtain ⟨m, hm⟩ : ∃ m, R.length = m := ⟨_, rfl⟩
        have hm' := hide hm
        clear hw hp hcat hno hlen cw cp ci ch hm own14 own24
        rw [hm'.out] at hrd hl h21 ⊢
        have hpl := hide (toI_len (placesN s L))
        generalize toI (placesN s L) = TI at *
        go_wp2
        go_loop [6, 7] (fun q i => ∃ (k : Nat) (o : ByteArray), k ≤ m ∧ i = .int .i64 k ∧ q = .string o ∧ o.size ≤ 21 ∧ Hid (o = catTo R k)) (fun _ i => m - (intOf i).toNat)
        case atStart => exact ⟨0, ByteArray.empty, Nat.zero_le _, rfl, rfl, by simp, rfl⟩
        case round =>
          obtain ⟨k, o, hk, rfl, rfl, hos, ho⟩ := hrel
          by_cases hlt : k < m
          · obtain ⟨b, off, t, rfl, hbk, ht, d0⟩ := hrd.out.str hm'.out hlt
            have hst := hide (show catTo R (k + 1) = catTo R k ++ t by rw [catTo, getD_some ht])
            have hsz := hide (show o.size + t.size ≤ 21 by
              have h3 := cat_le hc.out (k := k + 1) (by rw [hm'.out]; omega)
              rw [hst.out, ByteArray.size_append, ← ho.out] at h3
              omega)
            have hsz1 : o.size + t.size ≤ 9223372036854775807 := by have := hsz.out; omega
            clear ht
            go_wp2
            go_round
            case rel => exact ⟨k + 1, _, by omega, by go_num, rfl, by rw [ByteArray.size_append]; exact hsz.out, by show _ = _; rw [hst.out, ho.out]⟩
            case measure => simp [intOf]; omega
          · obtain rfl : k = m := by omega
            have hos2 : o = s := by rw [ho.out, ← hm'.out]; exact catTo_full _ _ hc.out
            subst hos2
            have hb : (o.toList == o.toList) = true := by simp
            go_wp2_with fail
            refine ch4.out.mono ?_
            rintro e w5 ⟨v5, rfl, own5, hbX⟩
            obtain ⟨A5, c5, rfl, _, _⟩ := own_form own5
            have bel5 := hide (bel4.out.trans (hbX.mono s4))
            have hpl2 := hpl.out
            have hl2 := hl.out
            have e1 : ((k : Int) == (TI.length : Int) + 1) = true := by simp; omega
            have e2 : TI.length ≤ 21 := by omega
            clear hbX own5 hpl2 hl2
            go_wp2
            go_ret
            exact ⟨rfl, bel5.out⟩
end Go.Proofs.Ytgcbibabmfncmaa
