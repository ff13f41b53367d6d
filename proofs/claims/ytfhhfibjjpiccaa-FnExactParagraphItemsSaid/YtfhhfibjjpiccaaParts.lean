/- The walks through the parts of a word. Condition: the slice reads as the list of patterns. -/
import Derived.Test.YtfhhfibjjpiccaaPlaces
import Derived.Test.YtfhhfibjjpiccaaSigns
namespace Go.Proofs.Ytfhhfibjjpiccaa
open Go.RowKit
set_option linter.unusedVariables false
set_option linter.unusedSimpArgs false
set_option maxRecDepth 100000

theorem partsW_yes {s : ByteArray} {l : List ByteArray} (h1 : wordB s = true) (h2 : pats20 l = true) : partsW s l = partsOf s (placesN s l) := by
  unfold partsW; rw [if_pos ⟨h1, h2⟩]
theorem partsW_no {s : ByteArray} {l : List ByteArray} (h : wordB s = false ∨ pats20 l = false) : partsW s l = [] := by
  unfold partsW
  rw [if_neg]
  rcases h with h | h <;> simp [h]
theorem partsW_bd (s : ByteArray) (l : List ByteArray) : (partsW s l).length ≤ 22 := by
  unfold partsW
  split
  · have := places_len s l
    unfold partsOf
    rw [List.length_append, partTo_len, List.length_singleton]
    omega
  · simp
theorem toI_get {P : List Nat} {k : Nat} {x : Int} (h : (toI P)[k]? = some x) : x = (P.getD k 0 : Int) := by
  unfold toI at h
  rw [List.getElem?_map, Option.map_eq_some_iff] at h
  obtain ⟨y, hy, rfl⟩ := h
  rw [List.getD_eq_getElem?_getD, hy]
  rfl
def PtRel (s : ByteArray) (P : List Nat) (w : World) (A : Option Addr) (k : Nat) (v : Value) (wr : World) : Prop :=
  wr.ownsRow w.heap.size 9 1 v k (cellsS (partTo s P k)) ∧ Rd wr 1 A P.length (cellsN (toI P)) ∧ (∀ b off, A = some ⟨b, off, none⟩ → 0 < P.length → v.ownBlock ≠ some b) ∧ Below w.heap.size w wr
theorem pt_step {s : ByteArray} {P : List Nat} {w wr w3 : World} {A : Option Addr} {k g3 cap3 : Nat} {v : Value} (h : PtRel s P w A k v wr)
    (hown3 : w3.ownsRow w.heap.size 9 1 (.slice (some ⟨g3, 0, none⟩) (k + 1) cap3) (k + 1) (cellsS (partTo s P k) ++ [.string (s.extract (fromAt P k) (P.getD k 0))]))
    (hg3 : (wr.alloc (.cells #[.string (s.extract (fromAt P k) (P.getD k 0))] 9)).grownBy w3 v.ownBlock) (hat : v.ownBlock = some g3 ∨ g3 = wr.heap.size + 1) : PtRel s P w A (k + 1) (.slice (some ⟨g3, 0, none⟩) (k + 1) cap3) w3 := by
  obtain ⟨h1, h2, h3, h4⟩ := h
  have hrd := h2.alloc (.cells #[.string (s.extract (fromAt P k) (P.getD k 0))] 9)
  refine ⟨?_, hrd.rowO hg3 h3, apart_step h3 (fun b off hA hm => by have := h2.blk_lt b off hA hm; omega) hat, (h4.alloc h4.size _).grown hg3 (by simp; have := h4.size; omega) (fun kk hkk => (h1.lt kk hkk).1)⟩
  rw [partTo]
  simpa [cellsS] using hown3

set_option maxRecDepth 100000 in
set_option maxHeartbeats 2000000 in
theorem specParts (s : ByteArray) (A : Option Addr) (n c : Nat) (l : List ByteArray) (w : World) (hs : s.size ≤ maxLen) (hn : n ≤ maxLen) (hl : l.length = n) (hz : ∀ s ∈ l, s.size ≤ maxLen) (h : Rd w 1 A n (cellsS l)) :
    Calls Try.prog 74 #[.string s, .slice A n c] w (RowS (partsW s l) w) := by
  obtain ⟨i0, hi, hz0, hz1, hz2⟩ := info_parts str_info
  have hww := hide (specWord s (w.alloc (.cells #[] 9)) hs)
  have hpp := hide (specPats A n c l (w.alloc (.cells #[] 9)) hn hl hz (h.alloc _))
  have hpl := hide (specPlaces s A n c l (w.alloc (.cells #[] 9)) hs hn hl hz (h.alloc _))
  have hk0 := Blk.new w 9 #[]
  have hk0' := hide (own_empty1 (base := w.heap.size) hk0 (Nat.le_refl _))
  cases hv : wordB s with
  | false =>
    rw [partsW_no (.inl hv)]
    clear hn hl hz h hpl hpp
    go_enter Try.func74, Try.ntmps74
    go_wp2_with fail
    refine hww.out.mono ?_
    rintro e w' ⟨rfl, rfl⟩
    rw [hv]
    go_wp2
    unfold RowS
    go_ret
    exact ⟨_, rfl, hk0'.out, by (repeat (first | exact Below.refl _ _ | assumption | refine Below.alloc ?_ (by first | assumption | omega | (simp; done) | (simp; omega)) _ | refine Below.setCell ?_ (by first | assumption | omega | (simp; done) | (simp; omega)) _ | refine below_drewN ?_ _ | refine Below.drew ?_))⟩
  | true =>
    cases hp : pats20 l with
    | false =>
      rw [partsW_no (.inr hp)]
      clear hn hl hz h hpl
      go_enter Try.func74, Try.ntmps74
      go_wp2_with fail
      refine hww.out.mono ?_
      rintro e w' ⟨rfl, rfl⟩
      rw [hv]
      go_wp2_with fail
      refine hpp.out.mono ?_
      rintro e w' ⟨rfl, rfl⟩
      rw [hp]
      go_wp2
      unfold RowS
      go_ret
      exact ⟨_, rfl, hk0'.out, by (repeat (first | exact Below.refl _ _ | assumption | refine Below.alloc ?_ (by first | assumption | omega | (simp; done) | (simp; omega)) _ | refine Below.setCell ?_ (by first | assumption | omega | (simp; done) | (simp; omega)) _ | refine below_drewN ?_ _ | refine Below.drew ?_))⟩
    | true =>
      have hs20 := (wordB_true hv).2.2
      have hat := hide (fun k (hk : k < (placesN s l).length) => places_at hv hp hk)
      have hfr := hide (fun k (hk : k ≤ (placesN s l).length) => places_from hv hp hk)
      have h21 := places_len s l
      rw [partsW_yes hv hp]
      clear hn hl hz h hs
      generalize placesN s l = P at *
      obtain ⟨m, hm⟩ : ∃ m, P.length = m := ⟨_, rfl⟩
      have hm' := hide hm
      rw [hm] at h21
      clear hm
      go_enter Try.func74, Try.ntmps74
      go_wp2_with fail
      refine hww.out.mono ?_
      rintro e w' ⟨rfl, rfl⟩
      rw [hv]
      go_wp2_with fail
      refine hpp.out.mono ?_
      rintro e w' ⟨rfl, rfl⟩
      rw [hp]
      go_wp2_with fail
      refine hpl.out.mono ?_
      rintro e w1 ⟨v, rfl, hrow, hb1⟩
      obtain ⟨A2, c2, rfl, _, hrd⟩ := own_form hrow
      rw [toI_len] at hrd hrow
      have hk1 := own_empty1 (base := w.heap.size) (hk0.below' hb1) (Nat.le_refl _)
      have hap : ∀ b off, A2 = some ⟨b, off, none⟩ → 0 < P.length → (Value.slice (some ⟨w.heap.size, 0, none⟩) 0 0).ownBlock ≠ some b := by
        intro b off hA _ e
        have := (hrow.lt b (by rw [hA]; rfl)).1
        have e2 : w.heap.size = b := by simpa [Value.ownBlock] using e
        simp at this
        omega
      have hst := hide (show PtRel s P w A2 0 (Value.slice (some ⟨w.heap.size, 0, none⟩) 0 0) w1 from ⟨hk1, hrd, hap, ((Below.refl w.heap.size w).alloc (Nat.le_refl _) _).trans (hb1.mono (by simp))⟩)
      clear hk0 hk0' hk1 hrow hb1 hrd hap
      rw [toI_len, hm'.out]
      go_wp2
      go_loopw [5, 7, 8] (fun v q i wr => ∃ k : Nat, k ≤ m ∧ i = .int .i64 k ∧ q = .int .i64 (fromAt P k : Int) ∧ PtRel s P w A2 k v wr) (fun _ _ i _ => m - (intOf i).toNat)
      case atStart => exact ⟨0, Nat.zero_le _, rfl, rfl, hst.out⟩
      case round =>
        obtain ⟨k, hk, rfl, rfl, hrel⟩ := hrel
        have hrel' := hide hrel
        obtain ⟨hown, hrd, hap, hb⟩ := hrel
        have hown' := hide hown
        have hbs := hb.size
        have hf1 := hfr.out k (by have := hm'.out; omega)
        by_cases hlt : k < m
        · obtain ⟨b, off, x, rfl, hbk, hx, c0⟩ := hrd.int (toI_len P) (show k < P.length by have := hm'.out; omega)
          obtain rfl := toI_get hx
          have ha := hat.out k (by have := hm'.out; omega)
          have hfs := hide (fromAt_succ P k)
          clear hown hrd hap hb hx hst
          generalize hQ : P.getD k 0 = Q at *
          generalize hF : fromAt P k = F at *
          have hQ' := hide hQ
          have hF' := hide hF
          clear hQ hF
          go_wp2_with (at_builtin; refine wpList_append_lies _ rfl _ _ 33 rfl w.heap.size 9 i0 (.string ByteArray.empty) 1 16 Try.underlying33 hi hz0 hz1 hz2 rfl (by decide) _ _ _ rfl (hown'.out.alloc _) ⟨wr.heap.size, 0, none⟩ 1 1 [.string (s.extract F Q)] rfl rfl (fun j u hj => cell_one_at (by simp) hj) (one_str _) (by omega) (by unfold maxLen; omega) (by omega) (by simp; omega) _ rfl ?_)
          intro g3 cap3 w3 hown3 hg3 hat3 hlt3
          have hfin := hide (pt_step hrel'.out (by rw [hF'.out, hQ'.out]; exact hown3) (by rw [hF'.out, hQ'.out]; exact hg3) (by simpa using hat3))
          clear hown3 hg3 hat3 hlt3
          obtain ⟨b9, off9, x9, hA9, hbk9, hx9, d9⟩ := hfin.out.2.1.int (toI_len P) (show k < P.length by have := hm'.out; omega)
          injection hA9 with hA9
          injection hA9 with hA91 hA92
          subst hA91
          subst hA92
          obtain rfl : x9 = (Q : Int) := by have := toI_get hx9; rw [hQ'.out] at this; exact this
          clear hx9
          go_wp2
          go_roundw
          case rel => exact ⟨k + 1, by omega, by go_num, by rw [hfs.out], hfin.out⟩
          case measure => simp [intOf]; omega
        · obtain rfl : k = m := by omega
          have hb' := hide hb
          clear hown hrd hap hb hst
          generalize hF : fromAt P k = F at *
          have hF' := hide hF
          clear hF
          go_wp2_with (at_builtin; refine wpList_append_lies _ rfl _ _ 33 rfl w.heap.size 9 i0 (.string ByteArray.empty) 1 16 Try.underlying33 hi hz0 hz1 hz2 rfl (by decide) _ _ _ rfl (hown'.out.alloc _) ⟨wr.heap.size, 0, none⟩ 1 1 [.string (s.extract F s.size)] rfl rfl (fun j u hj => cell_one_at (by simp) hj) (one_str _) (by omega) (by unfold maxLen; omega) (by omega) (by simp; omega) _ rfl ?_)
          intro g3 cap3 w3 hown3 hg3 hat3 hlt3
          have hbe := hide ((hb'.out.alloc hbs _).grown hg3 (by simp; omega) (fun kk hkk => (hown'.out.lt kk hkk).1))
          have hrow := hide hown3
          clear hown3 hg3 hat3 hlt3
          go_wp2
          unfold RowS
          go_ret
          refine ⟨_, rfl, ?_, hbe.out⟩
          unfold partsOf
          rw [List.length_append, partTo_len, List.length_singleton, hm'.out, hF'.out]
          have q := hrow.out
          simpa [cellsS] using q
set_option maxRecDepth 100000 in
set_option maxHeartbeats 2000000 in
theorem implParts (s : ByteArray) (A : Option Addr) (n c : Nat) (l : List ByteArray) (w : World) (hs : s.size ≤ maxLen) (hn : n ≤ maxLen) (hl : l.length = n) (hz : ∀ s ∈ l, s.size ≤ maxLen) (h : Rd w 1 A n (cellsS l)) :
    Calls Try.prog 77 #[.string s, .slice A n c] w (RowS (partsW s l) w) := by
  obtain ⟨i0, hi, hz0, hz1, hz2⟩ := info_parts str_info
  have hww := hide (implWord s (w) hs)
  have hpp := hide (implPats A n c l (w) hn hl hz h)
  have hpl := hide (implPlaces s A n c l (w) hs hn hl hz h)
  cases hv : wordB s with
  | false =>
    rw [partsW_no (.inl hv)]
    clear hn hl hz h hpl hpp
    go_enter Try.func77, Try.ntmps77
    go_wp2_with fail
    refine hww.out.mono ?_
    rintro e w' ⟨rfl, rfl⟩
    rw [hv]
    go_wp2
    unfold RowS
    go_ret
    exact ⟨_, rfl, World.ownsRow_nil _ _ _ _, by (repeat (first | exact Below.refl _ _ | assumption | refine Below.alloc ?_ (by first | assumption | omega | (simp; done) | (simp; omega)) _ | refine Below.setCell ?_ (by first | assumption | omega | (simp; done) | (simp; omega)) _ | refine below_drewN ?_ _ | refine Below.drew ?_))⟩
  | true =>
    cases hp : pats20 l with
    | false =>
      rw [partsW_no (.inr hp)]
      clear hn hl hz h hpl
      go_enter Try.func77, Try.ntmps77
      go_wp2_with fail
      refine hww.out.mono ?_
      rintro e w' ⟨rfl, rfl⟩
      rw [hv]
      go_wp2_with fail
      refine hpp.out.mono ?_
      rintro e w' ⟨rfl, rfl⟩
      rw [hp]
      go_wp2
      unfold RowS
      go_ret
      exact ⟨_, rfl, World.ownsRow_nil _ _ _ _, by (repeat (first | exact Below.refl _ _ | assumption | refine Below.alloc ?_ (by first | assumption | omega | (simp; done) | (simp; omega)) _ | refine Below.setCell ?_ (by first | assumption | omega | (simp; done) | (simp; omega)) _ | refine below_drewN ?_ _ | refine Below.drew ?_))⟩
    | true =>
      have hs20 := (wordB_true hv).2.2
      have hat := hide (fun k (hk : k < (placesN s l).length) => places_at hv hp hk)
      have hfr := hide (fun k (hk : k ≤ (placesN s l).length) => places_from hv hp hk)
      have h21 := places_len s l
      rw [partsW_yes hv hp]
      clear hn hl hz h hs
      generalize placesN s l = P at *
      obtain ⟨m, hm⟩ : ∃ m, P.length = m := ⟨_, rfl⟩
      have hm' := hide hm
      rw [hm] at h21
      clear hm
      go_enter Try.func77, Try.ntmps77
      go_wp2_with fail
      refine hww.out.mono ?_
      rintro e w' ⟨rfl, rfl⟩
      rw [hv]
      go_wp2_with fail
      refine hpp.out.mono ?_
      rintro e w' ⟨rfl, rfl⟩
      rw [hp]
      go_wp2_with fail
      refine hpl.out.mono ?_
      rintro e w1 ⟨v, rfl, hrow, hb1⟩
      obtain ⟨A2, c2, rfl, _, hrd⟩ := own_form hrow
      rw [toI_len] at hrd hrow
      have hst := hide (show PtRel s P w A2 0 (.slice none 0 0) w1 from ⟨World.ownsRow_nil _ _ _ _, hrd, fun b off _ _ e => by simp [Value.ownBlock] at e, hb1⟩)
      clear hrow hb1 hrd
      rw [toI_len, hm'.out]
      go_wp2
      go_loopw [5, 6, 21] (fun v q i wr => ∃ k : Nat, k ≤ m ∧ i = .int .i64 k ∧ q = .int .i64 (fromAt P k : Int) ∧ PtRel s P w A2 k v wr) (fun _ _ i _ => m - (intOf i).toNat)
      case atStart => exact ⟨0, Nat.zero_le _, rfl, rfl, hst.out⟩
      case round =>
        obtain ⟨k, hk, rfl, rfl, hrel⟩ := hrel
        have hrel' := hide hrel
        obtain ⟨hown, hrd, hap, hb⟩ := hrel
        have hown' := hide hown
        have hbs := hb.size
        have hf1 := hfr.out k (by have := hm'.out; omega)
        by_cases hlt : k < m
        · obtain ⟨b, off, x, rfl, hbk, hx, c0⟩ := hrd.int (toI_len P) (show k < P.length by have := hm'.out; omega)
          obtain rfl := toI_get hx
          have ha := hat.out k (by have := hm'.out; omega)
          have hfs := hide (fromAt_succ P k)
          clear hown hrd hap hb hx hst
          generalize hQ : P.getD k 0 = Q at *
          generalize hF : fromAt P k = F at *
          have hQ' := hide hQ
          have hF' := hide hF
          clear hQ hF
          go_wp2_with (at_builtin; refine wpList_append_lies _ rfl _ _ 33 rfl w.heap.size 9 i0 (.string ByteArray.empty) 1 16 Try.underlying33 hi hz0 hz1 hz2 rfl (by decide) _ _ _ rfl (hown'.out.alloc _) ⟨wr.heap.size, 0, none⟩ 1 1 [.string (s.extract F Q)] rfl rfl (fun j u hj => cell_one_at (by simp) hj) (one_str _) (by omega) (by unfold maxLen; omega) (by omega) (by simp; omega) _ rfl ?_)
          intro g3 cap3 w3 hown3 hg3 hat3 hlt3
          have hfin := hide (pt_step hrel'.out (by rw [hF'.out, hQ'.out]; exact hown3) (by rw [hF'.out, hQ'.out]; exact hg3) (by simpa using hat3))
          clear hown3 hg3 hat3 hlt3
          go_wp2
          go_roundw
          case rel => exact ⟨k + 1, by omega, by go_num, by rw [hfs.out], hfin.out⟩
          case measure => simp [intOf]; omega
        · obtain rfl : k = m := by omega
          have hb' := hide hb
          clear hown hrd hap hb hst
          generalize hF : fromAt P k = F at *
          have hF' := hide hF
          clear hF
          go_wp2_with (at_builtin; refine wpList_append_lies _ rfl _ _ 33 rfl w.heap.size 9 i0 (.string ByteArray.empty) 1 16 Try.underlying33 hi hz0 hz1 hz2 rfl (by decide) _ _ _ rfl (hown'.out.alloc _) ⟨wr.heap.size, 0, none⟩ 1 1 [.string (s.extract F s.size)] rfl rfl (fun j u hj => cell_one_at (by simp) hj) (one_str _) (by omega) (by unfold maxLen; omega) (by omega) (by simp; omega) _ rfl ?_)
          intro g3 cap3 w3 hown3 hg3 hat3 hlt3
          have hbe := hide ((hb'.out.alloc hbs _).grown hg3 (by simp; omega) (fun kk hkk => (hown'.out.lt kk hkk).1))
          have hrow := hide hown3
          clear hown3 hg3 hat3 hlt3
          go_wp2
          unfold RowS
          go_ret
          refine ⟨_, rfl, ?_, hbe.out⟩
          unfold partsOf
          rw [List.length_append, partTo_len, List.length_singleton, hm'.out, hF'.out]
          have q := hrow.out
          simpa [cellsS] using q
end Go.Proofs.Ytfhhfibjjpiccaa
