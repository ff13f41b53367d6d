/- The walks through the places of hyphens. Condition: the slice reads as the list of patterns. -/
import Derived.Test.YtfhhfibjjpiccaaLevelsF
import Derived.Test.YtfhhfibjjpiccaaHypMath
namespace Go.Proofs.Ytfhhfibjjpiccaa
open Go.RowKit
set_option linter.unusedVariables false
set_option linter.unusedSimpArgs false
set_option maxRecDepth 100000

theorem Rd.rowO {w w' : World} {size n : Nat} {A : Option Addr} {xs : List Value} {rb : Option Nat} (h : Rd w size A n xs) (hg : w.grownBy w' rb) (hq : ∀ b off, A = some ⟨b, off, none⟩ → 0 < n → rb ≠ some b) : Rd w' size A n xs :=
  ⟨h.1, fun hn => by
    obtain ⟨b, off, e, hb, hc⟩ := h.2 hn
    exact ⟨b, off, e, Nat.lt_of_lt_of_le hb hg.size, fun j u hu => (World.cell?_of_block (hg.block b hb (fun e2 => hq b off e hn e2.symm))).trans (hc j u hu)⟩⟩
theorem Rd.blk_lt {w : World} {size n : Nat} {A : Option Addr} {xs : List Value} (h : Rd w size A n xs) : ∀ b off, A = some ⟨b, off, none⟩ → 0 < n → b < w.heap.size := by
  intro b off hA hn
  obtain ⟨b2, off2, e, hb, _⟩ := h.2 hn
  rw [hA] at e
  injection e with e
  injection e with e1
  omega
theorem apart_step {A : Option Addr} {m : Nat} {v : Value} {g3 H n c : Nat} (h : ∀ b off, A = some ⟨b, off, none⟩ → 0 < m → v.ownBlock ≠ some b) (hlt : ∀ b off, A = some ⟨b, off, none⟩ → 0 < m → b < H) (hat : v.ownBlock = some g3 ∨ g3 = H) :
    ∀ b off, A = some ⟨b, off, none⟩ → 0 < m → (Value.slice (some ⟨g3, 0, none⟩) n c).ownBlock ≠ some b := by
  intro b off hA hm e
  have e2 : g3 = b := by simpa [Value.ownBlock] using e
  rcases hat with hat | hat
  · exact h b off hA hm (by rw [hat, e2])
  · have := hlt b off hA hm
    omega
theorem levels_get {lev : List Int} (h : In9 lev) {k : Nat} {x : Int} (hx : lev[k]? = some x) : 0 ≤ x ∧ x ≤ 9 := h x (List.mem_of_getElem? hx)
theorem hyB_odd {lev : List Int} {k : Nat} {x : Int} (hx : lev[k]? = some x) (h2 : 2 ≤ k) (h3 : k + 3 < lev.length) : hyB lev k = (x % 2 == 1) := by
  unfold hyB; rw [gD hx]; simp [h2, h3]
theorem hyB_even {lev : List Int} {k : Nat} {x : Int} (hx : lev[k]? = some x) (h : (x % 2 == 1) = false) : hyB lev k = false := by
  unfold hyB; rw [gD hx, h, Bool.and_false]
theorem hyB_far {lev : List Int} {k : Nat} (h : k < 2 ∨ lev.length ≤ k + 3) : hyB lev k = false := by
  unfold hyB
  rcases h with h | h
  · rw [show decide (2 ≤ k) = false from decide_eq_false (by omega)]; rfl
  · rw [show decide (k + 3 < lev.length) = false from decide_eq_false (by omega), Bool.and_false]; rfl
def PlRel (lev : List Int) (w : World) (A : Option Addr) (m k : Nat) (v : Value) (wr : World) : Prop :=
  wr.ownsRow w.heap.size 3 1 v (toI (hpTo lev k)).length (cellsN (toI (hpTo lev k))) ∧ Rd wr 1 A m (cellsN lev) ∧ (∀ b off, A = some ⟨b, off, none⟩ → 0 < m → v.ownBlock ≠ some b) ∧ Below w.heap.size w wr
theorem pl_yes {lev : List Int} {w wr w3 : World} {A : Option Addr} {m k g3 cap3 : Nat} {v : Value} (hb : hyB lev k = true) (h : PlRel lev w A m k v wr)
    (hown3 : w3.ownsRow w.heap.size 3 1 (.slice (some ⟨g3, 0, none⟩) ((toI (hpTo lev k)).length + 1) cap3) ((toI (hpTo lev k)).length + 1) (cellsN (toI (hpTo lev k)) ++ [.int .i64 (k : Int)]))
    (hg3 : (wr.alloc (.cells #[.int .i64 (k : Int)] 3)).grownBy w3 v.ownBlock) (hat : v.ownBlock = some g3 ∨ g3 = wr.heap.size + 1) : PlRel lev w A m (k + 1) (.slice (some ⟨g3, 0, none⟩) ((toI (hpTo lev k)).length + 1) cap3) w3 := by
  obtain ⟨h1, h2, h3, h4⟩ := h
  have hrd := h2.alloc (.cells #[.int .i64 (k : Int)] 3)
  refine ⟨?_, hrd.rowO hg3 h3, apart_step h3 (fun b off hA hm => by have := h2.blk_lt b off hA hm; omega) hat, (h4.alloc h4.size _).grown hg3 (by simp; have := h4.size; omega) (fun kk hkk => (h1.lt kk hkk).1)⟩
  rw [hpTo_yes hb, toI_snoc, List.length_append, List.length_singleton]
  simpa [cellsN] using hown3
theorem pl_no {lev : List Int} {w wr : World} {A : Option Addr} {m k : Nat} {v : Value} (hb : hyB lev k = false) (h : PlRel lev w A m k v wr) : PlRel lev w A m (k + 1) v wr := by
  unfold PlRel at h ⊢
  rw [hpTo_no hb]
  exact h
theorem pl_len {lev : List Int} (h : lev.length ≤ 21) {k : Nat} (hk : k ≤ 30) : (toI (hpTo lev k)).length ≤ 30 := by
  rw [toI_len]
  have := hpTo_len lev k
  omega
theorem placesI_bd (s : ByteArray) (l : List ByteArray) : (toI (placesN s l)).length ≤ 21 := by rw [toI_len]; exact places_len s l

set_option maxRecDepth 100000 in
set_option maxHeartbeats 1000000 in
theorem specPlaces (s : ByteArray) (A : Option Addr) (n c : Nat) (l : List ByteArray) (w : World) (hs : s.size ≤ maxLen) (hn : n ≤ maxLen) (hl : l.length = n) (hz : ∀ s ∈ l, s.size ≤ maxLen) (h : Rd w 1 A n (cellsS l)) :
    Calls Try.prog 81 #[.string s, .slice A n c] w (RowN (toI (placesN s l)) w) := by
  obtain ⟨i0, hi, hz0, hz1, hz2⟩ := info_parts int_info
  have hlv := hide (specLevels s A n c l (w.alloc (.cells #[] 3)) hs hn hl hz (h.alloc _))
  have hk0 := Blk.new w 3 #[]
  have h21 := levelsW_bd s l
  have h9 := hide (levelsW_9 s l)
  have hP : placesN s l = hpTo (levelsW s l) (levelsW s l).length := rfl
  rw [hP]
  clear hP
  generalize levelsW s l = lev at *
  obtain ⟨m, hm⟩ : ∃ m, lev.length = m := ⟨_, rfl⟩
  have hm' := hide hm
  rw [hm]
  rw [hm] at h21
  clear hm hs hn hl hz h
  go_enter Try.func81, Try.ntmps81
  go_wp2_with fail
  refine hlv.out.mono ?_
  rintro e w1 ⟨v, rfl, hrow, hb1⟩
  obtain ⟨A2, c2, rfl, _, hrd⟩ := own_form hrow
  rw [hm'.out] at hrd hrow
  have hk1 := own_emptyN (base := w.heap.size) (hk0.below' hb1) (Nat.le_refl _)
  have hap : ∀ b off, A2 = some ⟨b, off, none⟩ → 0 < m → (Value.slice (some ⟨w.heap.size, 0, none⟩) 0 0).ownBlock ≠ some b := by
    intro b off hA _ e
    have := (hrow.lt b (by rw [hA]; rfl)).1
    have e2 : w.heap.size = b := by simpa [Value.ownBlock] using e
    simp at this
    omega
  have hst := hide (show PlRel lev w A2 m 2 (Value.slice (some ⟨w.heap.size, 0, none⟩) 0 0) w1 by
    unfold PlRel
    rw [hpTo_two]
    exact ⟨hk1, hrd, hap, ((Below.refl w.heap.size w).alloc (Nat.le_refl _) _).trans (hb1.mono (by simp))⟩)
  clear hk0 hk1 hrow hb1 hrd hap
  rw [hm'.out]
  go_wp2
  go_loopw [5, 7] (fun v i wr => ∃ k : Nat, (2 ≤ k ∧ k ≤ m + 2) ∧ i = .int .i64 k ∧ PlRel lev w A2 m k v wr) (fun _ i _ => m + 2 - (intOf i).toNat)
  case atStart => exact ⟨2, ⟨by omega, by omega⟩, rfl, hst.out⟩
  case round =>
    obtain ⟨k, ⟨hk2, hk⟩, rfl, hrel⟩ := hrel
    have hrel' := hide hrel
    obtain ⟨hown, hrd, hap, hb⟩ := hrel
    have hown' := hide hown
    have hbs := hb.size
    have hlen := pl_len (by rw [hm'.out]; exact h21) (k := k) (by omega)
    by_cases hlt : k + 3 < m
    · obtain ⟨b, off, x, rfl, hbk, hx, c0⟩ := hrd.int hm'.out (show k < m by omega)
      have hx9 := levels_get h9.out hx
      have hyo := hide (hyB_odd hx hk2 (by rw [hm'.out]; exact hlt))
      have hki : (k : Int) + 3 < (m : Int) := by omega
      clear hown hrd hap hb hx hst
      cases ho : (x % 2 == 1) with
      | true =>
        have hyes := hide (hyo.out.trans ho)
        go_wp2_with (first | (at_builtin; refine wpList_append_lies _ rfl _ _ 39 rfl w.heap.size 3 i0 (.int .i64 0) 1 8 Try.underlying39 hi hz0 hz1 hz2 rfl (by decide) _ _ _ rfl (hown'.out.alloc _) ⟨wr.heap.size, 0, none⟩ 1 1 [.int .i64 (k : Int)] rfl rfl (fun j u hj => cell_one_at (by simp) hj) (one_cells _) (by omega) (by unfold maxLen; omega) (by omega) (by simp; omega) _ rfl ?_))
        intro g3 cap3 w3 hown3 hg3 hat3 hlt3
        have hfin := hide (pl_yes hyes.out hrel'.out hown3 hg3 (by simpa using hat3))
        clear hown3 hg3 hat3 hlt3
        go_wp2
        go_roundw
        case rel => exact ⟨k + 1, ⟨by omega, by omega⟩, by go_num, hfin.out⟩
        case measure => simp [intOf]; omega
      | false =>
        have hno := hide (pl_no (hyo.out.trans ho) hrel'.out)
        go_wp2
        go_roundw
        case rel => exact ⟨k + 1, ⟨by omega, by omega⟩, by go_num, hno.out⟩
        case measure => simp [intOf]; omega
    · have hd : decide ((k : Int) + 3 < (m : Int)) = false := decide_eq_false (by omega)
      have hfin := hide (show toI (hpTo lev m) = toI (hpTo lev k) by
        rw [← hm'.out]
        by_cases hkm : k ≤ lev.length
        · rw [hpTo_end (by rw [hm'.out]; omega) hkm]
        · rw [hpTo_small (k := k) (by omega)])
      have hb' := hide hb
      clear hown hrd hap hst
      go_wp2
      unfold RowN
      go_ret
      rw [hfin.out]
      exact ⟨_, rfl, hown'.out, hb'.out⟩
set_option maxRecDepth 100000 in
set_option maxHeartbeats 1000000 in
theorem implPlaces (s : ByteArray) (A : Option Addr) (n c : Nat) (l : List ByteArray) (w : World) (hs : s.size ≤ maxLen) (hn : n ≤ maxLen) (hl : l.length = n) (hz : ∀ s ∈ l, s.size ≤ maxLen) (h : Rd w 1 A n (cellsS l)) :
    Calls Try.prog 83 #[.string s, .slice A n c] w (RowN (toI (placesN s l)) w) := by
  obtain ⟨i0, hi, hz0, hz1, hz2⟩ := info_parts int_info
  have hlv := hide (implLevels s A n c l w hs hn hl hz h)
  have h21 := levelsW_bd s l
  have h9 := hide (levelsW_9 s l)
  have hsz := hide (show (levelsW s l).length = 0 ∨ ((levelsW s l).length = s.size + 1 ∧ s.size ≤ 20) by
    cases h1 : wordB s with
    | false => left; rw [levelsW_no (.inl h1)]; rfl
    | true =>
      cases h2 : pats20 l with
      | false => left; rw [levelsW_no (.inr h2)]; rfl
      | true => right; exact ⟨levelsW_len h1 h2, (wordB_true h1).2.2⟩)
  have hP : placesN s l = hpTo (levelsW s l) (levelsW s l).length := rfl
  rw [hP]
  clear hP
  generalize levelsW s l = lev at *
  obtain ⟨m, hm⟩ : ∃ m, lev.length = m := ⟨_, rfl⟩
  have hm' := hide hm
  rw [hm]
  rw [hm] at h21 hsz
  unfold maxLen at hs
  clear hm hn hl hz h
  go_enter Try.func83, Try.ntmps83
  go_wp2_with fail
  refine hlv.out.mono ?_
  rintro e w1 ⟨v, rfl, hrow, hb1⟩
  obtain ⟨A2, c2, rfl, _, hrd⟩ := own_form hrow
  rw [hm'.out] at hrd
  have hst := hide (show PlRel lev w A2 m 0 (.slice none 0 0) w1 from ⟨World.ownsRow_nil _ _ _ _, hrd, fun b off _ _ e => by simp [Value.ownBlock] at e, hb1⟩)
  clear hrow hb1 hrd
  rw [hm'.out]
  go_wp2
  go_loopw [5, 12] (fun v i wr => ∃ k : Nat, k ≤ m ∧ i = .int .i64 k ∧ PlRel lev w A2 m k v wr) (fun _ i _ => m - (intOf i).toNat)
  case atStart => exact ⟨0, Nat.zero_le _, rfl, hst.out⟩
  case round =>
    obtain ⟨k, hk, rfl, hrel⟩ := hrel
    have hrel' := hide hrel
    obtain ⟨hown, hrd, hap, hb⟩ := hrel
    have hown' := hide hown
    have hbs := hb.size
    have hlen := pl_len (by rw [hm'.out]; exact h21) (k := k) (by omega)
    by_cases hlt : k < m
    · obtain ⟨b, off, x, rfl, hbk, hx, c0⟩ := hrd.int hm'.out hlt
      have hx9 := levels_get h9.out hx
      have hx' := hide hx
      have hms : m = s.size + 1 ∧ s.size ≤ 20 := by rcases hsz.out with h | h <;> omega
      have hs20 := hms.2
      have hms1 := hide hms.1
      clear hown hrd hap hb hx hst hms
      cases ho : (x % 2 == 1) with
      | true =>
        cases hin : inB (k : Int) 2 ((s.size : Int) - 3) with
        | true =>
          have hib := inB_true hin
          have hyes := hide ((hyB_odd hx'.out (by omega) (by rw [hm'.out, hms1.out]; omega)).trans ho)
          go_wp2_with (first | (go_at_call 55; refine (in_any _ _ _ _).mono ?_; rintro e w' ⟨rfl, rfl⟩) | (at_builtin; refine wpList_append_lies _ rfl _ _ 39 rfl w.heap.size 3 i0 (.int .i64 0) 1 8 Try.underlying39 hi hz0 hz1 hz2 rfl (by decide) _ _ _ rfl (hown'.out.alloc _) ⟨wr.heap.size, 0, none⟩ 1 1 [.int .i64 (k : Int)] rfl rfl (fun j u hj => cell_one_at (by simp) hj) (one_cells _) (by omega) (by unfold maxLen; omega) (by omega) (by simp; omega) _ rfl ?_))
          intro g3 cap3 w3 hown3 hg3 hat3 hlt3
          have hfin := hide (pl_yes hyes.out hrel'.out hown3 hg3 (by simpa using hat3))
          clear hown3 hg3 hat3 hlt3
          go_wp2
          go_roundw
          case rel => exact ⟨k + 1, by omega, by go_num, hfin.out⟩
          case measure => simp [intOf]; omega
        | false =>
          have hib := inB_false hin
          have hno := hide (pl_no (hyB_far (lev := lev) (k := k) (by rw [hm'.out, hms1.out]; omega)) hrel'.out)
          clear hib
          go_wp2_with (go_at_call 55; refine (in_any _ _ _ _).mono ?_; rintro e w' ⟨rfl, rfl⟩)
          go_roundw
          case rel => exact ⟨k + 1, by omega, by go_num, hno.out⟩
          case measure => simp [intOf]; omega
      | false =>
        have hno := hide (pl_no (hyB_even hx'.out ho) hrel'.out)
        go_wp2
        go_roundw
        case rel => exact ⟨k + 1, by omega, by go_num, hno.out⟩
        case measure => simp [intOf]; omega
    · obtain rfl : k = m := by omega
      have hb' := hide hb
      clear hown hrd hap hst
      go_wp2
      unfold RowN
      go_ret
      exact ⟨_, rfl, hown'.out, hb'.out⟩
end Go.Proofs.Ytfhhfibjjpiccaa
