/- The walk through the items of one word. Condition: the slice reads as the list of patterns. -/
import Derived.Test.YtfhhfibjjpiccaaParLaw
import Derived.Test.YtfhhfibjjpiccaaParts
import Derived.Test.YtfhhfibjjpiccaaWidth
import Derived.Test.YtfhhfibjjpiccaaExI
import Derived.Test.YtfhhfibjjpiccaaSub
namespace Go.Proofs.Ytfhhfibjjpiccaa
open Go.RowKit
set_option linter.unusedVariables false
set_option linter.unusedSimpArgs false
set_option maxRecDepth 100000

theorem own_empty7 {w : World} {t : TypeId} {base g : Nat} (h : Blk w g t #[]) (hg : base ≤ g) : w.ownsRow base t 7 (.slice (some ⟨g, 0, none⟩) 0 0) 0 [] :=
  ⟨rfl, .inr ⟨g, 0, #[], rfl, hg, h, Nat.le_refl _, by simp [maxLen], rfl, rfl⟩⟩
def RowI (R : List I) (w : World) (e : Ending) (w' : World) : Prop := ∃ v, e = .returned v ∧ w'.ownsRow w.heap.size 65 7 v R.length (cellsI R) ∧ Below w.heap.size w w'
theorem one_item7 (a b c d e f : Int) (m : Bool) : ∀ u ∈ [Value.int .i64 a, .int .i64 b, .int .i64 c, .int .i64 d, .int .i64 e, .int .i64 f, .bool m], u.oneCell' = true := by
  intro u hu
  simp at hu
  rcases hu with rfl | rfl | rfl | rfl | rfl | rfl | rfl <;> rfl
theorem cellsI_snoc (L : List I) (x : I) : cellsI (L ++ [x]) = cellsI L ++ I.cells x := by simp [cellsI]
theorem cellsI_append (L M : List I) : cellsI (L ++ M) = cellsI L ++ cellsI M := by simp [cellsI]
/-- A row of items grows while the row P (texts) lies apart. -/
def PiRel (P : List ByteArray) (w : World) (A : Option Addr) (L : List I) (n : Nat) (v : Value) (wr : World) : Prop :=
  wr.ownsRow w.heap.size 65 7 v n (cellsI L) ∧ L.length = n ∧ Rd wr 1 A P.length (cellsS P) ∧ (∀ b off, A = some ⟨b, off, none⟩ → 0 < P.length → v.ownBlock ≠ some b) ∧ Below w.heap.size w wr
theorem pi_many {P : List ByteArray} {w wr w3 : World} {A : Option Addr} {L M : List I} {n m g3 cap3 : Nat} {v : Value} {xs : List Value} (hm : M.length = m) (hxs : xs = cellsI M) (h : PiRel P w A L n v wr)
    (hown3 : w3.ownsRow w.heap.size 65 7 (.slice (some ⟨g3, 0, none⟩) (n + m) cap3) (n + m) (cellsI L ++ xs))
    (hg3 : (wr.alloc (.cells xs.toArray 65)).grownBy w3 v.ownBlock) (hat : v.ownBlock = some g3 ∨ g3 = wr.heap.size + 1) : PiRel P w A (L ++ M) (n + m) (.slice (some ⟨g3, 0, none⟩) (n + m) cap3) w3 := by
  obtain ⟨h1, hLn, h2, h3, h4⟩ := h
  have hrd := h2.alloc (.cells xs.toArray 65)
  refine ⟨?_, by rw [List.length_append, hLn, hm], hrd.rowO hg3 h3, apart_step h3 (fun b off hA hm => by have := h2.blk_lt b off hA hm; omega) hat, (h4.alloc h4.size _).grown hg3 (by simp; have := h4.size; omega) (fun kk hkk => (h1.lt kk hkk).1)⟩
  rw [cellsI_append, ← hxs]
  exact hown3
theorem pi_below {P : List ByteArray} {w wr w3 : World} {A : Option Addr} {L : List I} {n : Nat} {v : Value} (h : PiRel P w A L n v wr) (hb : Below wr.heap.size wr w3) : PiRel P w A L n v w3 := by
  obtain ⟨h1, hLn, h2, h3, h4⟩ := h
  exact ⟨own_below h1 hb, hLn, h2.below hb, h3, h4.trans (hb.mono h4.size)⟩
theorem len1 (x : I) : [x].length = 1 := rfl
theorem pIt_first {P : List ByteArray} {t : ByteArray} (h : P[0]? = some t) : pIt P (0 + 1) = pIt P 0 ++ [boxI t] := by rw [Nat.zero_add, pIt_one h]; rfl
theorem size_part {s : ByteArray} {l : List ByteArray} : ∀ t ∈ partsW s l, t.size ≤ maxLen := by
  intro t ht
  have := wordB_true (parts_word t ht)
  unfold maxLen; omega
set_option maxHeartbeats 2000000 in
theorem specWord6 (s : ByteArray) (A : Option Addr) (n c : Nat) (l : List ByteArray) (w : World) (hs : s.size ≤ maxLen) (hn : n ≤ maxLen) (hl : l.length = n) (hz : ∀ s ∈ l, s.size ≤ maxLen) (h : Rd w 1 A n (cellsS l)) :
    Calls Try.prog 64 #[.string s, .slice A n c] w (RowI (pIt (partsW s l) (partsW s l).length) w) := by
  obtain ⟨i0, hi, hz0, hz1, hz2⟩ := info_parts item_info
  have hpt := hide (specParts s A n c l (w.alloc (.cells #[] 65)) hs hn hl hz (h.alloc _))
  have hk0 := Blk.new w 65 #[]
  have h22 := parts_bd s l
  have hPz := hide (size_part (s := s) (l := l))
  have hwd := hide (fun x W h => specWidth x W h)
  clear hn hl hz h hs
  generalize partsW s l = P at *
  obtain ⟨m, hm⟩ : ∃ m, P.length = m := ⟨_, rfl⟩
  have hm' := hide hm
  rw [hm] at h22 ⊢
  clear hm
  go_enter Try.func64, Try.ntmps64
  go_wp2_with fail
  refine hpt.out.mono ?_
  rintro e w1 ⟨v, rfl, hrow, hb1⟩
  obtain ⟨A2, c2, rfl, _, hrd⟩ := own_form hrow
  have hk1 := own_empty7 (base := w.heap.size) (hk0.below' hb1) (Nat.le_refl _)
  have hap : ∀ b off, A2 = some ⟨b, off, none⟩ → 0 < P.length → (Value.slice (some ⟨w.heap.size, 0, none⟩) 0 0).ownBlock ≠ some b := by
    intro b off hA _ e
    have := (hrow.lt b (by rw [hA]; rfl)).1
    have e2 : w.heap.size = b := by simpa [Value.ownBlock] using e
    simp at this
    omega
  have hst := hide (show PiRel P w A2 (pIt P 0) 0 (Value.slice (some ⟨w.heap.size, 0, none⟩) 0 0) w1 from ⟨hk1, rfl, hrd, hap, ((Below.refl w.heap.size w).alloc (Nat.le_refl _) _).trans (hb1.mono (by simp))⟩)
  clear hk0 hk1 hrow hb1 hrd hap hpt
  rw [hm'.out]
  go_wp2
  go_loopw [5, 7] (fun v i wr => ∃ k j : Nat, k ≤ m ∧ i = .int .i64 k ∧ PiRel P w A2 (pIt P k) j v wr) (fun _ i _ => m - (intOf i).toNat)
  case atStart => exact ⟨0, 0, Nat.zero_le _, rfl, hst.out⟩
  case round =>
    clear hst
    obtain ⟨k, j, hk, rfl, hrel⟩ := hrel
    have hrel' := hide hrel
    obtain ⟨hown, hLj, hrd, hap, hb⟩ := hrel
    have hown' := hide hown
    have hbs := hb.size
    have hlen := pIt_len P k
    rw [hLj] at hlen
    clear hLj
    by_cases hlt : k < m
    · obtain ⟨b, off, x, rfl, hbk, hx, c0⟩ := hrd.str rfl (show k < P.length by have := hm'.out; omega)
      have hx' := hide hx
      have hxz := hide (hPz.out x (List.mem_of_getElem? hx))
      clear hown hap hb hx
      by_cases k0 : k = 0
      · subst k0
        have e0 := pIt_first hx'.out
        simp only [Nat.zero_mul, Nat.add_zero] at c0
        clear hrd
        go_wp2_with fail
        clear c0
        refine (hwd.out x _ hxz.out).mono ?_
        rintro e w5 ⟨rfl, hb5⟩
        have hP5 := hide (pi_below hrel'.out hb5)
        have hown5 := hide hP5.out.1
        have hs5 := hP5.out.2.2.2.2.size
        clear hb5 hrel'
        go_wp2_with (at_builtin; refine wpList_append_lies _ rfl _ _ 41 rfl (w.heap.size) 65 i0 (.agg #[.int .i64 0, .int .i64 0, .int .i64 0, .int .i64 0, .int .i64 0, .int .i64 0, .bool false]) 7 56 Try.underlying41 hi hz0 hz1 hz2 rfl (by decide) _ _ _ rfl (hown5.out.alloc _) ⟨w5.heap.size, 0, none⟩ 1 1 [.int .i64 1, .int .i64 (widthW x), .int .i64 0, .int .i64 0, .int .i64 0, .int .i64 0, .bool false] rfl rfl (news_new w5 65 [.int .i64 1, .int .i64 (widthW x), .int .i64 0, .int .i64 0, .int .i64 0, .int .i64 0, .bool false]) (one_item7 _ _ _ _ _ _ _) (by omega) (by unfold maxLen; omega) (by omega) (by simp; omega) _ rfl ?_)
        intro g6 cap6 w6 hown6 hg6 hat6 hlt6
        have hfin := hide (pi_many (M := [boxI x]) (m := 1) rfl (by simp [cellsI, I.cells, boxI]) hP5.out hown6 hg6 (by simpa using hat6))
        rw [← e0] at hfin
        clear hown6 hg6 hat6 hlt6 hP5 hown5
        go_wp2
        go_roundw
        case rel => exact ⟨0 + 1, _, by omega, by go_num, hfin.out⟩
        case measure => simp [intOf]; omega
      · have kp : 0 < k := by omega
        have kpi : (0 : Int) < (k : Int) := by omega
        have e0 := pIt_next hx'.out kp
        clear hrd c0
        go_wp2_with (at_builtin; refine wpList_append_lies _ rfl _ _ 41 rfl (w.heap.size) 65 i0 (.agg #[.int .i64 0, .int .i64 0, .int .i64 0, .int .i64 0, .int .i64 0, .int .i64 0, .bool false]) 7 56 Try.underlying41 hi hz0 hz1 hz2 rfl (by decide) _ _ _ rfl (hown'.out.alloc _) ⟨wr.heap.size, 0, none⟩ 1 1 [.int .i64 3, .int .i64 3, .int .i64 0, .int .i64 0, .int .i64 0, .int .i64 50, .bool true] rfl rfl (news_new wr 65 [.int .i64 3, .int .i64 3, .int .i64 0, .int .i64 0, .int .i64 0, .int .i64 50, .bool true]) (one_item7 _ _ _ _ _ _ _) (by omega) (by unfold maxLen; omega) (by omega) (by simp; omega) _ rfl ?_)
        intro g3 cap3 w3 hown3 hg3 hat3 hlt3
        have hmid := hide (pi_many (M := [hyI]) (m := 1) rfl (by simp [cellsI, I.cells, hyI]) hrel'.out hown3 hg3 (by simpa using hat3))
        obtain ⟨b9, off9, x9, hA9, hbk9, hx9, d9⟩ := hmid.out.2.2.1.str rfl (show k < P.length by have := hm'.out; omega)
        injection hA9 with hA9
        injection hA9 with hA91 hA92
        subst hA91
        subst hA92
        have hxe : x9 = x := by rw [hx'.out] at hx9; exact (Option.some.inj hx9).symm
        rw [hxe] at d9
        clear hxe hx9 hown3 hg3 hat3 hlt3 hrel' hown'
        go_wp2_with fail
        refine (hwd.out x _ hxz.out).mono ?_
        rintro e w5 ⟨rfl, hb5⟩
        have hP5 := hide (pi_below hmid.out hb5)
        have hown5 := hide hP5.out.1
        have hs5 := hP5.out.2.2.2.2.size
        clear hb5 hmid
        go_wp2_with (at_builtin; refine wpList_append_lies _ rfl _ _ 41 rfl (w.heap.size) 65 i0 (.agg #[.int .i64 0, .int .i64 0, .int .i64 0, .int .i64 0, .int .i64 0, .int .i64 0, .bool false]) 7 56 Try.underlying41 hi hz0 hz1 hz2 rfl (by decide) _ _ _ rfl (hown5.out.alloc _) ⟨w5.heap.size, 0, none⟩ 1 1 [.int .i64 1, .int .i64 (widthW x), .int .i64 0, .int .i64 0, .int .i64 0, .int .i64 0, .bool false] rfl rfl (news_new w5 65 [.int .i64 1, .int .i64 (widthW x), .int .i64 0, .int .i64 0, .int .i64 0, .int .i64 0, .bool false]) (one_item7 _ _ _ _ _ _ _) (by omega) (by unfold maxLen; omega) (by omega) (by simp; omega) _ rfl ?_)
        intro g6 cap6 w6 hown6 hg6 hat6 hlt6
        have hfin := hide (pi_many (M := [boxI x]) (m := 1) rfl (by simp [cellsI, I.cells, boxI]) hP5.out hown6 hg6 (by simpa using hat6))
        rw [← e0] at hfin
        clear hown6 hg6 hat6 hlt6 hP5 hown5
        go_wp2
        go_roundw
        case rel => exact ⟨k + 1, _, by omega, by go_num, hfin.out⟩
        case measure => simp [intOf]; omega
    · obtain rfl : m = k := by omega
      have hb' := hide hb
      have hLj := hide hrel'.out.2.1
      clear hown hrd hap hb hrel'
      go_wp2
      unfold RowI
      go_ret
      exact ⟨_, rfl, by rw [hLj.out]; exact hown'.out, hb'.out⟩
end Go.Proofs.Ytfhhfibjjpiccaa
