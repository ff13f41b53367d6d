/- The walk through the reference's items of a paragraph. Condition: the slices read as the lists. -/
import Derived.Test.YtfhhfibjjpiccaaPar1
import Derived.Test.YtfhhfibjjpiccaaSub
import Derived.Test.YtfhhfibjjpiccaaWords
namespace Go.Proofs.Ytfhhfibjjpiccaa
open Go.RowKit
set_option linter.unusedVariables false
set_option linter.unusedSimpArgs false
set_option maxRecDepth 100000

def ParP (R : List I) (b : Bool) (w : World) (e : Ending) (w' : World) : Prop := ∃ v, e = .returned (.tuple #[v, .bool b]) ∧ w'.ownsRow w.heap.size 65 7 v R.length (cellsI R) ∧ Below w.heap.size w w'
theorem parts_pos {s : ByteArray} {l : List ByteArray} (h1 : wordB s = true) (h2 : pats20 l = true) : 0 < (partsW s l).length := by
  rw [partsW_yes h1 h2]
  unfold partsOf
  simp
theorem pIt_pos {P : List ByteArray} (h : 0 < P.length) : 0 < (pIt P P.length).length := by
  obtain ⟨k, hk⟩ : ∃ k, P.length = k + 1 := ⟨P.length - 1, by omega⟩
  rw [hk, pIt]
  simp
theorem cells_ends : cellsI endIs = [.int .i64 3, .int .i64 0, .int .i64 0, .int .i64 0, .int .i64 0, .int .i64 10000, .bool false, .int .i64 2, .int .i64 0, .int .i64 1, .int .i64 0, .int .i64 1, .int .i64 0, .bool false, .int .i64 3, .int .i64 0, .int .i64 0, .int .i64 0, .int .i64 0, .int .i64 (-10000), .bool false] := rfl
def PaRel (W l : List ByteArray) (w : World) (L : List I) (n : Nat) (v : Value) (wr : World) : Prop :=
  wr.ownsRow w.heap.size 65 7 v n (cellsI L) ∧ L.length = n ∧ Below w.heap.size w wr
theorem pa_many {W l : List ByteArray} {w wr w3 : World} {L M : List I} {n m g3 cap3 : Nat} {v : Value} {xs : List Value} (hm : M.length = m) (hxs : xs = cellsI M) (h : PaRel W l w L n v wr)
    (hown3 : w3.ownsRow w.heap.size 65 7 (.slice (some ⟨g3, 0, none⟩) (n + m) cap3) (n + m) (cellsI L ++ xs))
    (hg3 : (wr.alloc (.cells xs.toArray 65)).grownBy w3 v.ownBlock) : PaRel W l w (L ++ M) (n + m) (.slice (some ⟨g3, 0, none⟩) (n + m) cap3) w3 := by
  obtain ⟨h1, hLn, h4⟩ := h
  refine ⟨?_, by rw [List.length_append, hLn, hm], (h4.alloc h4.size _).grown hg3 (by simp; have := h4.size; omega) (fun kk hkk => (h1.lt kk hkk).1)⟩
  rw [cellsI_append, ← hxs]
  exact hown3
theorem pa_list {W l : List ByteArray} {w wr w3 : World} {L M : List I} {n m g3 cap3 : Nat} {v : Value} (hm : M.length = m) (h : PaRel W l w L n v wr)
    (hown3 : w3.ownsRow w.heap.size 65 7 (.slice (some ⟨g3, 0, none⟩) (n + m) cap3) (n + m) (cellsI L ++ cellsI M))
    (hg3 : wr.grownBy w3 v.ownBlock) : PaRel W l w (L ++ M) (n + m) (.slice (some ⟨g3, 0, none⟩) (n + m) cap3) w3 := by
  obtain ⟨h1, hLn, h4⟩ := h
  refine ⟨?_, by rw [List.length_append, hLn, hm], h4.grown hg3 h4.size (fun kk hkk => (h1.lt kk hkk).1)⟩
  rw [cellsI_append]
  exact hown3
theorem pa_below {W l : List ByteArray} {w wr w3 : World} {L : List I} {n : Nat} {v : Value} (h : PaRel W l w L n v wr) (hb : Below wr.heap.size wr w3) : PaRel W l w L n v w3 :=
  ⟨own_below h.1 hb, h.2.1, h.2.2.trans (hb.mono h.2.2.size)⟩
theorem wIt_first {W l : List ByteArray} {t : ByteArray} (h : W[0]? = some t) : wIt W l (0 + 1) = wIt W l 0 ++ pIt (partsW t l) (partsW t l).length := by rw [Nat.zero_add, wIt_one h]; rfl
set_option maxHeartbeats 4000000 in
theorem specPar (A : Option Addr) (n c : Nat) (W : List ByteArray) (B : Option Addr) (m d : Nat) (l : List ByteArray) (w : World) (hn : n ≤ maxLen) (hW : W.length = n) (hz : ∀ s ∈ W, s.size ≤ maxLen) (h : Rd w 1 A n (cellsS W))
    (hm : m ≤ maxLen) (hl : l.length = m) (hy : ∀ s ∈ l, s.size ≤ maxLen) (h2 : Rd w 1 B m (cellsS l)) :
    Calls Try.prog 42 #[.slice A n c, .slice B m d] w (ParP (parR W l) (parB W l) w) := by
  obtain ⟨i0, hi, hz0, hz1, hz2⟩ := info_parts item_info
  have hww := hide (specWords A n c W (w.alloc (.cells #[] 65)) hn hW hz (h.alloc _))
  have hpp := hide (specPats B m d l (w.alloc (.cells #[] 65)) hm hl hy (h2.alloc _))
  have hk0 := Blk.new w 65 #[]
  have hk0' := hide (own_empty7 (base := w.heap.size) hk0 (Nat.le_refl _))
  have hb0' := hide ((Below.refl w.heap.size w).alloc (Nat.le_refl _) (.cells #[] 65))
  have hword := hide (fun s W0 hs hr => specWord6 s B m d l W0 hs hm hl hy hr)
  cases hv : words12 W with
  | false =>
    have e1 := parB_no (show parOk W l = false by unfold parOk; rw [hv]; rfl)
    rw [parR_no e1, e1]
    clear hn hW hz h hm hl hy h2 hpp hword e1
    go_enter Try.func42, Try.ntmps42
    go_wp2_with fail
    refine hww.out.mono ?_
    rintro e w' ⟨rfl, rfl⟩
    rw [hv]
    go_wp2
    unfold ParP
    go_ret2
    exact ⟨_, rfl, hk0'.out, hb0'.out⟩
  | true =>
    cases hp : pats20 l with
    | false =>
      have e1 := parB_no (show parOk W l = false by unfold parOk; rw [hv, hp]; rfl)
      rw [parR_no e1, e1]
      clear hn hW hz h hm hl hy h2 hword e1
      go_enter Try.func42, Try.ntmps42
      go_wp2_with fail
      refine hww.out.mono ?_
      rintro e w' ⟨rfl, rfl⟩
      rw [hv]
      go_wp2_with fail
      refine hpp.out.mono ?_
      rintro e w' ⟨rfl, rfl⟩
      rw [hp]
      go_wp2
      unfold ParP
      go_ret2
      exact ⟨_, rfl, hk0'.out, hb0'.out⟩
    | true =>
      by_cases h0 : n = 0
      · subst h0
        have e1 := parB_no (show parOk W l = false by unfold parOk; rw [hv, hp, hW]; rfl)
        rw [parR_no e1, e1]
        clear hn hW hz h hm hl hy h2 hword e1
        go_enter Try.func42, Try.ntmps42
        go_wp2_with fail
        refine hww.out.mono ?_
        rintro e w' ⟨rfl, rfl⟩
        rw [hv]
        go_wp2_with fail
        refine hpp.out.mono ?_
        rintro e w' ⟨rfl, rfl⟩
        rw [hp]
        go_wp2
        unfold ParP
        go_ret2
        exact ⟨_, rfl, hk0'.out, hb0'.out⟩
      · have hok : parOk W l = true := by unfold parOk; rw [hv, hp, decide_eq_true (show 0 < W.length by omega)]; rfl
        have h12 := words12_len hv
        rw [hW] at h12
        have hnz : ((n : Int) == 0) = false := by simpa using h0
        have hpos := hide (fun (x : ByteArray) (hx : x ∈ W) => pIt_pos (parts_pos (words_at hv x hx) hp))
        have hplen := hide (fun (x : ByteArray) => (show (pIt (partsW x l) (partsW x l).length).length ≤ 44 from by have := pIt_len (partsW x l) (partsW x l).length; have := parts_bd x l; omega))
        have hst := hide (show PaRel W l w (wIt W l 0) 0 (Value.slice (some ⟨w.heap.size, 0, none⟩) 0 0) (w.alloc (.cells #[] 65)) from ⟨hk0'.out, rfl, hb0'.out⟩)
        have hend := hide (parB_end hok)
        have hW' := hide hW
        have hz' := hide hz
        have h' := hide h
        have h2' := hide h2
        clear hn hW hz h hl hy h2 hk0 hk0' hb0'
        go_enter Try.func42, Try.ntmps42
        go_wp2_with fail
        refine hww.out.mono ?_
        rintro e w' ⟨rfl, rfl⟩
        rw [hv]
        go_wp2_with fail
        refine hpp.out.mono ?_
        rintro e w' ⟨rfl, rfl⟩
        rw [hp]
        clear hv hp hok hww hpp
        go_wp2
        go_loopw [6, 7] (fun v i wr => ∃ k j : Nat, k ≤ n ∧ i = .int .i64 k ∧ PaRel W l w (wIt W l k) j v wr) (fun _ i _ => n - (intOf i).toNat)
        case atStart => exact ⟨0, 0, Nat.zero_le _, rfl, hst.out⟩
        case round =>
          clear hst
          obtain ⟨k, j, hk, rfl, hrel⟩ := hrel
          have hrel' := hide hrel
          obtain ⟨hown, hLj, hb⟩ := hrel
          have hown' := hide hown
          have hbs := hb.size
          have hlen := wIt_len W l k
          rw [hLj] at hlen
          have hLj' := hide hLj
          clear hLj
          by_cases hlt : k < n
          · by_cases k0 : k = 0
            · subst k0
              obtain ⟨b, off, x, rfl, hbk, hx, c0⟩ := (h'.out.below hb).str hW'.out hlt
              simp only [Nat.zero_mul, Nat.add_zero] at c0
              have hxm := List.mem_of_getElem? hx
              have hxz := hide (hz'.out x hxm)
              have hMp := hpos.out x hxm
              have hML := hplen.out x
              have e0 := hide (wIt_first (l := l) hx)
              have hwc := hide (hword.out x wr (hz'.out x hxm) (h2'.out.below hb))
              clear hown hb hx hxm
              generalize pIt (partsW x l) (partsW x l).length = M at *
              obtain ⟨mm, hMe⟩ : ∃ mm, M.length = mm := ⟨_, rfl⟩
              rw [hMe] at hMp hML
              unfold RowI at hwc
              rw [hMe] at hwc
              have hMe' := hide hMe
              clear hMe
              go_wp2_with fail
              refine hwc.out.mono ?_
              rintro e w5 ⟨v6, rfl, hrow6, hb5⟩
              have hP5 := hide (pa_below hrel'.out hb5)
              have hs5 := hP5.out.2.2.size
              obtain ⟨A6, c6, rfl, _, hrd6⟩ := own_form hrow6
              obtain ⟨b6, off6, rfl, hbk6, hx6⟩ := hrd6.2 hMp
              have hx6' := hide hx6
              have hl6 := hide hrd6.1
              have hown5 := hide hP5.out.1
              clear hb5 hrow6 hrd6 hrel' hx6 c0
              go_wp2_with (at_builtin; refine wpList_append_lies _ rfl _ _ 41 rfl w.heap.size 65 i0 (.agg #[.int .i64 0, .int .i64 0, .int .i64 0, .int .i64 0, .int .i64 0, .int .i64 0, .bool false]) 7 56 Try.underlying41 hi hz0 hz1 hz2 rfl (by decide) _ _ _ rfl hown5.out ⟨b6, off6, none⟩ mm c6 (cellsI M) rfl hl6.out (fun j u hj => by rw [addr_add]; exact hx6'.out j u hj) (one_items M) hMp (by unfold maxLen; omega) (by omega) (by omega) _ rfl ?_)
              intro g7 cap7 w7 hown7 hg7 hat7 hlt7
              have hfin := hide (pa_list (M := M) hMe'.out hP5.out hown7 hg7)
              rw [← e0.out] at hfin
              clear hown7 hg7 hat7 hlt7 hP5 hown5 hx6' hl6
              go_wp2
              go_roundw
              case rel => exact ⟨0 + 1, _, by omega, by go_num, hfin.out⟩
              case measure => simp [intOf]; omega
            · have kp : 0 < k := by omega
              have kpi : (0 : Int) < (k : Int) := by omega
              go_wp2_with (at_builtin; refine wpList_append_lies _ rfl _ _ 41 rfl (w.heap.size) 65 i0 (.agg #[.int .i64 0, .int .i64 0, .int .i64 0, .int .i64 0, .int .i64 0, .int .i64 0, .bool false]) 7 56 Try.underlying41 hi hz0 hz1 hz2 rfl (by decide) _ _ _ rfl (hown'.out.alloc _) ⟨wr.heap.size, 0, none⟩ 1 1 [.int .i64 2, .int .i64 4, .int .i64 3, .int .i64 1, .int .i64 0, .int .i64 0, .bool false] rfl rfl (news_new wr 65 [.int .i64 2, .int .i64 4, .int .i64 3, .int .i64 1, .int .i64 0, .int .i64 0, .bool false]) (one_item7 _ _ _ _ _ _ _) (by omega) (by unfold maxLen; omega) (by omega) (by simp; omega) _ rfl ?_)
              intro g3 cap3 w3 hown3 hg3 hat3 hlt3
              have hmid := hide (pa_many (M := [spI]) (m := 1) rfl (by simp [cellsI, I.cells, spI]) hrel'.out hown3 hg3)
              have hbm := hmid.out.2.2
              obtain ⟨b, off, x, rfl, hbk, hx, c0⟩ := (h'.out.below hbm).str hW'.out hlt
              have hxm := List.mem_of_getElem? hx
              have hxz := hide (hz'.out x hxm)
              have hMp := hpos.out x hxm
              have hML := hplen.out x
              have e0 := hide (wIt_next (l := l) hx kp)
              have hwc := hide (hword.out x w3 (hz'.out x hxm) (h2'.out.below hbm))
              have hbs3 := hbm.size
              clear hown hb hx hxm hbm hown3 hg3 hat3 hlt3 hown' hrel'
              generalize pIt (partsW x l) (partsW x l).length = M at *
              obtain ⟨mm, hMe⟩ : ∃ mm, M.length = mm := ⟨_, rfl⟩
              rw [hMe] at hMp hML
              unfold RowI at hwc
              rw [hMe] at hwc
              have hMe' := hide hMe
              clear hMe
              go_wp2_with fail
              refine hwc.out.mono ?_
              rintro e w5 ⟨v6, rfl, hrow6, hb5⟩
              have hP5 := hide (pa_below hmid.out hb5)
              have hs5 := hP5.out.2.2.size
              obtain ⟨A6, c6, rfl, _, hrd6⟩ := own_form hrow6
              obtain ⟨b6, off6, rfl, hbk6, hx6⟩ := hrd6.2 hMp
              have hx6' := hide hx6
              have hl6 := hide hrd6.1
              have hown5 := hide hP5.out.1
              clear hb5 hrow6 hrd6 hmid hx6 c0
              go_wp2_with (at_builtin; refine wpList_append_lies _ rfl _ _ 41 rfl w.heap.size 65 i0 (.agg #[.int .i64 0, .int .i64 0, .int .i64 0, .int .i64 0, .int .i64 0, .int .i64 0, .bool false]) 7 56 Try.underlying41 hi hz0 hz1 hz2 rfl (by decide) _ _ _ rfl hown5.out ⟨b6, off6, none⟩ mm c6 (cellsI M) rfl hl6.out (fun j u hj => by rw [addr_add]; exact hx6'.out j u hj) (one_items M) hMp (by unfold maxLen; omega) (by omega) (by omega) _ rfl ?_)
              intro g7 cap7 w7 hown7 hg7 hat7 hlt7
              have hfin := hide (pa_list (M := M) hMe'.out hP5.out hown7 hg7)
              rw [← e0.out] at hfin
              clear hown7 hg7 hat7 hlt7 hP5 hown5 hx6' hl6
              go_wp2
              go_roundw
              case rel => exact ⟨k + 1, _, by omega, by go_num, hfin.out⟩
              case measure => simp [intOf]; omega
          · obtain rfl : n = k := by omega
            clear hown hb
            go_wp2_with (at_builtin; refine wpList_append_lies _ rfl _ _ 41 rfl (w.heap.size) 65 i0 (.agg #[.int .i64 0, .int .i64 0, .int .i64 0, .int .i64 0, .int .i64 0, .int .i64 0, .bool false]) 7 56 Try.underlying41 hi hz0 hz1 hz2 rfl (by decide) _ _ _ rfl (hown'.out.alloc _) ⟨wr.heap.size, 0, none⟩ 3 3 [.int .i64 3, .int .i64 0, .int .i64 0, .int .i64 0, .int .i64 0, .int .i64 10000, .bool false, .int .i64 2, .int .i64 0, .int .i64 1, .int .i64 0, .int .i64 1, .int .i64 0, .bool false, .int .i64 3, .int .i64 0, .int .i64 0, .int .i64 0, .int .i64 0, .int .i64 (-10000), .bool false] rfl rfl (news_new wr 65 [.int .i64 3, .int .i64 0, .int .i64 0, .int .i64 0, .int .i64 0, .int .i64 10000, .bool false, .int .i64 2, .int .i64 0, .int .i64 1, .int .i64 0, .int .i64 1, .int .i64 0, .bool false, .int .i64 3, .int .i64 0, .int .i64 0, .int .i64 0, .int .i64 0, .int .i64 (-10000), .bool false]) (one_items endIs) (by omega) (by unfold maxLen; omega) (by omega) (by simp; omega) _ rfl ?_)
            intro g3 cap3 w3 hown3 hg3 hat3 hlt3
            have hfin := hide (pa_many (M := endIs) (m := 3) rfl rfl hrel'.out hown3 hg3)
            have hlK : (parI W l).length = j + 3 := by rw [parI_len, hW'.out, hLj'.out]
            have hPI : parI W l = wIt W l n ++ endIs := by unfold parI; rw [hW'.out]
            clear hown3 hg3 hat3 hlt3 hrel'
            by_cases h60 : j + 3 ≤ 60
            · have hB : parB W l = true := by rw [hend.out, hlK]; exact decide_eq_true h60
              have d60 : decide (60 < ((j + 3 : Nat) : Int)) = false := decide_eq_false (by omega)
              have d60b : decide (60 < (j : Int) + 3) = false := decide_eq_false (by omega)
              have d60c : decide (60 < j + 3) = false := decide_eq_false (by omega)
              have hfin1 := hide hfin.out.1
              have hfin2 := hide hfin.out.2.2
              have hB' := hide hB
              have hPI' := hide hPI
              have hlK' := hide hlK
              clear hlK hPI hB hlen
              go_wp2
              unfold ParP
              go_ret2
              rw [parR_yes hB'.out, hB'.out]
              exact ⟨_, rfl, by rw [hlK'.out, hPI'.out]; exact hfin1.out, hfin2.out⟩
            · have hB : parB W l = false := by rw [hend.out, hlK]; exact decide_eq_false h60
              have d60 : decide (60 < ((j + 3 : Nat) : Int)) = true := decide_eq_true (by omega)
              have d60b : decide (60 < (j : Int) + 3) = true := decide_eq_true (by omega)
              have d60c : decide (60 < j + 3) = true := decide_eq_true (by omega)
              have hfin2 := hide hfin.out.2.2
              have hs2 := hfin.out.2.2.size
              have hB' := hide hB
              clear hlK hPI hB hfin
              go_wp2
              unfold ParP
              go_ret2
              rw [parR_no hB'.out, hB'.out]
              exact ⟨_, rfl, own_empty7 (Blk.new w3 65 #[]) hs2, hfin2.out.alloc hs2 _⟩
end Go.Proofs.Ytfhhfibjjpiccaa
