/- The walk through the program's items of a paragraph. Condition: the slices read as the lists. -/
import Derived.Test.YtfhhfibjjpiccaaPar2
import Derived.Laws.OwnMore
namespace Go.Proofs.Ytfhhfibjjpiccaa
open Go.RowKit
set_option linter.unusedVariables false
set_option linter.unusedSimpArgs false
set_option maxRecDepth 100000

/-- The growing rows: items (v) and texts (t), apart from each other. -/
def TwRel (w : World) (L : List I) (n tn : Nat) (v t : Value) (wr : World) : Prop :=
  ∃ TL : List ByteArray, wr.ownsRow w.heap.size 65 7 v n (cellsI L) ∧ L.length = n ∧ wr.ownsRow w.heap.size 9 1 t tn (cellsS TL) ∧ (∀ k, v.ownBlock = some k → t.ownBlock ≠ some k) ∧ Below w.heap.size w wr
theorem tw_below {w wr w3 : World} {L : List I} {n tn : Nat} {v t : Value} (h : TwRel w L n tn v t wr) (hb : Below wr.heap.size wr w3) : TwRel w L n tn v t w3 := by
  obtain ⟨TL, h1, h2, h3, h4, h5⟩ := h
  exact ⟨TL, own_below h1 hb, h2, own_below h3 hb, h4, h5.trans (hb.mono h5.size)⟩
theorem tw_items {w wr w3 : World} {L M : List I} {n tn m g3 cap3 : Nat} {v t : Value} {xs : List Value} (hm : M.length = m) (hxs : xs = cellsI M) (h : TwRel w L n tn v t wr)
    (hown3 : w3.ownsRow w.heap.size 65 7 (.slice (some ⟨g3, 0, none⟩) (n + m) cap3) (n + m) (cellsI L ++ xs))
    (hg3 : (wr.alloc (.cells xs.toArray 65)).grownBy w3 v.ownBlock) (hat : v.ownBlock = some g3 ∨ g3 = wr.heap.size + 1) : TwRel w (L ++ M) (n + m) tn (.slice (some ⟨g3, 0, none⟩) (n + m) cap3) t w3 := by
  obtain ⟨TL, h1, h2, h3, h4, h5⟩ := h
  refine ⟨TL, by rw [cellsI_append, ← hxs]; exact hown3, by rw [List.length_append, h2, hm], ?_, ?_, (h5.alloc h5.size _).grown hg3 (by simp; have := h5.size; omega) (fun kk hkk => (h1.lt kk hkk).1)⟩
  · refine own_keep (h3.alloc _) (fun kk hkk => hg3.block kk (by have := (h3.lt kk hkk).2; simp; omega) (fun e => ?_))
    exact h4 kk e.symm hkk
  · intro k hk e
    have e2 : g3 = k := by simpa [Value.ownBlock] using hk
    rcases hat with hat | hat
    · exact h4 k (by rw [hat, e2]) e
    · have := (h3.lt k e).2
      omega
theorem tw_text {w wr w3 : World} {L : List I} {n tn g3 cap3 : Nat} {v t : Value} {x : ByteArray} {TL : List ByteArray} (h1 : wr.ownsRow w.heap.size 65 7 v n (cellsI L)) (h2 : L.length = n) (h3 : wr.ownsRow w.heap.size 9 1 t tn (cellsS TL)) (h4 : ∀ k, v.ownBlock = some k → t.ownBlock ≠ some k) (h5 : Below w.heap.size w wr)
    (hown3 : w3.ownsRow w.heap.size 9 1 (.slice (some ⟨g3, 0, none⟩) (tn + 1) cap3) (tn + 1) (cellsS TL ++ [.string x]))
    (hg3 : (wr.alloc (.cells #[.string x] 9)).grownBy w3 t.ownBlock) (hat : t.ownBlock = some g3 ∨ g3 = wr.heap.size + 1) : TwRel w L n (tn + 1) v (.slice (some ⟨g3, 0, none⟩) (tn + 1) cap3) w3 := by
  refine ⟨TL ++ [x], ?_, h2, by simpa [cellsS] using hown3, ?_, (h5.alloc h5.size _).grown hg3 (by simp; have := h5.size; omega) (fun kk hkk => (h3.lt kk hkk).1)⟩
  · refine own_keep (h1.alloc _) (fun kk hkk => hg3.block kk (by have := (h1.lt kk hkk).2; simp; omega) (fun e => ?_))
    exact h4 kk hkk e.symm
  · intro k hk e
    have e2 : g3 = k := by simpa [Value.ownBlock] using e
    rcases hat with hat | hat
    · exact h4 k hk (by rw [hat, e2])
    · have := (h1.lt k hk).2
      omega
def Par3P (R : List I) (b : Bool) (w : World) (e : Ending) (w' : World) : Prop := ∃ v t, e = .returned (.tuple #[v, t, .bool b]) ∧ (b = true → w'.ownsRow w.heap.size 65 7 v R.length (cellsI R)) ∧ Below w.heap.size w w'
def PqRel (P : List ByteArray) (A : Option Addr) (v t : Value) (wr : World) : Prop :=
  Rd wr 1 A P.length (cellsS P) ∧ (∀ b off, A = some ⟨b, off, none⟩ → 0 < P.length → v.ownBlock ≠ some b ∧ t.ownBlock ≠ some b)
theorem pq_below {P : List ByteArray} {A : Option Addr} {v t : Value} {wr w3 : World} (h : PqRel P A v t wr) (hb : Below wr.heap.size wr w3) : PqRel P A v t w3 := ⟨h.1.below hb, h.2⟩
theorem pq_v {P : List ByteArray} {A : Option Addr} {v t : Value} {wr w3 : World} {ob : Obj} {g3 n c : Nat} (h : PqRel P A v t wr) (hg : (wr.alloc ob).grownBy w3 v.ownBlock) (hat : v.ownBlock = some g3 ∨ g3 = wr.heap.size + 1) : PqRel P A (.slice (some ⟨g3, 0, none⟩) n c) t w3 := by
  refine ⟨(h.1.alloc ob).rowO hg (fun b off hA hn => (h.2 b off hA hn).1), fun b off hA hn => ⟨?_, (h.2 b off hA hn).2⟩⟩
  exact apart_step (fun b off hA hm => (h.2 b off hA hm).1) (fun b off hA hm => by have := h.1.blk_lt b off hA hm; omega) hat b off hA hn
theorem pq_t {P : List ByteArray} {A : Option Addr} {v t : Value} {wr w3 : World} {ob : Obj} {g3 n c : Nat} (h : PqRel P A v t wr) (hg : (wr.alloc ob).grownBy w3 t.ownBlock) (hat : t.ownBlock = some g3 ∨ g3 = wr.heap.size + 1) : PqRel P A v (.slice (some ⟨g3, 0, none⟩) n c) w3 := by
  refine ⟨(h.1.alloc ob).rowO hg (fun b off hA hn => (h.2 b off hA hn).2), fun b off hA hn => ⟨(h.2 b off hA hn).1, ?_⟩⟩
  exact apart_step (fun b off hA hm => (h.2 b off hA hm).2) (fun b off hA hm => by have := h.1.blk_lt b off hA hm; omega) hat b off hA hn
set_option maxHeartbeats 8000000 in
theorem implPar3 (A : Option Addr) (n c : Nat) (W : List ByteArray) (B : Option Addr) (m d : Nat) (l : List ByteArray) (w : World) (hn : n ≤ maxLen) (hW : W.length = n) (hz : ∀ s ∈ W, s.size ≤ maxLen) (h : Rd w 1 A n (cellsS W))
    (hm : m ≤ maxLen) (hl : l.length = m) (hy : ∀ s ∈ l, s.size ≤ maxLen) (h2 : Rd w 1 B m (cellsS l)) :
    Calls Try.prog 65 #[.slice A n c, .slice B m d] w (Par3P (parR W l) (parB W l) w) := by
  obtain ⟨i0, hi, hz0, hz1, hz2⟩ := info_parts item_info
  obtain ⟨j0, hj, hy0, hy1, hy2⟩ := info_parts str_info
  have hww := hide (implWords A n c W w hn hW hz h)
  have hpp := hide (implPats B m d l w hm hl hy h2)
  have hpa := hide (fun s W0 hs hr => implParts s B m d l W0 hs hm hl hy hr)
  have hwd := hide (fun x W h => implWidth x W h)
  cases hv : words12 W with
  | false =>
    have e1 := hide (parB_no (show parOk W l = false by unfold parOk; rw [hv]; rfl))
    clear hn hW hz h hm hl hy h2 hpp hpa
    go_enter Try.func65, Try.ntmps65
    go_wp2_with fail
    refine hww.out.mono ?_
    rintro e w' ⟨rfl, rfl⟩
    rw [hv]
    go_wp2
    unfold Par3P
    go_ret3
    exact ⟨_, _, by rw [e1.out]; rfl, (fun h => absurd (h.symm.trans e1.out) (by decide)), Below.refl _ _⟩
  | true =>
    cases hp : pats20 l with
    | false =>
      have e1 := hide (parB_no (show parOk W l = false by unfold parOk; rw [hv, hp]; rfl))
      clear hn hW hz h hm hl hy h2 hpa
      go_enter Try.func65, Try.ntmps65
      go_wp2_with fail
      refine hww.out.mono ?_
      rintro e w' ⟨rfl, rfl⟩
      rw [hv]
      go_wp2_with fail
      refine hpp.out.mono ?_
      rintro e w' ⟨rfl, rfl⟩
      rw [hp]
      go_wp2
      unfold Par3P
      go_ret3
      exact ⟨_, _, by rw [e1.out]; rfl, (fun h => absurd (h.symm.trans e1.out) (by decide)), Below.refl _ _⟩
    | true =>
      by_cases h0 : n = 0
      · subst h0
        have e1 := hide (parB_no (show parOk W l = false by unfold parOk; rw [hv, hp, hW]; rfl))
        clear hn hW hz h hm hl hy h2 hpa
        go_enter Try.func65, Try.ntmps65
        go_wp2_with fail
        refine hww.out.mono ?_
        rintro e w' ⟨rfl, rfl⟩
        rw [hv]
        go_wp2_with fail
        refine hpp.out.mono ?_
        rintro e w' ⟨rfl, rfl⟩
        rw [hp]
        go_wp2
        unfold Par3P
        go_ret3
        exact ⟨_, _, by rw [e1.out]; rfl, (fun h => absurd (h.symm.trans e1.out) (by decide)), Below.refl _ _⟩
      · have hok : parOk W l = true := by unfold parOk; rw [hv, hp, decide_eq_true (show 0 < W.length by omega)]; rfl
        have h12 := words12_len hv
        rw [hW] at h12
        have hnz : ((n : Int) == 0) = false := by simpa using h0
        have hst := hide (show TwRel w (wIt W l 0) 0 0 (.slice none 0 0) (.slice none 0 0) w from ⟨[], World.ownsRow_nil _ _ _ _, rfl, World.ownsRow_nil _ _ _ _, fun k hk => (by cases hk), Below.refl _ _⟩)
        have hend := hide (parB_end hok)
        have hW' := hide hW
        have hz' := hide hz
        have h' := hide h
        have h2' := hide h2
        clear hn hW hz h hl hy h2
        go_enter Try.func65, Try.ntmps65
        go_wp2_with fail
        refine hww.out.mono ?_
        rintro e w' ⟨rfl, rfl⟩
        rw [hv]
        go_wp2_with fail
        refine hpp.out.mono ?_
        rintro e w' ⟨rfl, rfl⟩
        rw [hp]
        clear hv hp hok hww hpp
        go_wp2
        go_loopw [7, 8, 28] (fun v t i wr => ∃ k n0 tn0 : Nat, k ≤ n ∧ n0 ≤ 45 * k ∧ tn0 ≤ 22 * k ∧ i = .int .i64 k ∧ TwRel w (wIt W l k) n0 tn0 v t wr) (fun _ _ i _ => n - (intOf i).toNat)
        case atStart => exact ⟨0, 0, 0, Nat.zero_le _, Nat.le_refl _, Nat.le_refl _, rfl, hst.out⟩
        case round =>
          clear hst
          obtain ⟨k, n0, tn0, hk, hn0, htn0, rfl, hrel⟩ := hrel
          have hrel' := hide hrel
          obtain ⟨TL0, o1, oL, o3, o4, o5⟩ := hrel
          have hown' := hide o1
          have hb := hide o5
          have hbs := o5.size
          have oL' := hide oL
          clear o1 o3 o4 o5 oL
          by_cases hlt : k < n
          · by_cases k0 : k = 0
            · subst k0
              obtain ⟨b, off, x, rfl, hbk, hx, c0⟩ := (h'.out.below hb.out).str hW'.out hlt
              simp only [Nat.zero_mul, Nat.add_zero] at c0
              have hxw := hide (hz'.out x (List.mem_of_getElem? hx))
              have e0 := hide (wIt_first (l := l) hx)
              have hbX := hb
              have hT := hrel'
              clear hx hrel' hown'
              go_wp2_with fail
              refine (hpa.out x _ hxw.out (h2'.out.below hbX.out)).mono ?_
              rintro e w5 ⟨v6, rfl, hrow6, hb5⟩
              obtain ⟨A6, c6, rfl, _, hrd6⟩ := own_form hrow6
              have hT5 := hide (tw_below hT.out hb5)
              have hq5 := hide (show PqRel (partsW x l) A6 _ _ w5 from ⟨hrd6, fun b off hA hn => by
                obtain ⟨TL, o1, _, o3, _, _⟩ := hT.out
                have hlt := (hrow6.lt b (by rw [hA]; rfl)).1
                exact ⟨fun e => by have := (o1.lt b e).2; omega, fun e => by have := (o3.lt b e).2; omega⟩⟩)
              have hPz := hide (size_part (s := x) (l := l))
              have h22 := parts_bd x l
              have ePn := hide (show wIt W l 0 ++ pIt (partsW x l) 0 = wIt W l 0 from by rw [pIt_zero, List.append_nil])
              have e0w := e0
              clear hb5 hrow6 hrd6 hT hbX e0 c0
              generalize partsW x l = P at *
              obtain ⟨m6, hm6⟩ : ∃ m6, P.length = m6 := ⟨_, rfl⟩
              have hm6' := hide hm6
              rw [hm6] at h22 ⊢
              clear hm6
              go_wp2
              go_loopw [7, 8, 44] (fun v t i wr => ∃ (jx n2 tn2 : Nat) (L2 : List I), jx ≤ m6 ∧ n2 ≤ n0 + 2 * jx ∧ tn2 ≤ tn0 + jx ∧ i = .int .i64 jx ∧ L2 = wIt W l 0 ++ pIt P jx ∧ TwRel w L2 n2 tn2 v t wr ∧ PqRel P A6 v t wr) (fun _ _ i _ => m6 - (intOf i).toNat)
              case atStart => exact ⟨0, n0, tn0, _, Nat.zero_le _, by omega, by omega, rfl, ePn.out.symm, hT5.out, hq5.out⟩
              case round =>
                clear hT5 hq5
                obtain ⟨jx, n2, tn2, L2, hjx, hn2, htn2, rfl, hL2, hrT, hrQ⟩ := hrel
                have hL2' := hide hL2
                clear hL2
                have hT2 := hide hrT
                have hT2q := hide hrQ
                obtain ⟨TL2, o1, oL, o3, o4, o5⟩ := hrT
                have hown2 := hide o1
                have hs2 := o5.size
                have hb2 := hide o5
                clear o1 oL o3 o4 o5
                by_cases hlt2 : jx < m6
                · obtain ⟨b7, off7, x, rfl, hbk7, hx7, d0⟩ := hrQ.1.str rfl (show jx < P.length by have := hm6'.out; omega)
                  have hx7' := hide hx7
                  have hxz := hide (hPz.out x (List.mem_of_getElem? hx7))
                  clear hrQ hx7
                  by_cases jz : jx = 0
                  · subst jz
                    have f0 := hide (show L2 ++ [boxI x] = wIt W l 0 ++ pIt P (0 + 1) from by rw [hL2'.out, pIt_first hx7'.out, List.append_assoc])
                    simp only [Nat.zero_mul, Nat.add_zero] at d0
                    go_wp2_with fail
                    refine (hwd.out x _ hxz.out).mono ?_
                    rintro e w5 ⟨rfl, hb5⟩
                    have hP5 := hide (tw_below hT2.out hb5)
                    have hQ5 := hide (pq_below hT2q.out hb5)
                    obtain ⟨TL5, o5, _, _, _, b5⟩ := hP5.out
                    have hown5 := hide o5
                    have hs5 := b5.size
                    clear hb5 hT2 hT2q o5 b5
                    go_wp2_with (at_builtin; refine wpList_append_lies _ rfl _ _ 41 rfl (w.heap.size) 65 i0 (.agg #[.int .i64 0, .int .i64 0, .int .i64 0, .int .i64 0, .int .i64 0, .int .i64 0, .bool false]) 7 56 Try.underlying41 hi hz0 hz1 hz2 rfl (by decide) _ _ _ rfl (hown5.out.alloc _) ⟨w5.heap.size, 0, none⟩ 1 1 [.int .i64 1, .int .i64 (widthW x), .int .i64 0, .int .i64 0, .int .i64 0, .int .i64 0, .bool false] rfl rfl (news_new w5 65 [.int .i64 1, .int .i64 (widthW x), .int .i64 0, .int .i64 0, .int .i64 0, .int .i64 0, .bool false]) (one_item7 _ _ _ _ _ _ _) (by omega) (by unfold maxLen; omega) (by omega) (by simp; omega) _ rfl ?_)
                    intro g6 cap6 w6 hown6 hg6 hat6 hlt6
                    have hP6 := tw_items (M := [boxI x]) (m := 1) rfl (by simp [cellsI, I.cells, boxI]) hP5.out hown6 hg6 (by simpa using hat6)
                    have hQ6 := hide (pq_v (n := n2 + 0 + 1) (c := cap6) hQ5.out hg6 (by simpa using hat6))
                    obtain ⟨L9, hL9⟩ : ∃ L9, L9 = L2 ++ [boxI x] := ⟨_, rfl⟩
                    rw [← hL9] at hP6
                    have hEq := hide (hL9.trans f0.out)
                    clear hL9
                    obtain ⟨TL6, p1, p2, p3, p4, p5⟩ := hP6
                    have hp1 := hide p1
                    have hp2 := hide p2
                    have hp3 := hide p3
                    have hp4 := hide p4
                    have hp5 := hide p5
                    have hs6 := p5.size
                    clear hown6 hg6 hat6 hlt6 hP5 hown5 hQ5 p1 p2 p3 p4 p5
                    go_wp2_with (at_builtin; refine wpList_append_lies _ rfl _ _ 33 rfl w.heap.size 9 j0 (.string ByteArray.empty) 1 16 Try.underlying33 hj hy0 hy1 hy2 rfl (by decide) _ _ _ rfl (hp3.out.alloc _) ⟨w6.heap.size, 0, none⟩ 1 1 [.string x] rfl rfl (fun j u hj => cell_one_at (by simp) hj) (one_str _) (by omega) (by unfold maxLen; omega) (by omega) (by simp; omega) _ rfl ?_)
                    intro g8 cap8 w8 hown8 hg8 hat8 hlt8
                    have hfin := hide (tw_text hp1.out hp2.out hp3.out hp4.out hp5.out hown8 hg8 (by simpa using hat8))
                    have hfinq := hide (pq_t (n := tn2 + 1) (c := cap8) hQ6.out hg8 (by simpa using hat8))
                    clear hown8 hg8 hat8 hlt8 hp1 hp2 hp3 hp4 hp5 hQ6
                    go_wp2
                    go_roundw
                    case rel => exact ⟨0 + 1, _, tn2 + 1, L9, by omega, by omega, by omega, by go_num, hEq.out, hfin.out, hfinq.out⟩
                    case measure => simp [intOf]; omega
                  · have jp : 0 < jx := by omega
                    have jpi : (0 : Int) < (jx : Int) := by omega
                    obtain ⟨LM, hLM⟩ : ∃ LM, LM = L2 ++ [hyI] := ⟨_, rfl⟩
                    have f0 := hide (show LM ++ [boxI x] = wIt W l 0 ++ pIt P (jx + 1) from by rw [hLM, hL2'.out, pIt_next hx7'.out jp]; simp)
                    have hLM' := hide hLM
                    clear hLM
                    go_wp2_with (at_builtin; refine wpList_append_lies _ rfl _ _ 41 rfl (w.heap.size) 65 i0 (.agg #[.int .i64 0, .int .i64 0, .int .i64 0, .int .i64 0, .int .i64 0, .int .i64 0, .bool false]) 7 56 Try.underlying41 hi hz0 hz1 hz2 rfl (by decide) _ _ _ rfl (hown2.out.alloc _) ⟨wr.heap.size, 0, none⟩ 1 1 [.int .i64 3, .int .i64 3, .int .i64 0, .int .i64 0, .int .i64 0, .int .i64 50, .bool true] rfl rfl (news_new wr 65 [.int .i64 3, .int .i64 3, .int .i64 0, .int .i64 0, .int .i64 0, .int .i64 50, .bool true]) (one_item7 _ _ _ _ _ _ _) (by omega) (by unfold maxLen; omega) (by omega) (by simp; omega) _ rfl ?_)
                    intro g3 cap3 w3 hown3 hg3 hat3 hlt3
                    have hmid := hide (tw_items (M := [hyI]) (m := 1) rfl (by simp [cellsI, I.cells, hyI]) hT2.out hown3 hg3 (by simpa using hat3))
                    have hmidq := hide (pq_v (n := n2 + 1) (c := cap3) hT2q.out hg3 (by simpa using hat3))
                    rw [← hLM'.out] at hmid
                    clear hown3 hg3 hat3 hlt3 hT2 hT2q hown2
                    go_wp2_with fail
                    refine (hwd.out x _ hxz.out).mono ?_
                    rintro e w5 ⟨rfl, hb5⟩
                    have hP5 := hide (tw_below hmid.out hb5)
                    have hQ5 := hide (pq_below hmidq.out hb5)
                    obtain ⟨TL5, o5, _, _, _, b5⟩ := hP5.out
                    have hown5 := hide o5
                    have hs5 := b5.size
                    clear hb5 hmid hmidq o5 b5
                    go_wp2_with (at_builtin; refine wpList_append_lies _ rfl _ _ 41 rfl (w.heap.size) 65 i0 (.agg #[.int .i64 0, .int .i64 0, .int .i64 0, .int .i64 0, .int .i64 0, .int .i64 0, .bool false]) 7 56 Try.underlying41 hi hz0 hz1 hz2 rfl (by decide) _ _ _ rfl (hown5.out.alloc _) ⟨w5.heap.size, 0, none⟩ 1 1 [.int .i64 1, .int .i64 (widthW x), .int .i64 0, .int .i64 0, .int .i64 0, .int .i64 0, .bool false] rfl rfl (news_new w5 65 [.int .i64 1, .int .i64 (widthW x), .int .i64 0, .int .i64 0, .int .i64 0, .int .i64 0, .bool false]) (one_item7 _ _ _ _ _ _ _) (by omega) (by unfold maxLen; omega) (by omega) (by simp; omega) _ rfl ?_)
                    intro g6 cap6 w6 hown6 hg6 hat6 hlt6
                    have hP6 := tw_items (M := [boxI x]) (m := 1) rfl (by simp [cellsI, I.cells, boxI]) hP5.out hown6 hg6 (by simpa using hat6)
                    have hQ6 := hide (pq_v (n := n2 + 1 + 1) (c := cap6) hQ5.out hg6 (by simpa using hat6))
                    obtain ⟨L9, hL9⟩ : ∃ L9, L9 = LM ++ [boxI x] := ⟨_, rfl⟩
                    rw [← hL9] at hP6
                    have hEq := hide (hL9.trans f0.out)
                    clear hL9
                    obtain ⟨TL6, p1, p2, p3, p4, p5⟩ := hP6
                    have hp1 := hide p1
                    have hp2 := hide p2
                    have hp3 := hide p3
                    have hp4 := hide p4
                    have hp5 := hide p5
                    have hs6 := p5.size
                    clear hown6 hg6 hat6 hlt6 hP5 hown5 hQ5 p1 p2 p3 p4 p5
                    go_wp2_with (at_builtin; refine wpList_append_lies _ rfl _ _ 33 rfl w.heap.size 9 j0 (.string ByteArray.empty) 1 16 Try.underlying33 hj hy0 hy1 hy2 rfl (by decide) _ _ _ rfl (hp3.out.alloc _) ⟨w6.heap.size, 0, none⟩ 1 1 [.string x] rfl rfl (fun j u hj => cell_one_at (by simp) hj) (one_str _) (by omega) (by unfold maxLen; omega) (by omega) (by simp; omega) _ rfl ?_)
                    intro g8 cap8 w8 hown8 hg8 hat8 hlt8
                    have hfin := hide (tw_text hp1.out hp2.out hp3.out hp4.out hp5.out hown8 hg8 (by simpa using hat8))
                    have hfinq := hide (pq_t (n := tn2 + 1) (c := cap8) hQ6.out hg8 (by simpa using hat8))
                    clear hown8 hg8 hat8 hlt8 hp1 hp2 hp3 hp4 hp5 hQ6
                    go_wp2
                    go_roundw
                    case rel => exact ⟨jx + 1, _, tn2 + 1, L9, by omega, by omega, by omega, by go_num, hEq.out, hfin.out, hfinq.out⟩
                    case measure => simp [intOf]; omega
                · obtain rfl : jx = m6 := by omega
                  have hfinO := hide (show TwRel w (wIt W l (0 + 1)) n2 tn2 _ _ wr from by
                    rw [e0w.out, hm6'.out, ← hL2'.out]
                    exact hT2.out)
                  clear hT2 hT2q hrQ hown2
                  go_wp2
                  go_roundw
                  case rel => exact ⟨0 + 1, n2, tn2, by omega, by omega, by omega, by go_num, hfinO.out⟩
                  case measure => simp [intOf]; omega
            · have kp : 0 < k := by omega
              have kpi : (0 : Int) < (k : Int) := by omega
              obtain ⟨b, off, x, rfl, hbk, hx, c0⟩ := (h'.out.below hb.out).str hW'.out hlt
              have hxw := hide (hz'.out x (List.mem_of_getElem? hx))
              have e0 := hide (wIt_next (l := l) hx kp)
              clear hx
              go_wp2_with (at_builtin; refine wpList_append_lies _ rfl _ _ 41 rfl (w.heap.size) 65 i0 (.agg #[.int .i64 0, .int .i64 0, .int .i64 0, .int .i64 0, .int .i64 0, .int .i64 0, .bool false]) 7 56 Try.underlying41 hi hz0 hz1 hz2 rfl (by decide) _ _ _ rfl (hown'.out.alloc _) ⟨wr.heap.size, 0, none⟩ 1 1 [.int .i64 2, .int .i64 4, .int .i64 3, .int .i64 1, .int .i64 0, .int .i64 0, .bool false] rfl rfl (news_new wr 65 [.int .i64 2, .int .i64 4, .int .i64 3, .int .i64 1, .int .i64 0, .int .i64 0, .bool false]) (one_item7 _ _ _ _ _ _ _) (by omega) (by unfold maxLen; omega) (by omega) (by simp; omega) _ rfl ?_)
              intro g3 cap3 w3 hown3 hg3 hat3 hlt3
              have hT := hide (tw_items (M := [spI]) (m := 1) rfl (by simp [cellsI, I.cells, spI]) hrel'.out hown3 hg3 (by simpa using hat3))
              obtain ⟨LB, hLB⟩ : ∃ LB, LB = wIt W l k ++ [spI] := ⟨_, rfl⟩
              rw [← hLB] at hT e0
              clear hLB
              obtain ⟨TLx, _, _, _, _, ox⟩ := hT.out
              have hbX := hide ox
              have hbs3 := ox.size
              clear hown3 hg3 hat3 hlt3 hrel' hown' ox
              go_wp2_with fail
              refine (hpa.out x _ hxw.out (h2'.out.below hbX.out)).mono ?_
              rintro e w5 ⟨v6, rfl, hrow6, hb5⟩
              obtain ⟨A6, c6, rfl, _, hrd6⟩ := own_form hrow6
              have hT5 := hide (tw_below hT.out hb5)
              have hq5 := hide (show PqRel (partsW x l) A6 _ _ w5 from ⟨hrd6, fun b off hA hn => by
                obtain ⟨TL, o1, _, o3, _, _⟩ := hT.out
                have hlt := (hrow6.lt b (by rw [hA]; rfl)).1
                exact ⟨fun e => by have := (o1.lt b e).2; omega, fun e => by have := (o3.lt b e).2; omega⟩⟩)
              have hPz := hide (size_part (s := x) (l := l))
              have h22 := parts_bd x l
              have ePn := hide (show LB ++ pIt (partsW x l) 0 = LB from by rw [pIt_zero, List.append_nil])
              have e0w := e0
              clear hb5 hrow6 hrd6 hT hbX e0 c0
              generalize partsW x l = P at *
              obtain ⟨m6, hm6⟩ : ∃ m6, P.length = m6 := ⟨_, rfl⟩
              have hm6' := hide hm6
              rw [hm6] at h22 ⊢
              clear hm6
              go_wp2
              go_loopw [7, 8, 44] (fun v t i wr => ∃ (jx n2 tn2 : Nat) (L2 : List I), jx ≤ m6 ∧ n2 ≤ (n0 + 1) + 2 * jx ∧ tn2 ≤ tn0 + jx ∧ i = .int .i64 jx ∧ L2 = LB ++ pIt P jx ∧ TwRel w L2 n2 tn2 v t wr ∧ PqRel P A6 v t wr) (fun _ _ i _ => m6 - (intOf i).toNat)
              case atStart => exact ⟨0, (n0 + 1), tn0, _, Nat.zero_le _, by omega, by omega, rfl, ePn.out.symm, hT5.out, hq5.out⟩
              case round =>
                clear hT5 hq5
                obtain ⟨jx, n2, tn2, L2, hjx, hn2, htn2, rfl, hL2, hrT, hrQ⟩ := hrel
                have hL2' := hide hL2
                clear hL2
                have hT2 := hide hrT
                have hT2q := hide hrQ
                obtain ⟨TL2, o1, oL, o3, o4, o5⟩ := hrT
                have hown2 := hide o1
                have hs2 := o5.size
                have hb2 := hide o5
                clear o1 oL o3 o4 o5
                by_cases hlt2 : jx < m6
                · obtain ⟨b7, off7, x, rfl, hbk7, hx7, d0⟩ := hrQ.1.str rfl (show jx < P.length by have := hm6'.out; omega)
                  have hx7' := hide hx7
                  have hxz := hide (hPz.out x (List.mem_of_getElem? hx7))
                  clear hrQ hx7
                  by_cases jz : jx = 0
                  · subst jz
                    have f0 := hide (show L2 ++ [boxI x] = LB ++ pIt P (0 + 1) from by rw [hL2'.out, pIt_first hx7'.out, List.append_assoc])
                    simp only [Nat.zero_mul, Nat.add_zero] at d0
                    go_wp2_with fail
                    refine (hwd.out x _ hxz.out).mono ?_
                    rintro e w5 ⟨rfl, hb5⟩
                    have hP5 := hide (tw_below hT2.out hb5)
                    have hQ5 := hide (pq_below hT2q.out hb5)
                    obtain ⟨TL5, o5, _, _, _, b5⟩ := hP5.out
                    have hown5 := hide o5
                    have hs5 := b5.size
                    clear hb5 hT2 hT2q o5 b5
                    go_wp2_with (at_builtin; refine wpList_append_lies _ rfl _ _ 41 rfl (w.heap.size) 65 i0 (.agg #[.int .i64 0, .int .i64 0, .int .i64 0, .int .i64 0, .int .i64 0, .int .i64 0, .bool false]) 7 56 Try.underlying41 hi hz0 hz1 hz2 rfl (by decide) _ _ _ rfl (hown5.out.alloc _) ⟨w5.heap.size, 0, none⟩ 1 1 [.int .i64 1, .int .i64 (widthW x), .int .i64 0, .int .i64 0, .int .i64 0, .int .i64 0, .bool false] rfl rfl (news_new w5 65 [.int .i64 1, .int .i64 (widthW x), .int .i64 0, .int .i64 0, .int .i64 0, .int .i64 0, .bool false]) (one_item7 _ _ _ _ _ _ _) (by omega) (by unfold maxLen; omega) (by omega) (by simp; omega) _ rfl ?_)
                    intro g6 cap6 w6 hown6 hg6 hat6 hlt6
                    have hP6 := tw_items (M := [boxI x]) (m := 1) rfl (by simp [cellsI, I.cells, boxI]) hP5.out hown6 hg6 (by simpa using hat6)
                    have hQ6 := hide (pq_v (n := n2 + 0 + 1) (c := cap6) hQ5.out hg6 (by simpa using hat6))
                    obtain ⟨L9, hL9⟩ : ∃ L9, L9 = L2 ++ [boxI x] := ⟨_, rfl⟩
                    rw [← hL9] at hP6
                    have hEq := hide (hL9.trans f0.out)
                    clear hL9
                    obtain ⟨TL6, p1, p2, p3, p4, p5⟩ := hP6
                    have hp1 := hide p1
                    have hp2 := hide p2
                    have hp3 := hide p3
                    have hp4 := hide p4
                    have hp5 := hide p5
                    have hs6 := p5.size
                    clear hown6 hg6 hat6 hlt6 hP5 hown5 hQ5 p1 p2 p3 p4 p5
                    go_wp2_with (at_builtin; refine wpList_append_lies _ rfl _ _ 33 rfl w.heap.size 9 j0 (.string ByteArray.empty) 1 16 Try.underlying33 hj hy0 hy1 hy2 rfl (by decide) _ _ _ rfl (hp3.out.alloc _) ⟨w6.heap.size, 0, none⟩ 1 1 [.string x] rfl rfl (fun j u hj => cell_one_at (by simp) hj) (one_str _) (by omega) (by unfold maxLen; omega) (by omega) (by simp; omega) _ rfl ?_)
                    intro g8 cap8 w8 hown8 hg8 hat8 hlt8
                    have hfin := hide (tw_text hp1.out hp2.out hp3.out hp4.out hp5.out hown8 hg8 (by simpa using hat8))
                    have hfinq := hide (pq_t (n := tn2 + 1) (c := cap8) hQ6.out hg8 (by simpa using hat8))
                    clear hown8 hg8 hat8 hlt8 hp1 hp2 hp3 hp4 hp5 hQ6
                    go_wp2
                    go_roundw
                    case rel => exact ⟨0 + 1, _, tn2 + 1, L9, by omega, by omega, by omega, by go_num, hEq.out, hfin.out, hfinq.out⟩
                    case measure => simp [intOf]; omega
                  · have jp : 0 < jx := by omega
                    have jpi : (0 : Int) < (jx : Int) := by omega
                    obtain ⟨LM, hLM⟩ : ∃ LM, LM = L2 ++ [hyI] := ⟨_, rfl⟩
                    have f0 := hide (show LM ++ [boxI x] = LB ++ pIt P (jx + 1) from by rw [hLM, hL2'.out, pIt_next hx7'.out jp]; simp)
                    have hLM' := hide hLM
                    clear hLM
                    go_wp2_with (at_builtin; refine wpList_append_lies _ rfl _ _ 41 rfl (w.heap.size) 65 i0 (.agg #[.int .i64 0, .int .i64 0, .int .i64 0, .int .i64 0, .int .i64 0, .int .i64 0, .bool false]) 7 56 Try.underlying41 hi hz0 hz1 hz2 rfl (by decide) _ _ _ rfl (hown2.out.alloc _) ⟨wr.heap.size, 0, none⟩ 1 1 [.int .i64 3, .int .i64 3, .int .i64 0, .int .i64 0, .int .i64 0, .int .i64 50, .bool true] rfl rfl (news_new wr 65 [.int .i64 3, .int .i64 3, .int .i64 0, .int .i64 0, .int .i64 0, .int .i64 50, .bool true]) (one_item7 _ _ _ _ _ _ _) (by omega) (by unfold maxLen; omega) (by omega) (by simp; omega) _ rfl ?_)
                    intro g3 cap3 w3 hown3 hg3 hat3 hlt3
                    have hmid := hide (tw_items (M := [hyI]) (m := 1) rfl (by simp [cellsI, I.cells, hyI]) hT2.out hown3 hg3 (by simpa using hat3))
                    have hmidq := hide (pq_v (n := n2 + 1) (c := cap3) hT2q.out hg3 (by simpa using hat3))
                    rw [← hLM'.out] at hmid
                    clear hown3 hg3 hat3 hlt3 hT2 hT2q hown2
                    go_wp2_with fail
                    refine (hwd.out x _ hxz.out).mono ?_
                    rintro e w5 ⟨rfl, hb5⟩
                    have hP5 := hide (tw_below hmid.out hb5)
                    have hQ5 := hide (pq_below hmidq.out hb5)
                    obtain ⟨TL5, o5, _, _, _, b5⟩ := hP5.out
                    have hown5 := hide o5
                    have hs5 := b5.size
                    clear hb5 hmid hmidq o5 b5
                    go_wp2_with (at_builtin; refine wpList_append_lies _ rfl _ _ 41 rfl (w.heap.size) 65 i0 (.agg #[.int .i64 0, .int .i64 0, .int .i64 0, .int .i64 0, .int .i64 0, .int .i64 0, .bool false]) 7 56 Try.underlying41 hi hz0 hz1 hz2 rfl (by decide) _ _ _ rfl (hown5.out.alloc _) ⟨w5.heap.size, 0, none⟩ 1 1 [.int .i64 1, .int .i64 (widthW x), .int .i64 0, .int .i64 0, .int .i64 0, .int .i64 0, .bool false] rfl rfl (news_new w5 65 [.int .i64 1, .int .i64 (widthW x), .int .i64 0, .int .i64 0, .int .i64 0, .int .i64 0, .bool false]) (one_item7 _ _ _ _ _ _ _) (by omega) (by unfold maxLen; omega) (by omega) (by simp; omega) _ rfl ?_)
                    intro g6 cap6 w6 hown6 hg6 hat6 hlt6
                    have hP6 := tw_items (M := [boxI x]) (m := 1) rfl (by simp [cellsI, I.cells, boxI]) hP5.out hown6 hg6 (by simpa using hat6)
                    have hQ6 := hide (pq_v (n := n2 + 1 + 1) (c := cap6) hQ5.out hg6 (by simpa using hat6))
                    obtain ⟨L9, hL9⟩ : ∃ L9, L9 = LM ++ [boxI x] := ⟨_, rfl⟩
                    rw [← hL9] at hP6
                    have hEq := hide (hL9.trans f0.out)
                    clear hL9
                    obtain ⟨TL6, p1, p2, p3, p4, p5⟩ := hP6
                    have hp1 := hide p1
                    have hp2 := hide p2
                    have hp3 := hide p3
                    have hp4 := hide p4
                    have hp5 := hide p5
                    have hs6 := p5.size
                    clear hown6 hg6 hat6 hlt6 hP5 hown5 hQ5 p1 p2 p3 p4 p5
                    go_wp2_with (at_builtin; refine wpList_append_lies _ rfl _ _ 33 rfl w.heap.size 9 j0 (.string ByteArray.empty) 1 16 Try.underlying33 hj hy0 hy1 hy2 rfl (by decide) _ _ _ rfl (hp3.out.alloc _) ⟨w6.heap.size, 0, none⟩ 1 1 [.string x] rfl rfl (fun j u hj => cell_one_at (by simp) hj) (one_str _) (by omega) (by unfold maxLen; omega) (by omega) (by simp; omega) _ rfl ?_)
                    intro g8 cap8 w8 hown8 hg8 hat8 hlt8
                    have hfin := hide (tw_text hp1.out hp2.out hp3.out hp4.out hp5.out hown8 hg8 (by simpa using hat8))
                    have hfinq := hide (pq_t (n := tn2 + 1) (c := cap8) hQ6.out hg8 (by simpa using hat8))
                    clear hown8 hg8 hat8 hlt8 hp1 hp2 hp3 hp4 hp5 hQ6
                    go_wp2
                    go_roundw
                    case rel => exact ⟨jx + 1, _, tn2 + 1, L9, by omega, by omega, by omega, by go_num, hEq.out, hfin.out, hfinq.out⟩
                    case measure => simp [intOf]; omega
                · obtain rfl : jx = m6 := by omega
                  have hfinO := hide (show TwRel w (wIt W l (k + 1)) n2 tn2 _ _ wr from by
                    rw [e0w.out, hm6'.out, ← hL2'.out]
                    exact hT2.out)
                  clear hT2 hT2q hrQ hown2
                  go_wp2
                  go_roundw
                  case rel => exact ⟨k + 1, n2, tn2, by omega, by omega, by omega, by go_num, hfinO.out⟩
                  case measure => simp [intOf]; omega
          · obtain rfl : k = n := by omega
            go_wp2_with (at_builtin; refine wpList_append_lies _ rfl _ _ 41 rfl (w.heap.size) 65 i0 (.agg #[.int .i64 0, .int .i64 0, .int .i64 0, .int .i64 0, .int .i64 0, .int .i64 0, .bool false]) 7 56 Try.underlying41 hi hz0 hz1 hz2 rfl (by decide) _ _ _ rfl (hown'.out.alloc _) ⟨wr.heap.size, 0, none⟩ 3 3 [.int .i64 3, .int .i64 0, .int .i64 0, .int .i64 0, .int .i64 0, .int .i64 10000, .bool false, .int .i64 2, .int .i64 0, .int .i64 1, .int .i64 0, .int .i64 1, .int .i64 0, .bool false, .int .i64 3, .int .i64 0, .int .i64 0, .int .i64 0, .int .i64 0, .int .i64 (-10000), .bool false] rfl rfl (news_new wr 65 [.int .i64 3, .int .i64 0, .int .i64 0, .int .i64 0, .int .i64 0, .int .i64 10000, .bool false, .int .i64 2, .int .i64 0, .int .i64 1, .int .i64 0, .int .i64 1, .int .i64 0, .bool false, .int .i64 3, .int .i64 0, .int .i64 0, .int .i64 0, .int .i64 0, .int .i64 (-10000), .bool false]) (one_items endIs) (by omega) (by unfold maxLen; omega) (by omega) (by simp; omega) _ rfl ?_)
            intro g3 cap3 w3 hown3 hg3 hat3 hlt3
            have hfin := tw_items (M := endIs) (m := 3) rfl rfl hrel'.out hown3 hg3 (by simpa using hat3)
            obtain ⟨TLf, q1, q2, q3, q4, q5⟩ := hfin
            have hq1 := hide q1
            have hq5 := hide q5
            have hlK : (parI W l).length = n0 + 3 := by rw [parI_len, hW'.out, oL'.out]
            have hPI : parI W l = wIt W l k ++ endIs := by unfold parI; rw [hW'.out]
            clear hown3 hg3 hat3 hlt3 hrel' hown' q1 q2 q3 q4 q5
            by_cases h60 : n0 + 3 ≤ 60
            · have hB : parB W l = true := by rw [hend.out, hlK]; exact decide_eq_true h60
              have d60 : decide (((n0 + 3 : Nat) : Int) ≤ 60) = true := decide_eq_true (by omega)
              have d60b : decide ((n0 : Int) + 3 ≤ 60) = true := decide_eq_true (by omega)
              have d60c : decide (n0 + 3 ≤ 60) = true := decide_eq_true h60
              have hB' := hide hB
              have hPI' := hide hPI
              have hlK' := hide hlK
              clear hlK hPI hB
              go_wp2
              unfold Par3P
              go_ret3
              exact ⟨_, _, by rw [hB'.out]; rfl, (fun _ => by rw [parR_yes hB'.out, hlK'.out, hPI'.out]; exact hq1.out), hq5.out⟩
            · have hB : parB W l = false := by rw [hend.out, hlK]; exact decide_eq_false h60
              have d60 : decide (((n0 + 3 : Nat) : Int) ≤ 60) = false := decide_eq_false (by omega)
              have d60b : decide ((n0 : Int) + 3 ≤ 60) = false := decide_eq_false (by omega)
              have d60c : decide (n0 + 3 ≤ 60) = false := decide_eq_false h60
              have hB' := hide hB
              clear hlK hPI hB
              go_wp2
              unfold Par3P
              go_ret3
              exact ⟨_, _, by rw [hB'.out]; rfl, (fun h => absurd (h.symm.trans hB'.out) (by decide)), hq5.out⟩
set_option maxHeartbeats 1000000 in
theorem implPar (A : Option Addr) (n c : Nat) (W : List ByteArray) (B : Option Addr) (m d : Nat) (l : List ByteArray) (w : World) (hn : n ≤ maxLen) (hW : W.length = n) (hz : ∀ s ∈ W, s.size ≤ maxLen) (h : Rd w 1 A n (cellsS W))
    (hm : m ≤ maxLen) (hl : l.length = m) (hy : ∀ s ∈ l, s.size ≤ maxLen) (h2 : Rd w 1 B m (cellsS l)) :
    Calls Try.prog 44 #[.slice A n c, .slice B m d] w (ParP (parR W l) (parB W l) w) := by
  have hc := hide (implPar3 A n c W B m d l w hn hW hz h hm hl hy h2)
  clear hn hW hz h hm hl hy h2
  go_enter Try.func44, Try.ntmps44
  go_wp2_with fail
  refine hc.out.mono ?_
  rintro e w1 ⟨v, t, rfl, hown, hb⟩
  have hb' := hide hb
  have hown' := hide hown
  clear hb hown hc
  cases hB : parB W l with
  | false =>
    have hR := hide (parR_no hB)
    have hB' := hide hB
    go_wp2
    unfold ParP
    go_ret2
    exact ⟨_, by first | rfl | (rw [hB'.out]; rfl), by rw [hR.out]; exact World.ownsRow_nil _ _ _ _, hb'.out⟩
  | true =>
    have hR := hide (hown'.out hB)
    have hB' := hide hB
    go_wp2
    unfold ParP
    go_ret2
    exact ⟨_, by first | rfl | (rw [hB'.out]; rfl), hR.out, hb'.out⟩
end Go.Proofs.Ytfhhfibjjpiccaa
