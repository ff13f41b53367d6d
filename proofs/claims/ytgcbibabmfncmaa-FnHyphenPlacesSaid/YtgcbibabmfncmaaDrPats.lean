/- What the draw of patterns gives: a row of short texts. Condition: the reader's block is its own. -/
import Derived.Test.YtgcbibabmfncmaaDrText
namespace Go.Proofs.Ytgcbibabmfncmaa
open Go.RowKit
set_option linter.unusedVariables false
set_option linter.unusedSimpArgs false
set_option maxRecDepth 100000

def SsRel (w : World) (g p K M : Nat) (v : Value) (n : Nat) (wr : World) : Prop :=
  ∃ (L : List ByteArray) (q : Nat), L.length = n ∧ (∀ x ∈ L, x.size ≤ M) ∧ wr.ownsRow w.heap.size 9 1 v n (cellsS L) ∧ q ≤ p + K ∧ RdS wr g q ∧ Outer w.heap.size g w wr
def SsP (g p K M N : Nat) (w : World) (e : Ending) (w' : World) : Prop := ∃ (L : List ByteArray) (v : Value) (n q : Nat), e = .returned v ∧ n ≤ N ∧ L.length = n ∧ (∀ x ∈ L, x.size ≤ M) ∧ w'.ownsRow w.heap.size 9 1 v n (cellsS L) ∧ q ≤ p + K ∧ RdS w' g q ∧ w.grownBy w' (some g)
theorem cellsS_snoc (L : List ByteArray) (x : ByteArray) : cellsS (L ++ [x]) = cellsS L ++ [.string x] := by simp [cellsS]
theorem ss_step {w wr w2 w3 : World} {g p K M q2 n g3 cap3 : Nat} {v : Value} {L : List ByteArray} {x : ByteArray} (hL : List.length L = n) (hLb : ∀ x ∈ L, x.size ≤ M) (hx : x.size ≤ M) (hown : wr.ownsRow w.heap.size 9 1 v n (cellsS L)) (hq2 : q2 ≤ p + K) (hr2 : RdS w2 g q2) (hgl : g < w.heap.size)
    (hO : Outer w.heap.size g w w2) (hown3 : w3.ownsRow w.heap.size 9 1 (.slice (some ⟨g3, 0, none⟩) (n + 1) cap3) (n + 1) (cellsS L ++ [.string x]))
    (hg3 : (w2.alloc (.cells #[.string x] 9)).grownBy w3 v.ownBlock) : SsRel w g p K M (.slice (some ⟨g3, 0, none⟩) (n + 1) cap3) (n + 1) w3 := by
  have hrb : ∀ k, v.ownBlock = some k → w.heap.size ≤ k := fun k hk => (hown.lt k hk).1
  refine ⟨L ++ [x], q2, by simp [hL], fun y hy => ?_, by rw [cellsS_snoc]; exact hown3, hq2, (hr2.alloc _).row hg3 (fun k hk => by have := hrb k hk; omega), ?_⟩
  · rcases List.mem_append.1 hy with hy | hy
    · exact hLb y hy
    · simp at hy; subst hy; exact hx
  · exact (hO.trans (Outer.grown (only_alloc' w2 _ g) hO.size)).trans (Outer.row hg3 (by have := hO.size; simp; omega) hrb)
set_option maxRecDepth 100000 in
set_option maxHeartbeats 1000000 in
theorem l20Patterns_any (g p : Nat) (m : Int) (w : World) (h : RdS w g p) (hp : p ≤ 100000) (hm : 0 ≤ m ∧ m ≤ 1000000) :
    Calls Try.prog 97 #[.pointer (some ⟨g, 0, none⟩), .int .i64 m] w (SsP g p 60 13 21 w) := by
  have hgl := h.lt
  have hk0 := Blk.new w 9 #[]
  have ho0 := only_alloc (only_refl w (some g)) (.cells #[] 9)
  have hs0 := h.alloc (.cells #[] 9)
  clear h
  obtain ⟨i0, hi, hz0, hz1, hz2⟩ := info_parts str_info
  go_enter Try.func97, Try.ntmps97
  go_wp2_with (fail)
  generalize w.alloc (.cells #[] 9) = wa at hk0 ho0 hs0 ⊢
  go_at_call 89
  refine (pick_any g p 7 _ hs0 (by omega) (by omega)).mono ?_
  rintro e w1 ⟨k, rfl, k0, k1, hs1, hg1⟩
  have hk1 := hide (own_empty1 (base := w.heap.size) (hk0.grown hg1 (fun e => by injection e with e; omega)) (Nat.le_refl _))
  have ho1 := hide (Outer.grown (only_trans ho0 hg1) (Nat.le_refl _))
  obtain ⟨k, rfl⟩ := Int.eq_ofNat_of_zero_le k0
  have hk7 : k ≤ 6 := by omega
  have hs1' := hide hs1
  clear hk0 ho0 hs0 hg1 k0 k1 hs1
  go_wp2
  go_loopw [5, 6] (fun v i wr => ∃ j n : Nat, i = .int .i64 j ∧ j + n = k ∧ SsRel w g p (1 + 2 * n) 13 v n wr) (fun _ i _ => (intOf i).toNat)
  case atStart => exact ⟨k, 0, rfl, rfl, [], p + 1, rfl, fun x hx => (by cases hx), hk1.out, by omega, hs1'.out, ho1.out⟩
  case round =>
    obtain ⟨j, n, rfl, hjn, L, q, hL, hLb, hown, hq, hr, hO⟩ := hrel
    have hL' := hide hL
    have hown' := hide hown
    have hne' := hide (fun kk hkk => (hown'.out.lt kk hkk))
    have hwr := hO.size
    clear hL hk1 ho1 hs1'
    by_cases hj : 0 < j
    · obtain ⟨j, rfl⟩ : ∃ j', j = j' + 1 := ⟨j - 1, by omega⟩
      have hd : decide (0 < ((j + 1 : Nat) : Int)) = true := decide_eq_true (by omega)
      go_wp2_with (fail)
      go_at_call 96
      refine (l20Pattern_any g q 0 wr hr (by omega) (by omega)).mono ?_
      rintro e w2 ⟨x, q2, rfl, hx, hq2, hr2, hg2⟩
      have hown2 := hide (own_keep hown (fun kk hkk => hg2.block kk ((hne'.out kk hkk).2) (fun e => by have := (hne'.out kk hkk).1; injection e with e; omega)))
      have hO2 := hide (hO.trans (Outer.grown hg2 hwr))
      have hb2 := hg2.size
      have hLb' := hide hLb
      have hr2' := hide hr2
      clear hr hown hg2 hO hLb hr2
      go_wp2_with (at_builtin; refine wpList_append_lies _ rfl _ _ 27 rfl w.heap.size 9 i0 (.string ByteArray.empty) 1 16 Try.underlying27 hi hz0 hz1 hz2 rfl (by decide) _ _ _ rfl (hown2.out.alloc _) ⟨w2.heap.size, 0, none⟩ 1 1 [.string x] rfl rfl (fun j u hj => cell_one_at (by simp) hj) (one_str _) (by omega) (by unfold maxLen; omega) (by omega) (by simp; omega) _ rfl ?_)
      intro g3 cap3 w3 hown3 hg3 hat3 hlt3
      have hfin := hide (ss_step (p := p) (K := 1 + 2 * (n + 1)) (M := 13) hL'.out hLb'.out hx hown'.out (by omega) hr2'.out hgl hO2.out hown3 hg3)
      clear hown3 hg3 hat3 hlt3 hx
      go_wp2
      go_roundw
      case rel => exact ⟨j, n + 1, by first | rfl | go_num | (congr 1; omega), by omega, hfin.out⟩
      case measure => (simp [intOf] <;> omega)
    · obtain rfl : j = 0 := by omega
      obtain rfl : n = k := by omega
      go_wp2_with (fail)
      refine (odd_any g q m wr hr (by omega) (by omega)).mono ?_
      rintro e w2 ⟨bo, q2, rfl, hbo, hr2, hq1, hq2, hg2⟩
      have hown2 := hide (own_keep hown (fun kk hkk => hg2.block kk ((hne'.out kk hkk).2) (fun e => by have := (hne'.out kk hkk).1; injection e with e; omega)))
      have hO2 := hide (hO.trans (Outer.grown hg2 hwr))
      have hb2 := hg2.size
      have hLb' := hide hLb
      clear hr hown hg2 hO hLb hbo
      cases bo with
      | false =>
        have hr2' := hide hr2
        clear hr2
        go_wp2
        unfold SsP
        go_ret
        exact ⟨L, _, n, q2, rfl, by omega, hL'.out, hLb'.out, hown2.out, by omega, hr2'.out, hO2.out.to_grown⟩
      | true =>
        go_wp2_with (fail)
        refine (pick_any g q2 2 w2 hr2 (by omega) (by omega)).mono ?_
        rintro e w3 ⟨t, rfl, t0, t1, hr3, hg3⟩
        have hne2 := hide (fun kk hkk => (hown2.out.lt kk hkk))
        have hown3 := hide (own_keep hown2.out (fun kk hkk => hg3.block kk ((hne2.out kk hkk).2) (fun e => by have := (hne2.out kk hkk).1; injection e with e; omega)))
        have hO3 := hide (hO2.out.trans (Outer.grown hg3 (by omega)))
        have hb3 := hg3.size
        clear hr2 hg3
        by_cases ht : t = 0
        · subst ht
          go_wp2_with (fail)
          go_at_call 96
          refine (l20Pattern_any g (q2 + 1) 1 w3 hr3 (by omega) (by omega)).mono ?_
          rintro e w4 ⟨x, q4, rfl, hx, hq4, hr4, hg4⟩
          have hne3 := hide (fun kk hkk => (hown3.out.lt kk hkk))
          have hown4 := hide (own_keep hown3.out (fun kk hkk => hg4.block kk ((hne3.out kk hkk).2) (fun e => by have := (hne3.out kk hkk).1; injection e with e; omega)))
          have hO4 := hide (hO3.out.trans (Outer.grown hg4 (by omega)))
          have hb4 := hg4.size
          have hr4' := hide hr4
          clear hr3 hg4 hr4
          go_wp2_with (at_builtin; refine wpList_append_lies _ rfl _ _ 27 rfl w.heap.size 9 i0 (.string ByteArray.empty) 1 16 Try.underlying27 hi hz0 hz1 hz2 rfl (by decide) _ _ _ rfl (hown4.out.alloc _) ⟨w4.heap.size, 0, none⟩ 1 1 [.string x] rfl rfl (fun j u hj => cell_one_at (by simp) hj) (one_str _) (by omega) (by unfold maxLen; omega) (by omega) (by simp; omega) _ rfl ?_)
          intro g5 cap5 w5 hown5 hg5 hat5 hlt5
          have hfin := hide (ss_step (p := p) (K := 60) (M := 13) hL'.out hLb'.out hx hown4.out (by omega) hr4'.out hgl hO4.out hown5 hg5)
          clear hown5 hg5 hat5 hlt5 hx
          go_wp2
          unfold SsP
          go_ret
          obtain ⟨L5, q5, f1, f2, f3, f4, f5, f6⟩ := hfin.out
          exact ⟨L5, _, n + 1, q5, rfl, by omega, f1, f2, f3, f4, f5, f6.to_grown⟩
        · have hd3 : (t == 0) = false := by simpa using ht
          have hr3' := hide hr3
          clear hr3 ht
          go_wp2
          go_loopw [5] (fun v wr => ∃ n : Nat, n ≤ 21 ∧ SsRel w g p 60 13 v n wr) (fun v _ => 21 + 1 - (match v with | .slice _ n _ => n | _ => 0))
          case atStart => exact ⟨n, by omega, L, q2 + 1, hL'.out, hLb'.out, hown3.out, by omega, hr3'.out, hO3.out⟩
          case round =>
            obtain ⟨n2, hn2, L2, q5, hL2, hLb2, hown5, hq5, hr5, hO5⟩ := hrel
            obtain ⟨A5, c5, rfl, _, _⟩ := own_form hown5
            have hown5' := hide hown5
            have hL2' := hide hL2
            have hLb2' := hide hLb2
            have hr5' := hide hr5
            have hO5' := hide hO5
            have hwr5 := hO5.size
            clear hown5 hL2 hLb2 hr5 hO5
            by_cases hN : n2 ≤ 20
            · have hd5 : ((n2 : Nat) : Int) ≤ 20 := by omega
              have hd5' : decide (((n2 : Nat) : Int) ≤ 20) = true := decide_eq_true (by omega)
              go_wp2_with (at_builtin; refine wpList_append_lies _ rfl _ _ 27 rfl w.heap.size 9 i0 (.string ByteArray.empty) 1 16 Try.underlying27 hi hz0 hz1 hz2 rfl (by decide) _ _ _ rfl (hown5'.out.alloc _) ⟨wr.heap.size, 0, none⟩ 1 1 [.string ⟨#[97, 49]⟩] rfl rfl (fun j u hj => cell_one_at (by simp) hj) (one_str _) (by omega) (by unfold maxLen; omega) (by omega) (by simp; omega) _ rfl ?_)
              intro g7 cap7 w7 hown7 hg7 hat7 hlt7
              have hfin := hide (ss_step (p := p) (K := 60) (M := 13) hL2'.out hLb2'.out (x := ⟨#[97, 49]⟩) (by show 2 ≤ 13; omega) hown5'.out hq5 hr5'.out hgl hO5'.out hown7 hg7)
              clear hown7 hg7 hat7 hlt7
              go_wp2
              go_roundw
              case rel => exact ⟨n2 + 1, by omega, hfin.out⟩
              case measure => (simp <;> omega)
            · have hd5 : decide (((n2 : Nat) : Int) ≤ 20) = false := decide_eq_false (by omega)
              go_wp2
              unfold SsP
              go_ret
              exact ⟨L2, _, n2, q5, rfl, hn2, hL2'.out, hLb2'.out, hown5'.out, hq5, hr5'.out, hO5'.out.to_grown⟩
end Go.Proofs.Ytgcbibabmfncmaa
