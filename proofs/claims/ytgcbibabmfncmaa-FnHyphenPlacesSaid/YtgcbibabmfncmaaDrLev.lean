/- What the draws of lists of texts give. No condition but the reader's own bounds. -/
import Derived.Test.YtgcbibabmfncmaaDrPats
namespace Go.Proofs.Ytgcbibabmfncmaa
open Go.RowKit
set_option linter.unusedVariables false
set_option linter.unusedSimpArgs false
set_option maxRecDepth 100000

def OneSs (M N : Nat) (w : World) (e : Ending) (w' : World) : Prop := ∃ (L : List ByteArray) (v : Value) (n : Nat), e = .returned v ∧ n ≤ N ∧ L.length = n ∧ (∀ x ∈ L, x.size ≤ M) ∧ w'.ownsRow w.heap.size 9 1 v n (cellsS L) ∧ Below w.heap.size w w'
def TwoSs (M1 M N : Nat) (w : World) (e : Ending) (w' : World) : Prop := ∃ (s : ByteArray) (L : List ByteArray) (v : Value) (n : Nat), e = .returned (.tuple #[.string s, v]) ∧ s.size ≤ M1 ∧ n ≤ N ∧ L.length = n ∧ (∀ x ∈ L, x.size ≤ M) ∧ w'.ownsRow w.heap.size 9 1 v n (cellsS L) ∧ Below w.heap.size w w'
theorem drawPatsV (w : World) (A : Option Addr) (n c : Nat) (l : List Int) (hl : List.length l = n) (hc : n ≤ c) (hn63 : n < 4611686018427387904) (h : Rd w 1 A n (cellsB l)) (h5 : ∀ z ∈ l, 0 ≤ z ∧ z ≤ 255) :
    Calls Try.prog 77 #[.slice A n c] w (OneSs 13 21 w) := by
  go_enter Try.func77, Try.ntmps77
  go_wp2_with (fail)
  refine (l20Open_any w A n c l hl hc hn63 h h5).mono ?_
  rintro e w1 ⟨rfl, hr, hb⟩
  have hz1 := hb.size
  clear h h5 hl
  go_wp2_with (fail)
  refine (l20Patterns_any w.heap.size 0 2 w1 hr (by omega) (by omega)).mono ?_
  rintro e w3 ⟨L, v, k, q, rfl, hk, hL, hLb, hown, hq, hr3, hg3⟩
  have hb3 := hide (Below.only hb hg3 hz1 (Nat.le_refl _))
  have hown' := hide (own_mono hown hz1)
  clear hr hg3 hb hr3 hq hown
  go_wp2
  unfold OneSs
  go_ret
  exact ⟨L, _, k, rfl, hk, hL, hLb, hown'.out, hb3.out⟩

theorem drawWL (w : World) (A : Option Addr) (n c : Nat) (l : List Int) (hl : List.length l = n) (hc : n ≤ c) (hn63 : n < 4611686018427387904) (h : Rd w 1 A n (cellsB l)) (h5 : ∀ z ∈ l, 0 ≤ z ∧ z ≤ 255) :
    Calls Try.prog 78 #[.slice A n c] w (TwoSs 21 13 21 w) := by
  go_enter Try.func78, Try.ntmps78
  go_wp2_with (fail)
  refine (l20Open_any w A n c l hl hc hn63 h h5).mono ?_
  rintro e w1 ⟨rfl, hr, hb⟩
  have hz1 := hb.size
  clear h h5 hl
  go_wp2_with (fail)
  refine (l20Text_any w.heap.size 0 12 w1 hr (by omega) (by omega)).mono ?_
  rintro e w2 ⟨s, q0, rfl, hss, hq0, hr2, hg2⟩
  have hb2 := Below.only hb hg2 hz1 (Nat.le_refl _)
  have hz2 := hb2.size
  clear hr hg2 hb
  go_wp2_with (fail)
  refine (l20Patterns_any w.heap.size q0 12 w2 hr2 (by omega) (by omega)).mono ?_
  rintro e w3 ⟨L, v, k, q, rfl, hk, hL, hLb, hown, hq, hr3, hg3⟩
  have hb3 := hide (Below.only hb2 hg3 hz2 (Nat.le_refl _))
  have hown' := hide (own_mono hown hz2)
  clear hr2 hg3 hb2 hr3 hq hown
  go_wp2
  unfold TwoSs
  go_ret2
  exact ⟨s, L, _, k, rfl, hss, hk, hL, hLb, hown'.out, hb3.out⟩
theorem drawHP (w : World) (A : Option Addr) (n c : Nat) (l : List Int) (hl : List.length l = n) (hc : n ≤ c) (hn63 : n < 4611686018427387904) (h : Rd w 1 A n (cellsB l)) (h5 : ∀ z ∈ l, 0 ≤ z ∧ z ≤ 255) :
    Calls Try.prog 80 #[.slice A n c] w (TwoSs 21 13 21 w) := by
  have hd := hide (drawWL w A n c l hl hc hn63 h h5)
  clear h h5 hl
  go_enter Try.func80, Try.ntmps80
  go_wp2_with (fail)
  refine hd.out.mono ?_
  rintro e w1 ⟨s, L, v, k, rfl, hss, hk, hL, hLb, hown, hb⟩
  have hb' := hide hb
  have hown' := hide hown
  clear hb hown hd
  go_wp2
  unfold TwoSs
  go_ret2
  exact ⟨s, L, _, k, rfl, hss, hk, hL, hLb, hown'.out, hb'.out⟩
theorem drawHPt (w : World) (A : Option Addr) (n c : Nat) (l : List Int) (hl : List.length l = n) (hc : n ≤ c) (hn63 : n < 4611686018427387904) (h : Rd w 1 A n (cellsB l)) (h5 : ∀ z ∈ l, 0 ≤ z ∧ z ≤ 255) :
    Calls Try.prog 81 #[.slice A n c] w (TwoSs 21 13 21 w) := by
  have hd := hide (drawWL w A n c l hl hc hn63 h h5)
  clear h h5 hl
  go_enter Try.func81, Try.ntmps81
  go_wp2_with (fail)
  refine hd.out.mono ?_
  rintro e w1 ⟨s, L, v, k, rfl, hss, hk, hL, hLb, hown, hb⟩
  have hb' := hide hb
  have hown' := hide hown
  clear hb hown hd
  go_wp2
  unfold TwoSs
  go_ret2
  exact ⟨s, L, _, k, rfl, hss, hk, hL, hLb, hown'.out, hb'.out⟩

end Go.Proofs.Ytgcbibabmfncmaa
