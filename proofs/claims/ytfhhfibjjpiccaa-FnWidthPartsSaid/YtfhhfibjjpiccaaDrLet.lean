/- What the draws of letters, and of a word, give. Condition: the code's bytes can be read. -/
import Derived.Test.YtfhhfibjjpiccaaDrText
import Derived.Test.YtfhhfibjjpiccaaGlue
namespace Go.Proofs.Ytfhhfibjjpiccaa
open Go.RowKit
set_option linter.unusedVariables false
set_option linter.unusedSimpArgs false
def TwoB (w : World) (e : Ending) (w' : World) : Prop := ∃ a b : Int, e = .returned (.tuple #[.int .u8 a, .int .u8 b]) ∧ (0 ≤ a ∧ a ≤ 255) ∧ (0 ≤ b ∧ b ≤ 255) ∧ Below w.heap.size w w'
def OneB (w : World) (e : Ending) (w' : World) : Prop := ∃ a : Int, e = .returned (.int .u8 a) ∧ (0 ≤ a ∧ a ≤ 255) ∧ Below w.heap.size w w'
def OneS (M : Nat) (w : World) (e : Ending) (w' : World) : Prop := ∃ s : ByteArray, e = .returned (.string s) ∧ s.size ≤ M ∧ Below w.heap.size w w'
theorem drawJoins (w : World) (A : Option Addr) (n c : Nat) (l : List Int) (hl : List.length l = n) (hc : n ≤ c) (hn63 : n < 4611686018427387904) (h : Rd w 1 A n (cellsB l)) (h5 : ∀ z ∈ l, 0 ≤ z ∧ z ≤ 255) :
    Calls Try.prog 12 #[.slice A n c] w (TwoB w) := by
  go_enter Try.func12, Try.ntmps12
  go_wp2_with (fail)
  refine (l20Open_any w A n c l hl hc hn63 h h5).mono ?_
  rintro e w1 ⟨rfl, hr, hb⟩
  have hz1 := hb.size
  clear h h5 hl
  go_wp2_with (fail)
  refine (pick_any w.heap.size 0 2 w1 hr (by omega) (by omega)).mono ?_
  rintro e w2 ⟨t, rfl, t0, t1, hr2, hg2⟩
  have hb2 := Below.only hb hg2 hz1 (Nat.le_refl _)
  have hz2 := hb2.size
  clear hr hg2 hb hz1
  by_cases ht : t = 0
  · subst ht
    go_wp2_with (fail)
    refine (l20Letter_any w.heap.size 1 w2 hr2 (by omega)).mono ?_
    rintro e w3 ⟨b, q, rfl, hbb, hq, hr3, hg3⟩
    have hb3 := hide (Below.only hb2 hg3 hz2 (Nat.le_refl _))
    clear hr2 hg3 hb2 hr3 hq
    go_wp2
    unfold TwoB
    go_ret2
    exact ⟨_, _, rfl, ⟨by omega, by omega⟩, hbb, hb3.out⟩
  · have hd : (t == 0) = false := by simpa using ht
    clear ht
    go_wp2_with (fail)
    refine (l20Letter_any w.heap.size 1 w2 hr2 (by omega)).mono ?_
    rintro e w3 ⟨a, q, rfl, haa, hq, hr3, hg3⟩
    have hb3 := Below.only hb2 hg3 hz2 (Nat.le_refl _)
    have hz3 := hb3.size
    clear hr2 hg3 hb2
    go_wp2_with (fail)
    refine (l20Letter_any w.heap.size q w3 hr3 (by omega)).mono ?_
    rintro e w4 ⟨b, q2, rfl, hbb, hq2, hr4, hg4⟩
    have hb4 := hide (Below.only hb3 hg4 hz3 (Nat.le_refl _))
    clear hr3 hg4 hb3 hr4 hq hq2
    go_wp2
    unfold TwoB
    go_ret2
    exact ⟨_, _, rfl, haa, hbb, hb4.out⟩
theorem drawNear (w : World) (A : Option Addr) (n c : Nat) (l : List Int) (hl : List.length l = n) (hc : n ≤ c) (hn63 : n < 4611686018427387904) (h : Rd w 1 A n (cellsB l)) (h5 : ∀ z ∈ l, 0 ≤ z ∧ z ≤ 255) :
    Calls Try.prog 16 #[.slice A n c] w (TwoB w) := by
  go_enter Try.func16, Try.ntmps16
  go_wp2_with (fail)
  refine (l20Open_any w A n c l hl hc hn63 h h5).mono ?_
  rintro e w1 ⟨rfl, hr, hb⟩
  have hz1 := hb.size
  clear h h5 hl
  go_wp2_with (fail)
  refine (l20Letter_any w.heap.size 0 w1 hr (by omega)).mono ?_
  rintro e w3 ⟨a, q, rfl, haa, hq, hr3, hg3⟩
  have hb3 := Below.only hb hg3 hz1 (Nat.le_refl _)
  have hz3 := hb3.size
  clear hr hg3 hb
  go_wp2_with (fail)
  refine (l20Letter_any w.heap.size q w3 hr3 (by omega)).mono ?_
  rintro e w4 ⟨b, q2, rfl, hbb, hq2, hr4, hg4⟩
  have hb4 := hide (Below.only hb3 hg4 hz3 (Nat.le_refl _))
  clear hr3 hg4 hb3 hr4 hq hq2
  go_wp2
  unfold TwoB
  go_ret2
  exact ⟨_, _, rfl, haa, hbb, hb4.out⟩
theorem drawLetter (w : World) (A : Option Addr) (n c : Nat) (l : List Int) (hl : List.length l = n) (hc : n ≤ c) (hn63 : n < 4611686018427387904) (h : Rd w 1 A n (cellsB l)) (h5 : ∀ z ∈ l, 0 ≤ z ∧ z ≤ 255) :
    Calls Try.prog 19 #[.slice A n c] w (OneB w) := by
  go_enter Try.func19, Try.ntmps19
  go_wp2_with (fail)
  refine (l20Open_any w A n c l hl hc hn63 h h5).mono ?_
  rintro e w1 ⟨rfl, hr, hb⟩
  have hz1 := hb.size
  clear h h5 hl
  go_wp2_with (fail)
  refine (l20Letter_any w.heap.size 0 w1 hr (by omega)).mono ?_
  rintro e w3 ⟨a, q, rfl, haa, hq, hr3, hg3⟩
  have hb3 := hide (Below.only hb hg3 hz1 (Nat.le_refl _))
  clear hr hg3 hb hr3 hq
  go_wp2
  unfold OneB
  go_ret
  exact ⟨_, rfl, haa, hb3.out⟩
theorem drawWordV (w : World) (A : Option Addr) (n c : Nat) (l : List Int) (hl : List.length l = n) (hc : n ≤ c) (hn63 : n < 4611686018427387904) (h : Rd w 1 A n (cellsB l)) (h5 : ∀ z ∈ l, 0 ≤ z ∧ z ≤ 255) :
    Calls Try.prog 22 #[.slice A n c] w (OneS 21 w) := by
  go_enter Try.func22, Try.ntmps22
  go_wp2_with (fail)
  refine (l20Open_any w A n c l hl hc hn63 h h5).mono ?_
  rintro e w1 ⟨rfl, hr, hb⟩
  have hz1 := hb.size
  clear h h5 hl
  go_wp2_with (fail)
  refine (l20Text_any w.heap.size 0 2 w1 hr (by omega) (by omega)).mono ?_
  rintro e w3 ⟨s, q, rfl, hss, hq, hr3, hg3⟩
  have hb3 := hide (Below.only hb hg3 hz1 (Nat.le_refl _))
  clear hr hg3 hb hr3 hq
  go_wp2
  unfold OneS
  go_ret
  exact ⟨_, rfl, hss, hb3.out⟩
theorem drawSigns (w : World) (A : Option Addr) (n c : Nat) (l : List Int) (hl : List.length l = n) (hc : n ≤ c) (hn63 : n < 4611686018427387904) (h : Rd w 1 A n (cellsB l)) (h5 : ∀ z ∈ l, 0 ≤ z ∧ z ≤ 255) :
    Calls Try.prog 25 #[.slice A n c] w (OneS 21 w) := by
  go_enter Try.func25, Try.ntmps25
  go_wp2_with (fail)
  refine (l20Open_any w A n c l hl hc hn63 h h5).mono ?_
  rintro e w1 ⟨rfl, hr, hb⟩
  have hz1 := hb.size
  clear h h5 hl
  go_wp2_with (fail)
  refine (l20Text_any w.heap.size 0 9 w1 hr (by omega) (by omega)).mono ?_
  rintro e w3 ⟨s, q, rfl, hss, hq, hr3, hg3⟩
  have hb3 := hide (Below.only hb hg3 hz1 (Nat.le_refl _))
  clear hr hg3 hb hr3 hq
  go_wp2
  unfold OneS
  go_ret
  exact ⟨_, rfl, hss, hb3.out⟩
theorem drawWidth (w : World) (A : Option Addr) (n c : Nat) (l : List Int) (hl : List.length l = n) (hc : n ≤ c) (hn63 : n < 4611686018427387904) (h : Rd w 1 A n (cellsB l)) (h5 : ∀ z ∈ l, 0 ≤ z ∧ z ≤ 255) :
    Calls Try.prog 29 #[.slice A n c] w (OneS 21 w) := by
  go_enter Try.func29, Try.ntmps29
  go_wp2_with (fail)
  refine (l20Open_any w A n c l hl hc hn63 h h5).mono ?_
  rintro e w1 ⟨rfl, hr, hb⟩
  have hz1 := hb.size
  clear h h5 hl
  go_wp2_with (fail)
  refine (l20Text_any w.heap.size 0 9 w1 hr (by omega) (by omega)).mono ?_
  rintro e w3 ⟨s, q, rfl, hss, hq, hr3, hg3⟩
  have hb3 := hide (Below.only hb hg3 hz1 (Nat.le_refl _))
  clear hr hg3 hb hr3 hq
  go_wp2
  unfold OneS
  go_ret
  exact ⟨_, rfl, hss, hb3.out⟩
end Go.Proofs.Ytfhhfibjjpiccaa
