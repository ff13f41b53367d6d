/- The walks through the levels of a word, the functions themselves. Condition: the slice reads as the list of patterns. -/
import Derived.Test.YtfhhfibjjpiccaaLevels
import Derived.Test.YtfhhfibjjpiccaaHypMath
namespace Go.Proofs.Ytfhhfibjjpiccaa
open Go.RowKit
set_option linter.unusedVariables false
set_option linter.unusedSimpArgs false
set_option maxRecDepth 100000

theorem levelsW_yes {s : ByteArray} {l : List ByteArray} (h1 : wordB s = true) (h2 : pats20 l = true) : levelsW s l = layL (dotted s) (List.replicate (s.size + 1) 0) l := by
  unfold levelsW; rw [if_pos ⟨h1, h2⟩]
theorem specLevels (s : ByteArray) (A : Option Addr) (n c : Nat) (l : List ByteArray) (w : World) (hs : s.size ≤ maxLen) (hn : n ≤ maxLen) (hl : l.length = n) (hz : ∀ s ∈ l, s.size ≤ maxLen) (h : Rd w 1 A n (cellsS l)) :
    Calls Try.prog 86 #[.string s, .slice A n c] w (RowN (levelsW s l) w) := by
  have hww := hide (specWord s w hs)
  have hpp := hide (specPats A n c l w hn hl hz h)
  have hk0 := hide (own_emptyN (base := w.heap.size) (Blk.new w 3 #[]) (Nat.le_refl _))
  cases hv : wordB s with
  | false =>
    rw [levelsW_no (.inl hv)]
    clear hn hl hz h
    go_enter Try.func86, Try.ntmps86
    go_wp2_with fail
    refine hww.out.mono ?_
    rintro e w' ⟨rfl, rfl⟩
    rw [hv]
    go_wp2
    unfold RowN
    go_ret
    exact ⟨_, rfl, hk0.out, by (repeat (first | exact Below.refl _ _ | assumption | refine Below.alloc ?_ (by first | assumption | omega | (simp; done) | (simp; omega)) _ | refine Below.setCell ?_ (by first | assumption | omega | (simp; done) | (simp; omega)) _ | refine below_drewN ?_ _ | refine Below.drew ?_))⟩
  | true =>
    cases hp : pats20 l with
    | false =>
      rw [levelsW_no (.inr hp)]
      clear hn hl hz h
      go_enter Try.func86, Try.ntmps86
      go_wp2_with fail
      refine hww.out.mono ?_
      rintro e w' ⟨rfl, rfl⟩
      rw [hv]
      go_wp2_with fail
      refine hpp.out.mono ?_
      rintro e w' ⟨rfl, rfl⟩
      rw [hp]
      go_wp2
      unfold RowN
      go_ret
      exact ⟨_, rfl, hk0.out, by (repeat (first | exact Below.refl _ _ | assumption | refine Below.alloc ?_ (by first | assumption | omega | (simp; done) | (simp; omega)) _ | refine Below.setCell ?_ (by first | assumption | omega | (simp; done) | (simp; omega)) _ | refine below_drewN ?_ _ | refine Below.drew ?_))⟩
    | true =>
      rw [levelsW_yes hv hp]
      exact specLevels0 s A n c l w hn hl hz h hv hp
theorem implLevels (s : ByteArray) (A : Option Addr) (n c : Nat) (l : List ByteArray) (w : World) (hs : s.size ≤ maxLen) (hn : n ≤ maxLen) (hl : l.length = n) (hz : ∀ s ∈ l, s.size ≤ maxLen) (h : Rd w 1 A n (cellsS l)) :
    Calls Try.prog 88 #[.string s, .slice A n c] w (RowN (levelsW s l) w) := by
  have hww := hide (implWord s w hs)
  have hpp := hide (implPats A n c l w hn hl hz h)
  cases hv : wordB s with
  | false =>
    rw [levelsW_no (.inl hv)]
    clear hn hl hz h
    go_enter Try.func88, Try.ntmps88
    go_wp2_with fail
    refine hww.out.mono ?_
    rintro e w' ⟨rfl, rfl⟩
    rw [hv]
    go_wp2
    unfold RowN
    go_ret
    exact ⟨_, rfl, World.ownsRow_nil _ _ _ _, Below.refl _ _⟩
  | true =>
    cases hp : pats20 l with
    | false =>
      rw [levelsW_no (.inr hp)]
      clear hn hl hz h
      go_enter Try.func88, Try.ntmps88
      go_wp2_with fail
      refine hww.out.mono ?_
      rintro e w' ⟨rfl, rfl⟩
      rw [hv]
      go_wp2_with fail
      refine hpp.out.mono ?_
      rintro e w' ⟨rfl, rfl⟩
      rw [hp]
      go_wp2
      unfold RowN
      go_ret
      exact ⟨_, rfl, World.ownsRow_nil _ _ _ _, Below.refl _ _⟩
    | true =>
      rw [levelsW_yes hv hp]
      have h0 := hide (implLevels0 s A n c l w hn hl hz h hv hp)
      clear hn hl hz h
      go_enter Try.func88, Try.ntmps88
      go_wp2_with fail
      refine hww.out.mono ?_
      rintro e w' ⟨rfl, rfl⟩
      rw [hv]
      go_wp2_with fail
      refine hpp.out.mono ?_
      rintro e w' ⟨rfl, rfl⟩
      rw [hp]
      go_wp2_with fail
      refine h0.out.mono ?_
      rintro e w' ⟨v, rfl, hown, hb⟩
      have hown' := hide hown
      have hb' := hide hb
      clear hown hb
      go_wp2
      unfold RowN
      go_ret
      exact ⟨_, rfl, hown'.out, hb'.out⟩
end Go.Proofs.Ytfhhfibjjpiccaa
