/- What the draws of glues give, for the laws. No condition. -/
import Derived.Test.YtoiacijjbehioaaDrGlues
namespace Go.Proofs.Ytoiacijjbehioaa
open Go.RowKit
set_option linter.unusedVariables false
set_option linter.unusedSimpArgs false
set_option maxRecDepth 100000

def OneGs (w : World) (e : Ending) (w' : World) : Prop := ∃ (L : List G) (v : Value) (n : Nat), e = .returned v ∧ n ≤ 61 ∧ L.length = n ∧ (∀ x ∈ L, gBnd x) ∧ w'.ownsRow w.heap.size 26 4 v n (cellsG L) ∧ Below w.heap.size w w'
theorem drawGT (w : World) (A : Option Addr) (n c : Nat) (l : List Int) (hl : List.length l = n) (hc : n ≤ c) (hn63 : n < 4611686018427387904) (h : Rd w 1 A n (cellsB l)) (h5 : ∀ z ∈ l, 0 ≤ z ∧ z ≤ 255) :
    Calls Try.prog 30 #[.slice A n c] w (OneGs w) := by
  go_enter Try.func30, Try.ntmps30
  go_wp2_with (fail)
  refine (l20Open_any w A n c l hl hc hn63 h h5).mono ?_
  rintro e w1 ⟨rfl, hr, hb⟩
  have hz1 := hb.size
  clear h h5 hl
  go_wp2_with (fail)
  refine (l20Glues_any w.heap.size 0 9 w1 hr (by omega) (by omega)).mono ?_
  rintro e w3 ⟨L, v, k, q, rfl, hk, hL, hLb, hown, hq, hr3, hg3⟩
  have hb3 := hide (Below.only hb hg3 hz1 (Nat.le_refl _))
  have hown' := hide (own_mono hown hz1)
  clear hr hg3 hb hr3 hq hown
  go_wp2
  unfold OneGs
  go_ret
  exact ⟨L, _, k, rfl, hk, hL, hLb, hown'.out, hb3.out⟩
end Go.Proofs.Ytoiacijjbehioaa
