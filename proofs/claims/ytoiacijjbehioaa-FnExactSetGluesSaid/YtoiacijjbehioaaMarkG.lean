/- A list of glues that is marked: its own block alone is written. Condition: the slice is a block of the call's own. -/
import Derived.Test.YtoiacijjbehioaaMade
namespace Go.Proofs.Ytoiacijjbehioaa
open Go.RowKit
set_option linter.unusedVariables false
set_option linter.unusedSimpArgs false

def MarkG (g : Nat) (k : Int) (w : World) (e : Ending) (w' : World) : Prop := e = .returned (.int .i64 k) ∧ w.grownBy w' (some g)
theorem markGlueS_any (g n c : Nat) (l : List G) (w : World) (hn : n ≤ 10000000) (hl : l.length = n) (h : Blk w g 26 (cellsG l).toArray) :
    Calls Try.prog 34 #[.slice (some ⟨g, 0, none⟩) n c, .int .i64 1] w (MarkG g (1 + 4 * n) w) := by
  have hl' := hide hl
  clear hl
  go_enter Try.func34, Try.ntmps34
  go_wp2
  go_loopw [1, 5] (fun q i wr => ∃ (j : Nat) (L : List G), j ≤ n ∧ i = .int .i64 j ∧ q = .int .i64 (1 + 4 * (j : Int)) ∧ L.length = n ∧ Blk wr g 26 (cellsG L).toArray ∧ w.grownBy wr (some g)) (fun _ i _ => n - (intOf i).toNat)
  case atStart => exact ⟨0, l, Nat.zero_le _, rfl, rfl, hl'.out, h, only_refl _ _⟩
  case round =>
    obtain ⟨j, L, hj, rfl, rfl, hL, hb, hg⟩ := hrel
    have hg' := hide hg
    have hL' := hide hL
    clear hg hL
    by_cases hlt : j < n
    · have hat : L[j]? = some (L[j]'(by have := hL'.out; omega)) := List.getElem?_eq_getElem _
      generalize L[j]'(by have := hL'.out; omega) = x at hat
      obtain ⟨⟨c0, c1, c2, c3⟩, z0, z1, z2, z3⟩ := hb.glueAt hat
      have hat' := hide hat
      have hb' := hide hb
      have hsz := hb.lt
      clear hat hb
      go_wp2
      go_roundw
      case rel =>
        refine ⟨j + 1, L.set j ⟨1 + 4 * (j : Int), 1 + 4 * (j : Int) + 1, 1 + 4 * (j : Int) + 1 + 1, 1 + 4 * (j : Int) + 1 + 1 + 1⟩, by omega, by go_num, by go_num, by simp [hL'.out], ?_, ?_⟩
        · exact Blk.setG (y := ⟨1 + 4 * (j : Int), 1 + 4 * (j : Int) + 1, 1 + 4 * (j : Int) + 1 + 1, 1 + 4 * (j : Int) + 1 + 1 + 1⟩) hb'.out hat'.out
        · exact only_setCell (only_setCell (only_setCell (only_setCell hg'.out (.inl rfl) _) (.inl rfl) _) (.inl rfl) _) (.inl rfl) _
      case measure => simp [intOf]; omega
    · obtain rfl : j = n := by omega
      clear hb
      go_wp2
      unfold MarkG
      go_ret
      exact ⟨rfl, hg'.out⟩
end Go.Proofs.Ytoiacijjbehioaa
