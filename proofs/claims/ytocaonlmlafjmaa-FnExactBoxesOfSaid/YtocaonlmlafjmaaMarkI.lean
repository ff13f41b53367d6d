/- A list of items that is marked: its own block alone is written. Condition: the slice is a block of the call's own. -/
import Derived.Test.YtocaonlmlafjmaaMade
namespace Go.Proofs.Ytocaonlmlafjmaa
open Go.RowKit
set_option linter.unusedVariables false
set_option linter.unusedSimpArgs false
set_option maxRecDepth 100000

set_option maxHeartbeats 1000000 in
theorem markItemS_own (g n m k : Nat) (l : List I) (w : World) (hm : m = n) (hn : n ≤ 10000000) (hk : k ≤ 100000000) (hl : l.length = n) (h : Blk w g 29 (cellsI l).toArray) :
    Calls Try.prog 48 #[.slice (some ⟨g, 0, none⟩) n m, .int .i64 k] w fun e w' => e = .returned (.int .i64 ((k + 7 * n : Nat) : Int)) ∧ w.grownBy w' (some g) := by
  have hl' := hide hl
  clear hl
  go_enter Try.func48, Try.ntmps48
  go_wp2
  go_loopw [1, 5] (fun q i wr => ∃ (j : Nat) (L : List I), j ≤ n ∧ i = .int .i64 j ∧ q = .int .i64 ((k + 7 * j : Nat) : Int) ∧ L.length = n ∧ Blk wr g 29 (cellsI L).toArray ∧ w.grownBy wr (some g)) (fun _ i _ => n - (intOf i).toNat)
  case atStart => exact ⟨0, l, Nat.zero_le _, rfl, rfl, hl'.out, h, only_refl _ _⟩
  case round =>
    obtain ⟨j, L, hj, rfl, rfl, hL, hb, hg⟩ := hrel
    have hg' := hide hg
    have hL' := hide hL
    clear hg hL
    by_cases hlt : j < n
    · have hat : L[j]? = some (L[j]'(by have := hL'.out; omega)) := List.getElem?_eq_getElem _
      generalize L[j]'(by have := hL'.out; omega) = x at hat
      obtain ⟨⟨c0, c1, c2, c3, c4, c5, c6⟩, zz⟩ := hb.itemAt hat
      have z0 := zz (j * 7)
      have z1 := zz (j * 7 + 1)
      have z2 := zz (j * 7 + 2)
      have z3 := zz (j * 7 + 3)
      have z4 := zz (j * 7 + 4)
      have z5 := zz (j * 7 + 5)
      have z6 := zz (j * 7 + 6)
      clear zz
      have hat' := hide hat
      have hb' := hide hb
      have hsz := hb.lt
      obtain ⟨q, hq⟩ : ∃ q : Nat, q = k + 7 * j := ⟨_, rfl⟩
      have hq' := hide hq
      rw [← hq]
      have hqb : q ≤ 200000000 := by omega
      clear hat hb hq
      go_wp2
      go_roundw
      case rel =>
        have hq := hq'.out
        refine ⟨j + 1, L.set j ⟨(q : Int), ⟨(q : Int) + 1, (q : Int) + 1 + 1, (q : Int) + 1 + 1 + 1, (q : Int) + 1 + 1 + 1 + 1⟩, (q : Int) + 1 + 1 + 1 + 1 + 1, ?_⟩, by omega, by go_num, by congr 1; omega, by simp [hL'.out], ?_, ?_⟩
        rotate_left
        · exact Blk.setI (y := ⟨(q : Int), ⟨(q : Int) + 1, (q : Int) + 1 + 1, (q : Int) + 1 + 1 + 1, (q : Int) + 1 + 1 + 1 + 1⟩, (q : Int) + 1 + 1 + 1 + 1 + 1, _⟩) hb'.out hat'.out
        · exact only_setCell (only_setCell (only_setCell (only_setCell (only_setCell (only_setCell (only_setCell hg'.out (.inl rfl) _) (.inl rfl) _) (.inl rfl) _) (.inl rfl) _) (.inl rfl) _) (.inl rfl) _) (.inl rfl) _
      case measure => simp [intOf]; omega
    · obtain rfl : n = j := by omega
      clear hb
      go_wp2
      go_ret
      exact ⟨rfl, hg'.out⟩
end Go.Proofs.Ytocaonlmlafjmaa
