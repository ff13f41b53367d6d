/- The exact laws' marks on lists of texts. Condition: the slice owns its row. -/
import Derived.Test.YtfhhfibjjpiccaaExS
import Derived.Deep.RegionHeld3
namespace Go.Proofs.Ytfhhfibjjpiccaa
open Go.RowKit
set_option linter.unusedVariables false
set_option linter.unusedSimpArgs false

def markToS (l : List ByteArray) (k j : Nat) : List ByteArray := texts k j ++ l.drop j
theorem markToS_zero (l : List ByteArray) (k : Nat) : markToS l k 0 = l := by simp [markToS, texts]
theorem markToS_len (l : List ByteArray) (k j n : Nat) (hl : l.length = n) (hj : j ≤ n) : (markToS l k j).length = n := by
  simp [markToS, texts_len]; omega
theorem markToS_at (l : List ByteArray) (k j n : Nat) (hl : l.length = n) (hj : j < n) : (markToS l k j)[j]? = l[j]? := by
  unfold markToS
  rw [List.getElem?_append_right (by rw [texts_len]; omega), texts_len]
  simp
theorem texts_succ (k j : Nat) : texts k (j + 1) = texts k j ++ [markT (k + j)] := by simp [texts, List.range_succ]
theorem markToS_step (l : List ByteArray) (k j n : Nat) (hl : l.length = n) (hj : j < n) : (markToS l k j).set j (markT (k + j)) = markToS l k (j + 1) := by
  unfold markToS
  rw [List.set_append, if_neg (by rw [texts_len]; omega), texts_len, texts_succ]
  have e : l.drop j = l[j]'(by omega) :: l.drop (j + 1) := List.drop_eq_getElem_cons (by omega)
  rw [e, Nat.sub_self, List.set_cons_zero, List.append_assoc]
  rfl
theorem markToS_full (l : List ByteArray) (k j n : Nat) (hl : l.length = n) (hj : ¬ j < n) (hle : j ≤ n) : markToS l k j = texts k n := by
  have : j = n := by omega
  subst this
  unfold markToS
  rw [List.drop_of_length_le (by omega), List.append_nil]

def MarkSP (base : Nat) (v : Value) (k n : Nat) (w : World) (e : Ending) (w' : World) : Prop := e = .returned (.int .i64 ((k + n : Nat) : Int)) ∧ w'.ownsRow base 9 1 v n (cellsS (texts k n)) ∧ w.grownBy w' v.ownBlock
theorem own_strAt {w : World} {base g n c : Nat} {t : TypeId} {L : List ByteArray} {j : Nat} {x : ByteArray} (h : w.ownsRow base t 1 (.slice (some ⟨g, 0, none⟩) n c) n (cellsS L)) (hL : L.length = n) (hx : L[j]? = some x) : w.cell? ⟨g, j, none⟩ = some (.string x) ∧ w.frozen? ⟨g, j, none⟩ = false := by
  have hj := (List.getElem?_eq_some_iff.1 hx).1
  refine ⟨?_, h.frozenAt j⟩
  rw [h.cellAt j (by omega)]
  simp [cellsS, hx]
theorem own_setS {w : World} {base g n c : Nat} {t : TypeId} {L : List ByteArray} {j : Nat} (y : ByteArray) (h : w.ownsRow base t 1 (.slice (some ⟨g, 0, none⟩) n c) n (cellsS L)) : (w.setCell ⟨g, j, none⟩ (.string y)).ownsRow base t 1 (.slice (some ⟨g, 0, none⟩) n c) n (cellsS (L.set j y)) := by
  have := (h.stored j (.string y)).1
  rwa [show (cellsS L).set j (.string y) = cellsS (L.set j y) from by simp [cellsS, List.map_set]] at this
theorem markStringS_some (base g n c k : Nat) (l : List ByteArray) (w : World) (hn : n ≤ 100000000) (hk : k ≤ 100000000) (hl : l.length = n) (h : w.ownsRow base 9 1 (.slice (some ⟨g, 0, none⟩) n c) n (cellsS l)) :
    Calls Try.prog 46 #[.slice (some ⟨g, 0, none⟩) n c, .int .i64 k] w (MarkSP base (.slice (some ⟨g, 0, none⟩) n c) k n w) := by
  have hl' := hide hl
  have h' := hide h
  clear hl h
  go_enter Try.func46, Try.ntmps46
  go_wp2
  go_loopw [1, 5] (fun q i wr => ∃ j : Nat, j ≤ n ∧ i = .int .i64 j ∧ q = .int .i64 ((k + j : Nat) : Int) ∧ wr.ownsRow base 9 1 (.slice (some ⟨g, 0, none⟩) n c) n (cellsS (markToS l k j)) ∧ w.grownBy wr (some g)) (fun _ i _ => n - (intOf i).toNat)
  case atStart => exact ⟨0, Nat.zero_le _, rfl, rfl, by rw [markToS_zero]; exact h'.out, only_refl _ _⟩
  case round =>
    obtain ⟨j, hj, rfl, rfl, hb, hg⟩ := hrel
    have hb' := hide hb
    have hg' := hide hg
    clear hg
    by_cases hlt : j < n
    · have hat : (markToS l k j)[j]? = some (l[j]'(by have := hl'.out; omega)) := by
        rw [markToS_at l k j n hl'.out hlt]
        exact List.getElem?_eq_getElem _
      have hat' := hide hat
      have hst := hide (markToS_step l k j n hl'.out hlt)
      clear hat hb
      go_wp2_with fail
      refine (markText_any (k + j) _ (by omega)).mono ?_
      rintro e w1 ⟨rfl, hb1⟩
      have ho1 := own_below hb'.out hb1
      obtain ⟨c0, z0⟩ := own_strAt ho1 (markToS_len l k j n hl'.out hj) hat'.out
      have hsz := size_of_cell c0
      have ho1' := hide ho1
      have hg1 := hide (only_below hg'.out hb1)
      clear ho1 hb1
      go_wp2
      go_roundw
      case rel => exact ⟨j + 1, by omega, by go_num, by go_num, by rw [← hst.out]; have := own_setS (j := j) (markT (k + j)) ho1'.out; simpa using this, by have := only_setCell (p := ⟨g, j, none⟩) hg1.out (.inl rfl) (.string (markT (k + j))); simpa using this⟩
      case measure => simp [intOf]; omega
    · have hf := markToS_full l k j n hl'.out hlt hj
      obtain rfl : j = n := by omega
      rw [hf] at hb'
      clear hf hb
      go_wp2
      unfold MarkSP
      go_ret
      exact ⟨rfl, hb'.out, hg'.out⟩
theorem markStringS_none (A : Option Addr) (c k : Nat) (w : World) (hk : k ≤ 100000000) :
    Calls Try.prog 46 #[.slice A 0 c, .int .i64 k] w fun e w' => e = .returned (.int .i64 (k : Int)) ∧ w = w' := by
  go_enter Try.func46, Try.ntmps46
  go_wp2
  refine wp_loop_rounds 1 ?_
  rw [rounds_succ]
  go_wp2
  go_ret
  exact ⟨rfl, rfl⟩
theorem markStringS_any (base n k : Nat) (v : Value) (l : List ByteArray) (w : World) (hn : n ≤ 100000000) (hk : k ≤ 100000000) (hl : l.length = n) (h : w.ownsRow base 9 1 v n (cellsS l)) :
    Calls Try.prog 46 #[v, .int .i64 k] w (MarkSP base v k n w) := by
  have h2 := h.2
  rcases h2 with ⟨rfl, rfl⟩ | ⟨g, cap, cur, rfl, _⟩
  · refine (markStringS_none none 0 k w hk).mono ?_
    rintro e w' ⟨rfl, rfl⟩
    exact ⟨rfl, World.ownsRow_nil _ _ _ _, only_refl _ _⟩
  · exact markStringS_some base g n cap k l w hn hk hl h
theorem own_whole {w : World} {g n size : Nat} {e : TypeId} {xs : List Value} (h : Blk w g e xs.toArray) (hl : xs.length = n * size) (hn : n ≤ maxLen) : w.ownsRow g e size (.slice (some ⟨g, 0, none⟩) n n) n xs :=
  ⟨hl, .inr ⟨g, n, xs.toArray, rfl, Nat.le_refl _, h, Nat.le_refl _, hn, by simp [hl], by simp [← hl]⟩⟩
/-- A copy that is known whole, marked. -/
theorem markStringS_own (g n m k : Nat) (l : List ByteArray) (w : World) (hm : m = n) (hn : n ≤ 100000000) (hk : k ≤ 100000000) (hl : l.length = n) (h : Blk w g 9 (cellsS l).toArray) :
    Calls Try.prog 46 #[.slice (some ⟨g, 0, none⟩) n m, .int .i64 k] w fun e w' => e = .returned (.int .i64 ((k + n : Nat) : Int)) ∧ w.grownBy w' (some g) := by
  subst hm
  refine (markStringS_some g g m m k l w hn hk hl (own_whole h (by rw [len_cellsS, hl]) (by unfold maxLen; omega))).mono ?_
  rintro e w' ⟨rfl, _, hg⟩
  exact ⟨rfl, hg⟩
end Go.Proofs.Ytfhhfibjjpiccaa
