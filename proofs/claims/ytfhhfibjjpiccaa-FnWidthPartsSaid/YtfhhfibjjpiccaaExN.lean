/- The exact laws' helpers on lists of numbers: equal lists are equal; a list marked with k, k + 1 .. holds those numbers. Condition: the slices read as the lists. -/
import Derived.Test.YtfhhfibjjpiccaaMade
namespace Go.Proofs.Ytfhhfibjjpiccaa
open Go.RowKit
set_option linter.unusedVariables false
set_option linter.unusedSimpArgs false

theorem eqIntS_same (A B : Option Addr) (n c d : Nat) (l : List Int) (w : World) (hn : n ≤ maxLen) (hl : l.length = n) (ha : Rd w 1 A n (cellsN l)) (hb : Rd w 1 B n (cellsN l)) :
    Calls Try.prog 36 #[.slice A n c, .slice B n d] w fun e w' => e = .returned (.bool true) ∧ Below w.heap.size w w' := by
  unfold maxLen at hn
  have hl' := hide hl
  clear hl
  go_enter Try.func36, Try.ntmps36
  go_wp2
  go_loopw [5] (fun i wr => ∃ k : Nat, k ≤ n ∧ i = .int .i64 k ∧ Below w.heap.size w wr) (fun i _ => n - (intOf i).toNat)
  case atStart => exact ⟨0, Nat.zero_le _, rfl, Below.refl _ _⟩
  case round =>
    obtain ⟨k, hk, rfl, hw⟩ := hrel
    by_cases hlt : k < n
    · obtain ⟨b, off, x, rfl, hbs, hx, c0⟩ := (ha.below hw).int hl'.out hlt
      obtain ⟨b2, off2, x2, rfl, hbs2, hx2, c1⟩ := (hb.below hw).int hl'.out hlt
      rw [hx] at hx2
      obtain rfl := Option.some.inj hx2
      have hw' := hide hw
      have hlt' : (k : Int) < (n : Int) := by omega
      clear hx hw hx2
      go_wp2
      go_quiet (fail)
      go_wp2
      go_roundw
      case rel => exact ⟨k + 1, by omega, by go_num, below_drewN hw'.out _⟩
      case measure => simp [intOf]; omega
    · go_wp2
      go_ret
      exact ⟨rfl, hw⟩

def nats (k n : Nat) : List Int := (List.range n).map fun i => ((k + i : Nat) : Int)
theorem nats_len (k n : Nat) : (nats k n).length = n := by simp [nats]
theorem nats_at (k n j : Nat) (h : j < n) : (nats k n)[j]? = some (((k + j : Nat) : Int)) := by simp [nats, h]
/-- A list whose first j numbers are k, k + 1 .. -/
def markTo (l : List Int) (k j : Nat) : List Int := nats k j ++ l.drop j
theorem markTo_zero (l : List Int) (k : Nat) : markTo l k 0 = l := by simp [markTo, nats]
theorem markTo_len (l : List Int) (k j n : Nat) (hl : l.length = n) (hj : j ≤ n) : (markTo l k j).length = n := by
  simp [markTo, nats_len]; omega
theorem markTo_at (l : List Int) (k j n : Nat) (hl : l.length = n) (hj : j < n) : (markTo l k j)[j]? = l[j]? := by
  unfold markTo
  rw [List.getElem?_append_right (by rw [nats_len]; omega), nats_len]
  simp
theorem nats_succ (k j : Nat) : nats k (j + 1) = nats k j ++ [((k + j : Nat) : Int)] := by simp [nats, List.range_succ]
theorem markTo_step (l : List Int) (k j n : Nat) (hl : l.length = n) (hj : j < n) : (markTo l k j).set j ((k + j : Nat) : Int) = markTo l k (j + 1) := by
  unfold markTo
  rw [List.set_append, if_neg (by rw [nats_len]; omega), nats_len, nats_succ]
  have e : l.drop j = l[j]'(by omega) :: l.drop (j + 1) := List.drop_eq_getElem_cons (by omega)
  rw [e, Nat.sub_self, List.set_cons_zero, List.append_assoc]
  rfl
theorem markTo_full (l : List Int) (k j n : Nat) (hl : l.length = n) (hj : ¬ j < n) (hle : j ≤ n) : markTo l k j = nats k n := by
  have : j = n := by omega
  subst this
  unfold markTo
  rw [List.drop_of_length_le (by omega), List.append_nil]

def MarkPost (base : Nat) (v : Value) (k n : Nat) (w : World) (e : Ending) (w' : World) : Prop := e = .returned (.int .i64 ((k + n : Nat) : Int)) ∧ w'.ownsRow base 3 1 v n (cellsN (nats k n)) ∧ w.grownBy w' v.ownBlock
theorem own_intAt {w : World} {base g n c : Nat} {t : TypeId} {L : List Int} {j : Nat} {x : Int} (h : w.ownsRow base t 1 (.slice (some ⟨g, 0, none⟩) n c) n (cellsN L)) (hL : L.length = n) (hx : L[j]? = some x) : w.cell? ⟨g, j, none⟩ = some (.int .i64 x) ∧ w.frozen? ⟨g, j, none⟩ = false := by
  have hj := (List.getElem?_eq_some_iff.1 hx).1
  refine ⟨?_, h.frozenAt j⟩
  rw [h.cellAt j (by omega)]
  simp [cellsN, hx]
theorem own_setN {w : World} {base g n c : Nat} {t : TypeId} {L : List Int} {j : Nat} (y : Int) (h : w.ownsRow base t 1 (.slice (some ⟨g, 0, none⟩) n c) n (cellsN L)) : (w.setCell ⟨g, j, none⟩ (.int .i64 y)).ownsRow base t 1 (.slice (some ⟨g, 0, none⟩) n c) n (cellsN (L.set j y)) := by
  have := (h.stored j (.int .i64 y)).1
  rwa [show (cellsN L).set j (.int .i64 y) = cellsN (L.set j y) from by simp [cellsN, List.map_set]] at this
theorem markIntS_own (base g n c k : Nat) (l : List Int) (w : World) (hn : n ≤ 100000000) (hk : k ≤ 100000000) (hl : l.length = n) (h : w.ownsRow base 3 1 (.slice (some ⟨g, 0, none⟩) n c) n (cellsN l)) :
    Calls Try.prog 39 #[.slice (some ⟨g, 0, none⟩) n c, .int .i64 k] w (MarkPost base (.slice (some ⟨g, 0, none⟩) n c) k n w) := by
  have hl' := hide hl
  have h' := hide h
  clear hl h
  go_enter Try.func39, Try.ntmps39
  go_wp2
  go_loopw [1, 5] (fun q i wr => ∃ j : Nat, j ≤ n ∧ i = .int .i64 j ∧ q = .int .i64 ((k + j : Nat) : Int) ∧ wr.ownsRow base 3 1 (.slice (some ⟨g, 0, none⟩) n c) n (cellsN (markTo l k j)) ∧ w.grownBy wr (some g)) (fun _ i _ => n - (intOf i).toNat)
  case atStart => exact ⟨0, Nat.zero_le _, rfl, rfl, by rw [markTo_zero]; exact h'.out, only_refl _ _⟩
  case round =>
    obtain ⟨j, hj, rfl, rfl, hb, hg⟩ := hrel
    have hb' := hide hb
    have hg' := hide hg
    clear hg
    by_cases hlt : j < n
    · have hat : (markTo l k j)[j]? = some (l[j]'(by have := hl'.out; omega)) := by
        rw [markTo_at l k j n hl'.out hlt]
        exact List.getElem?_eq_getElem _
      obtain ⟨c0, z0⟩ := own_intAt hb (markTo_len l k j n hl'.out hj) hat
      have hst := hide (markTo_step l k j n hl'.out hlt)
      have hsz := size_of_cell c0
      clear hat hb
      go_wp2
      go_roundw
      case rel => exact ⟨j + 1, by omega, by go_num, by go_num, by rw [← hst.out]; have := own_setN (j := j) ((k + j : Nat) : Int) hb'.out; simpa using this, by have := only_setCell (p := ⟨g, j, none⟩) hg'.out (.inl rfl) (.int .i64 ((k + j : Nat) : Int)); simpa using this⟩
      case measure => simp [intOf]; omega
    · have hf := markTo_full l k j n hl'.out hlt hj
      obtain rfl : j = n := by omega
      rw [hf] at hb'
      clear hf hb
      go_wp2
      unfold MarkPost
      go_ret
      exact ⟨rfl, hb'.out, hg'.out⟩
theorem markIntS_none (A : Option Addr) (c k : Nat) (w : World) (hk : k ≤ 100000000) :
    Calls Try.prog 39 #[.slice A 0 c, .int .i64 k] w fun e w' => e = .returned (.int .i64 (k : Int)) ∧ w = w' := by
  go_enter Try.func39, Try.ntmps39
  go_wp2
  refine wp_loop_rounds 1 ?_
  rw [rounds_succ]
  go_wp2
  go_ret
  exact ⟨rfl, rfl⟩
theorem markIntS_any (base n k : Nat) (v : Value) (l : List Int) (w : World) (hn : n ≤ 100000000) (hk : k ≤ 100000000) (hl : l.length = n) (h : w.ownsRow base 3 1 v n (cellsN l)) :
    Calls Try.prog 39 #[v, .int .i64 k] w (MarkPost base v k n w) := by
  have h2 := h.2
  rcases h2 with ⟨rfl, rfl⟩ | ⟨g, cap, cur, rfl, _⟩
  · refine (markIntS_none none 0 k w hk).mono ?_
    rintro e w' ⟨rfl, rfl⟩
    exact ⟨rfl, World.ownsRow_nil _ _ _ _, only_refl _ _⟩
  · exact markIntS_own base g n cap k l w hn hk hl h
theorem heldIntS_any (A : Option Addr) (n c k : Nat) (w : World) (hn : n ≤ 100000000) (hk : k ≤ 100000000) (h : Rd w 1 A n (cellsN (nats k n))) :
    Calls Try.prog 40 #[.slice A n c, .int .i64 k] w fun e w' => e = .returned (.int .i64 ((k + n : Nat) : Int)) ∧ w = w' := by
  go_enter Try.func40, Try.ntmps40
  go_wp2
  go_loop [1, 5] (fun q i => ∃ j : Nat, j ≤ n ∧ i = .int .i64 j ∧ q = .int .i64 ((k + j : Nat) : Int)) (fun _ i => n - (intOf i).toNat)
  case atStart => exact ⟨0, Nat.zero_le _, rfl, rfl⟩
  case round =>
    obtain ⟨j, hj, rfl, rfl⟩ := hrel
    by_cases hlt : j < n
    · obtain ⟨b, off, x, rfl, hbs, hx, c0⟩ := h.int (nats_len k n) hlt
      rw [nats_at k n j hlt] at hx
      obtain rfl := Option.some.inj hx
      clear hx
      go_wp2
      go_round
      case rel => exact ⟨j + 1, by omega, by go_num, by go_num⟩
      case measure => simp [intOf]; omega
    · obtain rfl : j = n := by omega
      go_wp2
      go_ret
      exact ⟨rfl, rfl⟩
end Go.Proofs.Ytfhhfibjjpiccaa
