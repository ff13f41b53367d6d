/- The exact laws' marks on a list of items that owns its row. Condition: the slice owns its row. -/
import Derived.Test.YtfhhfibjjpiccaaMade
import Derived.Laws.OwnMore
namespace Go.Proofs.Ytfhhfibjjpiccaa
open Go.RowKit
set_option linter.unusedVariables false
set_option linter.unusedSimpArgs false
set_option maxRecDepth 100000

def mB (q : Nat) : Bool := (((q : Int) + 1 + 1 + 1 + 1 + 1 + 1) % 3 == 0)
def mI (q : Nat) : I := ⟨(q : Int), ⟨(q : Int) + 1, (q : Int) + 1 + 1, (q : Int) + 1 + 1 + 1, (q : Int) + 1 + 1 + 1 + 1⟩, (q : Int) + 1 + 1 + 1 + 1 + 1, mB q⟩
def marksI (k n : Nat) : List I := (List.range n).map fun j => mI (k + 7 * j)
theorem marksI_len (k n : Nat) : (marksI k n).length = n := by simp [marksI]
theorem marksI_at (k n j : Nat) (h : j < n) : (marksI k n)[j]? = some (mI (k + 7 * j)) := by simp [marksI, h]
def markToI (l : List I) (k j : Nat) : List I := marksI k j ++ l.drop j
theorem markToI_zero (l : List I) (k : Nat) : markToI l k 0 = l := by simp [markToI, marksI]
theorem markToI_len (l : List I) (k j n : Nat) (hl : l.length = n) (hj : j ≤ n) : (markToI l k j).length = n := by
  simp [markToI, marksI_len]; omega
theorem markToI_at (l : List I) (k j n : Nat) (hl : l.length = n) (hj : j < n) : (markToI l k j)[j]? = l[j]? := by
  unfold markToI
  rw [List.getElem?_append_right (by rw [marksI_len]; omega), marksI_len]
  simp
theorem marksI_succ (k j : Nat) : marksI k (j + 1) = marksI k j ++ [mI (k + 7 * j)] := by simp [marksI, List.range_succ]
theorem markToI_step (l : List I) (k j n : Nat) (hl : l.length = n) (hj : j < n) : (markToI l k j).set j (mI (k + 7 * j)) = markToI l k (j + 1) := by
  unfold markToI
  rw [List.set_append, if_neg (by rw [marksI_len]; omega), marksI_len, marksI_succ]
  have e : l.drop j = l[j]'(by omega) :: l.drop (j + 1) := List.drop_eq_getElem_cons (by omega)
  rw [e, Nat.sub_self, List.set_cons_zero, List.append_assoc]
  rfl
theorem markToI_full (l : List I) (k j n : Nat) (hl : l.length = n) (hj : ¬ j < n) (hle : j ≤ n) : markToI l k j = marksI k n := by
  have : j = n := by omega
  subst this
  unfold markToI
  rw [List.drop_of_length_le (by omega), List.append_nil]
def MarkIP (base : Nat) (v : Value) (k n : Nat) (w : World) (e : Ending) (w' : World) : Prop := e = .returned (.int .i64 ((k + 7 * n : Nat) : Int)) ∧ w'.ownsRow base 65 7 v n (cellsI (marksI k n)) ∧ w.grownBy w' v.ownBlock
theorem own_itemAt {w : World} {base g n c : Nat} {t : TypeId} {L : List I} {j : Nat} {x : I} (h : w.ownsRow base t 7 (.slice (some ⟨g, 0, none⟩) n c) n (cellsI L)) (hL : L.length = n) (hx : L[j]? = some x) :
    (w.cell? ⟨g, j * 7, none⟩ = some (.int .i64 x.k) ∧ w.cell? ⟨g, j * 7 + 1, none⟩ = some (.int .i64 x.g.w) ∧ w.cell? ⟨g, j * 7 + 2, none⟩ = some (.int .i64 x.g.st) ∧ w.cell? ⟨g, j * 7 + 3, none⟩ = some (.int .i64 x.g.sh) ∧ w.cell? ⟨g, j * 7 + 4, none⟩ = some (.int .i64 x.g.o) ∧ w.cell? ⟨g, j * 7 + 5, none⟩ = some (.int .i64 x.c) ∧ w.cell? ⟨g, j * 7 + 6, none⟩ = some (.bool x.m)) ∧ ∀ i, w.frozen? ⟨g, i, none⟩ = false := by
  have hj := (List.getElem?_eq_some_iff.1 hx).1
  obtain ⟨h0, h1, h2, h3, h4, h5, h6⟩ := get_cellsI L j x hx
  exact ⟨⟨(h.cellAt _ (by omega)).trans h0, (h.cellAt _ (by omega)).trans h1, (h.cellAt _ (by omega)).trans h2, (h.cellAt _ (by omega)).trans h3, (h.cellAt _ (by omega)).trans h4, (h.cellAt _ (by omega)).trans h5, (h.cellAt _ (by omega)).trans h6⟩, fun i => h.frozenAt i⟩
theorem own_setI {w : World} {base g n c : Nat} {t : TypeId} {L : List I} {j : Nat} {x y : I} (h : w.ownsRow base t 7 (.slice (some ⟨g, 0, none⟩) n c) n (cellsI L)) (hx : L[j]? = some x) :
    (((((((w.setCell ⟨g, j * 7, none⟩ (.int .i64 y.k)).setCell ⟨g, j * 7 + 1, none⟩ (.int .i64 y.g.w)).setCell ⟨g, j * 7 + 2, none⟩ (.int .i64 y.g.st)).setCell ⟨g, j * 7 + 3, none⟩ (.int .i64 y.g.sh)).setCell ⟨g, j * 7 + 4, none⟩ (.int .i64 y.g.o)).setCell ⟨g, j * 7 + 5, none⟩ (.int .i64 y.c)).setCell ⟨g, j * 7 + 6, none⟩ (.bool y.m)).ownsRow base t 7 (.slice (some ⟨g, 0, none⟩) n c) n (cellsI (L.set j y)) := by
  have := (((((((h.stored (j * 7) (.int .i64 y.k)).1.stored (j * 7 + 1) (.int .i64 y.g.w)).1.stored (j * 7 + 2) (.int .i64 y.g.st)).1.stored (j * 7 + 3) (.int .i64 y.g.sh)).1.stored (j * 7 + 4) (.int .i64 y.g.o)).1.stored (j * 7 + 5) (.int .i64 y.c)).1.stored (j * 7 + 6) (.bool y.m)).1
  rwa [flat_setI L j x y hx] at this
set_option maxHeartbeats 1000000 in
theorem markItemS_some (base g n c k : Nat) (l : List I) (w : World) (hn : n ≤ 10000000) (hk : k ≤ 100000000) (hl : l.length = n) (h : w.ownsRow base 65 7 (.slice (some ⟨g, 0, none⟩) n c) n (cellsI l)) :
    Calls Try.prog 38 #[.slice (some ⟨g, 0, none⟩) n c, .int .i64 k] w (MarkIP base (.slice (some ⟨g, 0, none⟩) n c) k n w) := by
  have hl' := hide hl
  have h' := hide h
  clear hl h
  go_enter Try.func38, Try.ntmps38
  go_wp2
  go_loopw [1, 5] (fun q i wr => ∃ j : Nat, j ≤ n ∧ i = .int .i64 j ∧ q = .int .i64 ((k + 7 * j : Nat) : Int) ∧ wr.ownsRow base 65 7 (.slice (some ⟨g, 0, none⟩) n c) n (cellsI (markToI l k j)) ∧ w.grownBy wr (some g)) (fun _ i _ => n - (intOf i).toNat)
  case atStart => exact ⟨0, Nat.zero_le _, rfl, rfl, by rw [markToI_zero]; exact h'.out, only_refl _ _⟩
  case round =>
    obtain ⟨j, hj, rfl, rfl, hb, hg⟩ := hrel
    have hb' := hide hb
    have hg' := hide hg
    clear hg
    by_cases hlt : j < n
    · have hat : (markToI l k j)[j]? = some (l[j]'(by have := hl'.out; omega)) := by
        rw [markToI_at l k j n hl'.out hlt]
        exact List.getElem?_eq_getElem _
      generalize l[j]'(by have := hl'.out; omega) = x at hat
      obtain ⟨⟨c0, c1, c2, c3, c4, c5, c6⟩, zz⟩ := own_itemAt hb (markToI_len l k j n hl'.out hj) hat
      have z0 := zz (j * 7)
      have z1 := zz (j * 7 + 1)
      have z2 := zz (j * 7 + 2)
      have z3 := zz (j * 7 + 3)
      have z4 := zz (j * 7 + 4)
      have z5 := zz (j * 7 + 5)
      have z6 := zz (j * 7 + 6)
      clear zz
      have hst := hide (markToI_step l k j n hl'.out hlt)
      have hat' := hide hat
      have hsz := size_of_cell c0
      obtain ⟨q, hq⟩ : ∃ q : Nat, q = k + 7 * j := ⟨_, rfl⟩
      have hq' := hide hq
      rw [← hq]
      have hqb : q ≤ 200000000 := by omega
      clear hat hb hq
      go_wp2
      go_roundw
      case rel =>
        have hq := hq'.out
        have hbm : ∀ b : Bool, b = mB q → (((((((wr.setCell ⟨g, j * 7, none⟩ (.int .i64 (mI q).k)).setCell ⟨g, j * 7 + 1, none⟩ (.int .i64 (mI q).g.w)).setCell ⟨g, j * 7 + 2, none⟩ (.int .i64 (mI q).g.st)).setCell ⟨g, j * 7 + 3, none⟩ (.int .i64 (mI q).g.sh)).setCell ⟨g, j * 7 + 4, none⟩ (.int .i64 (mI q).g.o)).setCell ⟨g, j * 7 + 5, none⟩ (.int .i64 (mI q).c)).setCell ⟨g, j * 7 + 6, none⟩ (.bool b)).ownsRow base 65 7 (.slice (some ⟨g, 0, none⟩) n c) n (cellsI (markToI l k (j + 1))) := by
          rintro b rfl
          rw [← hst.out, ← hq]
          exact own_setI (y := mI q) hb'.out hat'.out
        refine ⟨j + 1, by omega, by go_num, by congr 1; omega, hbm _ rfl, (only_setCell (only_setCell (only_setCell (only_setCell (only_setCell (only_setCell (only_setCell hg'.out (.inl rfl) _) (.inl rfl) _) (.inl rfl) _) (.inl rfl) _) (.inl rfl) _) (.inl rfl) _) (.inl rfl) _)⟩
      case measure => simp [intOf]; omega
    · have hf := markToI_full l k j n hl'.out hlt hj
      obtain rfl : j = n := by omega
      rw [hf] at hb'
      clear hf hb
      go_wp2
      unfold MarkIP
      go_ret
      exact ⟨rfl, hb'.out, hg'.out⟩
theorem markItemS_none (A : Option Addr) (c k : Nat) (w : World) (hk : k ≤ 100000000) :
    Calls Try.prog 38 #[.slice A 0 c, .int .i64 k] w fun e w' => e = .returned (.int .i64 (k : Int)) ∧ w = w' := by
  go_enter Try.func38, Try.ntmps38
  go_wp2
  refine wp_loop_rounds 1 ?_
  rw [rounds_succ]
  go_wp2
  go_ret
  exact ⟨rfl, rfl⟩
theorem markItemS_any (base n k : Nat) (v : Value) (l : List I) (w : World) (hn : n ≤ 10000000) (hk : k ≤ 100000000) (hl : l.length = n) (h : w.ownsRow base 65 7 v n (cellsI l)) :
    Calls Try.prog 38 #[v, .int .i64 k] w (MarkIP base v k n w) := by
  have h2 := h.2
  rcases h2 with ⟨rfl, rfl⟩ | ⟨g, cap, cur, rfl, _⟩
  · refine (markItemS_none none 0 k w hk).mono ?_
    rintro e w' ⟨rfl, rfl⟩
    exact ⟨rfl, World.ownsRow_nil _ _ _ _, only_refl _ _⟩
  · exact markItemS_some base g n cap k l w hn hk hl h
set_option maxHeartbeats 1000000 in
theorem heldItemS_any (A : Option Addr) (n c k : Nat) (w : World) (hn : n ≤ 10000000) (hk : k ≤ 100000000) (h : Rd w 7 A n (cellsI (marksI k n))) :
    Calls Try.prog 47 #[.slice A n c, .int .i64 k] w fun e w' => e = .returned (.int .i64 ((k + 7 * n : Nat) : Int)) ∧ Below w.heap.size w w' := by
  go_enter Try.func47, Try.ntmps47
  go_wp2
  go_loopw [1, 5] (fun q i wr => ∃ j : Nat, j ≤ n ∧ i = .int .i64 j ∧ q = .int .i64 ((k + 7 * j : Nat) : Int) ∧ Below w.heap.size w wr) (fun _ i _ => n - (intOf i).toNat)
  case atStart => exact ⟨0, Nat.zero_le _, rfl, rfl, Below.refl _ _⟩
  case round =>
    obtain ⟨j, hj, rfl, rfl, hw⟩ := hrel
    have hw' := hide hw
    by_cases hlt : j < n
    · obtain ⟨b, off, x, rfl, hbs, hx, c0, c1, c2, c3, c4, c5, c6⟩ := (h.below hw).item (marksI_len k n) hlt
      rw [marksI_at k n j hlt] at hx
      obtain rfl := Option.some.inj hx
      clear hx
      dsimp only [mI] at c0 c1 c2 c3 c4 c5 c6
      obtain ⟨q, hq⟩ : ∃ q : Nat, q = k + 7 * j := ⟨_, rfl⟩
      have hq' := hide hq
      rw [← hq] at c0 c1 c2 c3 c4 c5 c6 ⊢
      have hqb : q ≤ 200000000 := by omega
      have hmb : (mB q == (((q : Int) + 1 + 1 + 1 + 1 + 1 + 1) % 3 == 0)) = true := by unfold mB; exact beq_self_eq_true _
      clear hw hq
      go_wp2
      go_roundw
      case rel => exact ⟨j + 1, by omega, by go_num, by have := hq'.out; congr 1; omega, hw'.out⟩
      case measure => simp [intOf]; omega
    · obtain rfl : j = n := by omega
      go_wp2
      go_ret
      exact ⟨rfl, hw'.out⟩
end Go.Proofs.Ytfhhfibjjpiccaa
