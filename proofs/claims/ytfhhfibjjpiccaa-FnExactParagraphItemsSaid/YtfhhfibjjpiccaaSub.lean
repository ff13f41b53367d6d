/- A part of a slice of wide elements, and such a list appended whole. Condition: the slice reads as the list. -/
import Derived.Test.YtfhhfibjjpiccaaAppSub
namespace Go.Proofs.Ytfhhfibjjpiccaa
open Go.RowKit
set_option linter.unusedVariables false
set_option linter.unusedSimpArgs false

/-- The cells of a fresh block, to be appended. -/
theorem news_new (w : World) (t : TypeId) (xs : List Value) : ∀ j u, xs[j]? = some u → (w.alloc (.cells xs.toArray t)).cell? ((⟨w.heap.size, 0, none⟩ : Addr).add j) = some u := by
  intro j u hj
  rw [addr_add, Nat.zero_add]
  exact Blk.cellL (Blk.new w t _) j u hj
theorem flat_drop {α : Type} (f : α → List Value) (k : Nat) (hf : ∀ a, (f a).length = k) (l : List α) : ∀ m, (l.flatMap f).drop (m * k) = (l.drop m).flatMap f := by
  induction l with
  | nil => intro m; simp
  | cons a l ih =>
    intro m
    cases m with
    | zero => simp
    | succ m =>
      rw [List.flatMap_cons, Nat.succ_mul, Nat.add_comm, ← List.drop_drop, List.drop_left' (hf a), ih, List.drop_succ_cons]
theorem flat_take {α : Type} (f : α → List Value) (k : Nat) (hf : ∀ a, (f a).length = k) (l : List α) : ∀ m, (l.flatMap f).take (m * k) = (l.take m).flatMap f := by
  induction l with
  | nil => intro m; simp
  | cons a l ih =>
    intro m
    cases m with
    | zero => simp
    | succ m =>
      have e : (m + 1) * k = (f a).length + m * k := by rw [hf, Nat.succ_mul, Nat.add_comm]
      rw [List.flatMap_cons, e, List.take_length_add_append, ih, List.take_succ_cons, List.flatMap_cons]
theorem cellsG_drop (l : List G) (m : Nat) : (cellsG l).drop (m * 4) = cellsG (l.drop m) := flat_drop G.cells 4 (fun _ => rfl) l m
theorem cellsG_take (l : List G) (m : Nat) : (cellsG l).take (m * 4) = cellsG (l.take m) := flat_take G.cells 4 (fun _ => rfl) l m
theorem cellsI_drop (l : List I) (m : Nat) : (cellsI l).drop (m * 7) = cellsI (l.drop m) := flat_drop I.cells 7 (fun _ => rfl) l m
theorem cellsI_take (l : List I) (m : Nat) : (cellsI l).take (m * 7) = cellsI (l.take m) := flat_take I.cells 7 (fun _ => rfl) l m
theorem rd_subN {w : World} {A : Option Addr} {n c m size : Nat} {xs : List Value} (h : Rd w size A n xs) (hc : n ≤ c) (hm : m ≤ n) :
    Rd w size (if c = m then A else A.map (·.add (m * size))) (n - m) (xs.drop (m * size)) := by
  refine ⟨?_, fun h0 => ?_⟩
  · rw [List.length_drop, h.1, Nat.sub_mul]
  · obtain ⟨b, off, e, hb, hx⟩ := h.2 (by omega)
    rw [if_neg (by omega), e]
    refine ⟨b, off + m * size, congrArg some (addr_add b off (m * size)), hb, fun j u hj => ?_⟩
    rw [List.getElem?_drop] at hj
    rw [show off + m * size + j = off + (m * size + j) from by omega]
    exact hx _ _ hj
theorem rd_takeN {w : World} {A : Option Addr} {n m size : Nat} {xs : List Value} (h : Rd w size A n xs) (hm : m ≤ n) : Rd w size A m (xs.take (m * size)) := by
  have hle : m * size ≤ n * size := Nat.mul_le_mul_right _ hm
  refine ⟨?_, fun h0 => ?_⟩
  · rw [List.length_take, h.1, Nat.min_eq_left hle]
  · obtain ⟨b, off, e, hb, hx⟩ := h.2 (by omega)
    refine ⟨b, off, e, hb, fun j u hj => hx j u ?_⟩
    have hjm : j < m * size := by
      rcases Nat.lt_or_ge j (m * size) with h | h
      · exact h
      · rw [List.getElem?_eq_none (by rw [List.length_take]; omega)] at hj; cases hj
    rwa [List.getElem?_take_of_lt hjm] at hj
theorem rdG_drop {w : World} {A : Option Addr} {n c m : Nat} {l : List G} (h : Rd w 4 A n (cellsG l)) (hc : n ≤ c) (hm : m ≤ n) : Rd w 4 (if c = m then A else A.map (·.add (m * 4))) (n - m) (cellsG (l.drop m)) := by
  rw [← cellsG_drop]; exact rd_subN h hc hm
theorem rdG_take {w : World} {A : Option Addr} {n m : Nat} {l : List G} (h : Rd w 4 A n (cellsG l)) (hm : m ≤ n) : Rd w 4 A m (cellsG (l.take m)) := by
  rw [← cellsG_take]; exact rd_takeN h hm
theorem rdI_drop {w : World} {A : Option Addr} {n c m : Nat} {l : List I} (h : Rd w 7 A n (cellsI l)) (hc : n ≤ c) (hm : m ≤ n) : Rd w 7 (if c = m then A else A.map (·.add (m * 7))) (n - m) (cellsI (l.drop m)) := by
  rw [← cellsI_drop]; exact rd_subN h hc hm
theorem rdI_take {w : World} {A : Option Addr} {n m : Nat} {l : List I} (h : Rd w 7 A n (cellsI l)) (hm : m ≤ n) : Rd w 7 A m (cellsI (l.take m)) := by
  rw [← cellsI_take]; exact rd_takeN h hm

theorem run_append_rdN {P : Program} (w : World) (t ty : TypeId) (base : Nat) (e : TypeId) (i : TypeInfo) (z : Value) (size bytes : Nat) (ht : P.underlying t = some (.slice e)) (hi : P.info? e = some i) (hz : i.zero = some z)
    (hsize : i.size = size) (hby : i.bytes = bytes) (hzs : z.cells.size = size) (hpos : 0 < size) (g : Nat) (hown : w.ownsRow base e size (.slice (some ⟨g, 0, none⟩) 0 0) 0 [])
    (A : Option Addr) (n c : Nat) (xs : List Value) (h : Rd w size A n xs) (hone : ∀ u ∈ xs, u.oneCell' = true) (h63 : n ≤ maxLen) (hbytes : n * bytes ≤ 140737488355328) (hbase : base ≤ w.heap.size) :
    ∃ v' w', (Builtin.append_ #[t, t] ty #[.slice (some ⟨g, 0, none⟩) 0 0, .slice A n c]).run P w = .ok v' w' ∧ w'.ownsRow base e size v' n xs ∧ w.grownBy w' (some g) := by
  by_cases h0 : 0 < n
  · obtain ⟨b, off, rfl, hb, hx⟩ := h.2 h0
    obtain ⟨v', w', hr, h2, h3, _, _⟩ := run_append_own_at (P := P) w base t ty e i z size bytes ht hi hz hsize hby hzs hpos _ 0 [] hown ⟨b, off, none⟩ n c xs h.1 (fun j u hj => by rw [addr_add]; exact hx j u hj) hone (by omega) (by simpa using hbytes) hbase
    refine ⟨v', w', hr, ?_, h3⟩
    simpa using h2
  · obtain rfl : n = 0 := by omega
    have hl : xs = [] := List.length_eq_zero_iff.1 (by have := h.1; omega)
    have hs : Src P i.size t (.slice A 0 c) 0 [] w := by
      cases A with
      | none => exact Src.ofNil w ht c
      | some a => exact Src.ofSlice w ht a 0 c [] (by simp) (fun j u hj => by cases hj) (fun u hu => by cases hu)
    refine ⟨_, w, run_append_nothing w t t ty e i ht hi (some ⟨g, 0, none⟩) 0 0 (Nat.le_refl _) _ hs, ?_, only_refl _ _⟩
    rw [hl]
    exact hown
theorem wp_append_rdN {P : Program} (w : World) {o : Oper} {a : Act} {K : Act → World → Prop} {Q : Exit → Act → World → Prop} (s x : Operand) (t : TypeId)
    (ho : o.op = .call { callee := .builtin .append, args := #[s, x], argTypes := #[t, t] })
    (base : Nat) (e : TypeId) (i : TypeInfo) (z : Value) (size bytes : Nat) (ht : P.underlying t = some (.slice e)) (hi : P.info? e = some i) (hz : i.zero = some z)
    (hsize : i.size = size) (hby : i.bytes = bytes) (hzs : z.cells.size = size) (hpos : 0 < size) (g : Nat) (hs : a.eval s = .slice (some ⟨g, 0, none⟩) 0 0) (hown : w.ownsRow base e size (.slice (some ⟨g, 0, none⟩) 0 0) 0 [])
    (A : Option Addr) (n c : Nat) (hx : a.eval x = .slice A n c) (xs : List Value) (h : Rd w size A n xs) (hone : ∀ u ∈ xs, u.oneCell' = true) (h63 : n ≤ maxLen) (hbytes : n * bytes ≤ 140737488355328) (hbase : base ≤ w.heap.size)
    (hk : ∀ A' c' w', w'.ownsRow base e size (.slice A' n c') n xs → w.grownBy w' (some g) → K (a.put o.dst (.slice A' n c')) w') : o.wp P a w K Q := by
  obtain ⟨v', w', hr, h2, h3⟩ := run_append_rdN (P := P) w t o.type base e i z size bytes ht hi hz hsize hby hzs hpos g hown A n c xs h hone h63 hbytes hbase
  obtain ⟨A', c', rfl, _, _⟩ := own_form h2
  unfold Oper.wp execOp
  simp only [ho, resolve, invoke, builtin, Sem.run_bind, Sem.run_pure, Result.andThen_ok, List.map_toArray, List.map_cons, List.map_nil, hs, hx, hr]
  exact hk A' c' w' h2 h3
theorem one_ints (l : List Int) : ∀ u ∈ cellsN l, u.oneCell' = true := by
  intro u hu
  simp only [cellsN, List.mem_map] at hu
  obtain ⟨x, _, rfl⟩ := hu
  rfl
theorem one_items (l : List I) : ∀ u ∈ cellsI l, u.oneCell' = true := by
  intro u hu
  simp only [cellsI, List.mem_flatMap] at hu
  obtain ⟨x, _, hu⟩ := hu
  simp [I.cells] at hu
  rcases hu with rfl | rfl | rfl | rfl | rfl | rfl | rfl <;> rfl
end Go.Proofs.Ytfhhfibjjpiccaa
