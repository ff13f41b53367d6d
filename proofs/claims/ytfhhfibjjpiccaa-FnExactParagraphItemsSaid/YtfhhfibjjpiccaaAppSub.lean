/- A part of a slice, and a list appended whole. Condition: the slice reads as the list. -/
import Derived.Test.YtfhhfibjjpiccaaOwnS
import Derived.Deep.Upon
namespace Go.Proofs.Ytfhhfibjjpiccaa
open Go.RowKit
set_option linter.unusedVariables false
set_option linter.unusedSimpArgs false

theorem own_cap {w : World} {base : Nat} {e : TypeId} {size n c : Nat} {A : Option Addr} {xs : List Value} (h : w.ownsRow base e size (.slice A n c) n xs) : c ≤ maxLen := by
  rcases h.2 with ⟨hv, h0⟩ | ⟨g, cap, cur, hv, hg, hh, hnc, hcm, hcs, htk⟩
  · injection hv with h1 h2 h3; subst h3; exact Nat.zero_le _
  · injection hv with h1 h2 h3; subst h3; exact hcm
theorem rd_sub {w : World} {A : Option Addr} {n c m : Nat} {L : List ByteArray} (h : Rd w 1 A n (cellsS L)) (hl : L.length = n) (hc : n ≤ c) (hm : m ≤ n) :
    Rd w 1 (if c = m then A else A.map (·.add (m * 1))) (n - m) (cellsS (L.drop m)) := by
  refine ⟨?_, fun h0 => ?_⟩
  · have := len_cellsS (L.drop m); rw [this, List.length_drop]; omega
  · obtain ⟨b, off, e, hb, hx⟩ := h.2 (by omega)
    rw [if_neg (by omega), e]
    refine ⟨b, off + m, by simp [Addr.add], hb, fun j u hj => ?_⟩
    have : (cellsS L)[m + j]? = some u := by
      simpa [cellsS] using hj
    rw [show off + m + j = off + (m + j) from by omega]
    exact hx _ _ this
theorem addr_add (b off j : Nat) : (⟨b, off, none⟩ : Addr).add j = ⟨b, off + j, none⟩ := by
  by_cases h : j = 0
  · subst h; simp [Addr.add]
  · simp [Addr.add, h]
theorem wpList_wanted {P : Program} {ops : Array Oper} {rest : List Oper} {o : Oper} {a : Act} {w : World} {Q : Exit → Act → World → Prop} (hw : Region.wanted o (yielded ops a.tmps) = true)
    (h : ∀ K : Act → World → Prop, (∀ a w, wpList P ops Q rest a w → K a w) → o.wp P a w K Q) : wpList P ops Q (o :: rest) a w :=
  wpList_step fun K hK => by simp only [hw, if_true]; exact h K hK
theorem one_strs (L : List ByteArray) : ∀ u ∈ cellsS L, u.oneCell' = true := by
  intro u hu
  simp only [cellsS, List.mem_map] at hu
  obtain ⟨x, _, rfl⟩ := hu
  rfl
theorem run_append_rd {P : Program} (w : World) (t ty : TypeId) (base : Nat) (e : TypeId) (i : TypeInfo) (z : Value) (bytes : Nat) (ht : P.underlying t = some (.slice e)) (hi : P.info? e = some i) (hz : i.zero = some z)
    (hsize : i.size = 1) (hby : i.bytes = bytes) (hzs : z.cells.size = 1) (g : Nat) (hown : w.ownsRow base e 1 (.slice (some ⟨g, 0, none⟩) 0 0) 0 [])
    (A : Option Addr) (n c : Nat) (L : List ByteArray) (h : Rd w 1 A n (cellsS L)) (h63 : n ≤ maxLen) (hbytes : n * bytes ≤ 140737488355328) (hbase : base ≤ w.heap.size) :
    ∃ v' w', (Builtin.append_ #[t, t] ty #[.slice (some ⟨g, 0, none⟩) 0 0, .slice A n c]).run P w = .ok v' w' ∧ w'.ownsRow base e 1 v' n (cellsS L) ∧ w.grownBy w' (some g) := by
  by_cases h0 : 0 < n
  · obtain ⟨b, off, rfl, hb, hx⟩ := h.2 h0
    obtain ⟨v', w', hr, h2, h3, _, _⟩ := run_append_own_at (P := P) w base t ty e i z 1 bytes ht hi hz hsize hby hzs (by omega) _ 0 [] hown ⟨b, off, none⟩ n c (cellsS L) h.1 (fun j u hj => by rw [addr_add]; exact hx j u hj) (one_strs L) (by omega) (by simpa using hbytes) hbase
    refine ⟨v', w', hr, ?_, h3⟩
    simpa using h2
  · obtain rfl : n = 0 := by omega
    have hl : cellsS L = [] := List.length_eq_zero_iff.1 (by have := h.1; omega)
    have hs : Src P i.size t (.slice A 0 c) 0 [] w := by
      cases A with
      | none => exact Src.ofNil w ht c
      | some a => exact Src.ofSlice w ht a 0 c [] (by simp) (fun j u hj => by cases hj) (fun u hu => by cases hu)
    refine ⟨_, w, run_append_nothing w t t ty e i ht hi (some ⟨g, 0, none⟩) 0 0 (Nat.le_refl _) _ hs, ?_, only_refl _ _⟩
    rw [hl]
    exact hown
theorem wp_append_rd {P : Program} (w : World) {o : Oper} {a : Act} {K : Act → World → Prop} {Q : Exit → Act → World → Prop} (s x : Operand) (t : TypeId)
    (ho : o.op = .call { callee := .builtin .append, args := #[s, x], argTypes := #[t, t] })
    (base : Nat) (e : TypeId) (i : TypeInfo) (z : Value) (bytes : Nat) (ht : P.underlying t = some (.slice e)) (hi : P.info? e = some i) (hz : i.zero = some z)
    (hsize : i.size = 1) (hby : i.bytes = bytes) (hzs : z.cells.size = 1) (g : Nat) (hs : a.eval s = .slice (some ⟨g, 0, none⟩) 0 0) (hown : w.ownsRow base e 1 (.slice (some ⟨g, 0, none⟩) 0 0) 0 [])
    (A : Option Addr) (n c : Nat) (hx : a.eval x = .slice A n c) (L : List ByteArray) (h : Rd w 1 A n (cellsS L)) (h63 : n ≤ maxLen) (hbytes : n * bytes ≤ 140737488355328) (hbase : base ≤ w.heap.size)
    (hk : ∀ A' c' w', w'.ownsRow base e 1 (.slice A' n c') n (cellsS L) → w.grownBy w' (some g) → K (a.put o.dst (.slice A' n c')) w') : o.wp P a w K Q := by
  obtain ⟨v', w', hr, h2, h3⟩ := run_append_rd (P := P) w t o.type base e i z bytes ht hi hz hsize hby hzs g hown A n c L h h63 hbytes hbase
  obtain ⟨A', c', rfl, _, _⟩ := own_form h2
  unfold Oper.wp execOp
  simp only [ho, resolve, invoke, builtin, Sem.run_bind, Sem.run_pure, Result.andThen_ok, List.map_toArray, List.map_cons, List.map_nil, hs, hx, hr]
  exact hk A' c' w' h2 h3
end Go.Proofs.Ytfhhfibjjpiccaa
