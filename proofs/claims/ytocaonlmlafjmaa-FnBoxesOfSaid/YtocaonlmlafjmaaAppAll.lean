/- A row appended whole to an own row, as a step of a region that draws. Condition: the slice reads as the list. -/
import Derived.Test.YtocaonlmlafjmaaKCore
namespace Go.Proofs.Ytocaonlmlafjmaa
open Go.RowKit
set_option linter.unusedVariables false
set_option linter.unusedSimpArgs false
set_option maxRecDepth 100000

theorem run_append_all {P : Program} (w : World) (t ty : TypeId) (base : Nat) (e : TypeId) (i : TypeInfo) (z : Value) (size bytes : Nat) (ht : P.underlying t = some (.slice e)) (hi : P.info? e = some i) (hz : i.zero = some z)
    (hsize : i.size = size) (hby : i.bytes = bytes) (hzs : z.cells.size = size) (hpos : 0 < size) (v : Value) (m : Nat) (ys : List Value) (hown : w.ownsRow base e size v m ys)
    (A : Option Addr) (n c : Nat) (xs : List Value) (h : Rd w size A n xs) (hone : ∀ u ∈ xs, u.oneCell' = true) (h63 : m + n ≤ maxLen) (hbytes : (m + n) * bytes ≤ 140737488355328) (hbase : base ≤ w.heap.size) :
    ∃ v' w', (Builtin.append_ #[t, t] ty #[v, .slice A n c]).run P w = .ok v' w' ∧ w'.ownsRow base e size v' (m + n) (ys ++ xs) ∧ w.grownBy w' v.ownBlock := by
  by_cases h0 : 0 < n
  · obtain ⟨b, off, rfl, hb, hx⟩ := h.2 h0
    obtain ⟨v', w', hr, h2, h3, _, _⟩ := run_append_own_at (P := P) w base t ty e i z size bytes ht hi hz hsize hby hzs hpos v m ys hown ⟨b, off, none⟩ n c xs h.1 (fun j u hj => by rw [addr_add]; exact hx j u hj) hone h63 hbytes hbase
    exact ⟨v', w', hr, h2, h3⟩
  · obtain rfl : n = 0 := by omega
    have hl : xs = [] := List.length_eq_zero_iff.1 (by have := h.1; omega)
    have hs : Src P i.size t (.slice A 0 c) 0 [] w := by
      cases A with
      | none => exact Src.ofNil w ht c
      | some a => exact Src.ofSlice w ht a 0 c [] (by simp) (fun j u hj => by cases hj) (fun u hu => by cases hu)
    obtain ⟨B, d, rfl, hmd, _⟩ := own_form hown
    refine ⟨_, w, run_append_nothing w t t ty e i ht hi B m d hmd _ hs, ?_, ?_⟩
    · rw [hl, List.append_nil]
      exact hown
    · exact only_refl w _
theorem step_append_is {P : Program} {ops : Array Oper} {o : Oper} {a : Act} {K : Act → World → Prop} {Q : Exit → Act → World → Prop} {E : Prop} {w : World} (s x : Operand) (t : TypeId)
    (ho : o.op = .call { callee := .builtin .append, args := #[s, x], argTypes := #[t, t] }) (hw : Region.wanted o (yielded ops a.tmps) = true) (h : o.op = .call { callee := .builtin .append, args := #[s, x], argTypes := #[t, t] } → Oper.wp P o a w K Q) :
    if Region.wanted o (yielded ops a.tmps) = true then Oper.wp P o a w K Q else E := by
  rw [if_pos hw]
  exact h ho
theorem wp_append_all {P : Program} {o : Oper} {a : Act} {K : Act → World → Prop} {Q : Exit → Act → World → Prop} (w : World) {s x : Operand} {t : TypeId}
    (ho : o.op = .call { callee := .builtin .append, args := #[s, x], argTypes := #[t, t] })
    (base : Nat) (e : TypeId) (i : TypeInfo) (z : Value) (size bytes : Nat) (ht : P.underlying t = some (.slice e)) (hi : P.info? e = some i) (hz : i.zero = some z)
    (hsize : i.size = size) (hby : i.bytes = bytes) (hzs : z.cells.size = size) (hpos : 0 < size) (v : Value) (m : Nat) (ys : List Value) (hs : a.eval s = v) (hown : w.ownsRow base e size v m ys)
    (A : Option Addr) (n c : Nat) (hx : a.eval x = .slice A n c) (xs : List Value) (h : Rd w size A n xs) (hone : ∀ u ∈ xs, u.oneCell' = true) (h63 : m + n ≤ maxLen) (hbytes : (m + n) * bytes ≤ 140737488355328) (hbase : base ≤ w.heap.size)
    (N : Nat) (hN : m + n = N) (zs : List Value) (hzz : ys ++ xs = zs)
    (hk : ∀ A' c' w', w'.ownsRow base e size (.slice A' N c') N zs → w.grownBy w' v.ownBlock → (∀ kk, v.ownBlock = some kk → base ≤ kk) → K (a.put o.dst (.slice A' N c')) w') :
    Oper.wp P o a w K Q := by
  subst hN
  subst hzz
  obtain ⟨v', w', hr, h2, h3⟩ := run_append_all (P := P) w t o.type base e i z size bytes ht hi hz hsize hby hzs hpos v m ys hown A n c xs h hone h63 hbytes hbase
  obtain ⟨A', c', rfl, _, _⟩ := own_form h2
  unfold Oper.wp execOp
  simp only [ho, resolve, invoke, builtin, Sem.run_bind, Sem.run_pure, Result.andThen_ok, List.map_toArray, List.map_cons, List.map_nil, hs, hx, hr]
  exact hk A' c' w' h2 h3 (fun kk hkk => (hown.lt kk hkk).1)
end Go.Proofs.Ytocaonlmlafjmaa
