/- What arguments read as: bytes, texts, glues and items, one by one and in slices, as plain lists. No condition. -/
import Derived.Test.YtfhhfibjjpiccaaBase
import Derived.Test.YtfhhfibjjpiccaaShape
import Derived.Deep.Strs
namespace Go.Proofs.Ytfhhfibjjpiccaa
open Go.RowKit Go.ChangeShapes Go.WideShapes Go.Deep
set_option linter.unusedVariables false
set_option linter.unusedSimpArgs false

def G.cells (g : G) : List Value := [.int .i64 g.w, .int .i64 g.st, .int .i64 g.sh, .int .i64 g.o]
def cellsG (gs : List G) : List Value := gs.flatMap G.cells
def I.cells (i : I) : List Value := [.int .i64 i.k, .int .i64 i.g.w, .int .i64 i.g.st, .int .i64 i.g.sh, .int .i64 i.g.o, .int .i64 i.c, .bool i.m]
def cellsI (l : List I) : List Value := l.flatMap I.cells
def cellsN (l : List Int) : List Value := l.map (Value.int .i64)
def cellsB (l : List Int) : List Value := l.map (Value.int .u8)
def cellsS (l : List ByteArray) : List Value := l.map Value.string

theorem flat_len {α : Type} (f : α → List Value) (s : Nat) (hf : ∀ a, (f a).length = s) (l : List α) : (l.flatMap f).length = l.length * s := by
  induction l with
  | nil => simp
  | cons a l ih => rw [List.flatMap_cons, List.length_append, ih, hf, List.length_cons, Nat.succ_mul, Nat.add_comm]
theorem flat_get {α : Type} (f : α → List Value) (s : Nat) (hf : ∀ a, (f a).length = s) (l : List α) (i r : Nat) (hr : r < s) : (l.flatMap f)[i * s + r]? = (l[i]?).bind fun a => (f a)[r]? := by
  induction l generalizing i with
  | nil => simp
  | cons a l ih =>
    rw [List.flatMap_cons]
    cases i with
    | zero => simp [List.getElem?_append_left (show r < (f a).length by rw [hf]; exact hr)]
    | succ i =>
      rw [List.getElem?_append_right (by rw [hf, Nat.succ_mul]; omega), hf, show (i + 1) * s + r - s = i * s + r from by rw [Nat.succ_mul]; omega, ih]
      simp
theorem len_cellsG (l : List G) : (cellsG l).length = l.length * 4 := flat_len _ 4 (fun _ => rfl) l
theorem len_cellsI (l : List I) : (cellsI l).length = l.length * 7 := flat_len _ 7 (fun _ => rfl) l
theorem get_cellsG (l : List G) (i : Nat) (g : G) (h : l[i]? = some g) : (cellsG l)[i * 4]? = some (.int .i64 g.w) ∧ (cellsG l)[i * 4 + 1]? = some (.int .i64 g.st) ∧ (cellsG l)[i * 4 + 2]? = some (.int .i64 g.sh) ∧ (cellsG l)[i * 4 + 3]? = some (.int .i64 g.o) := by
  have e := fun r hr => flat_get G.cells 4 (fun _ => rfl) l i r hr
  simp only [h, Option.bind_some, G.cells] at e
  exact ⟨e 0 (by omega), e 1 (by omega), e 2 (by omega), e 3 (by omega)⟩
theorem get_cellsI (l : List I) (i : Nat) (x : I) (h : l[i]? = some x) : (cellsI l)[i * 7]? = some (.int .i64 x.k) ∧ (cellsI l)[i * 7 + 1]? = some (.int .i64 x.g.w) ∧ (cellsI l)[i * 7 + 2]? = some (.int .i64 x.g.st) ∧ (cellsI l)[i * 7 + 3]? = some (.int .i64 x.g.sh) ∧
    (cellsI l)[i * 7 + 4]? = some (.int .i64 x.g.o) ∧ (cellsI l)[i * 7 + 5]? = some (.int .i64 x.c) ∧ (cellsI l)[i * 7 + 6]? = some (.bool x.m) := by
  have e := fun r hr => flat_get I.cells 7 (fun _ => rfl) l i r hr
  simp only [h, Option.bind_some, I.cells] at e
  exact ⟨e 0 (by omega), e 1 (by omega), e 2 (by omega), e 3 (by omega), e 4 (by omega), e 5 (by omega), e 6 (by omega)⟩
theorem flat_split {α : Type} (f : α → List Value) (s : Nat) (hs : 0 < s) (hf : ∀ a, (f a).length = s) (l : List α) (j : Nat) (u : Value) (h : (l.flatMap f)[j]? = some u) : ∃ i r a, j = i * s + r ∧ r < s ∧ l[i]? = some a ∧ (f a)[r]? = some u := by
  have hr : j % s < s := Nat.mod_lt _ hs
  have hj : j = j / s * s + j % s := by rw [Nat.mul_comm]; exact (Nat.div_add_mod j s).symm
  rw [hj, flat_get f s hf l _ _ hr] at h
  obtain ⟨a, ha, hu⟩ := Option.bind_eq_some_iff.1 h
  exact ⟨_, _, a, hj, hr, ha, hu⟩

section
variable {H : Type} {enc : TypeId × Value → H} {P : Program} {w : World} {base : Nat} {spare : Nat → Bool} {held : Bool}
theorem int_at {k : IntKind} {ft : TypeId} {n o : Nat} {cs : List Value} {y : DataW H × List MemPlace} (hi : P.underlying ft = some (.int k)) (h : DataW.trod enc P w base spare held n ft ((cs.drop o).take 1) = some y) : ∃ z, cs[o]? = some (.int k z) ∧ (Lit.int k z).wf = true := by
  obtain ⟨z, hz, _, hw⟩ := DataW.trod_int hi h
  refine ⟨z, ?_, hw⟩
  have := congrArg (fun l : List Value => l[0]?) hz
  simpa [List.getElem?_take, List.getElem?_drop] using this
theorem bool_at {ft : TypeId} {n o : Nat} {cs : List Value} {y : DataW H × List MemPlace} (hi : P.underlying ft = some .bool) (h : DataW.trod enc P w base spare held n ft ((cs.drop o).take 1) = some y) : ∃ z, cs[o]? = some (.bool z) := by
  obtain ⟨z, hz, _⟩ := DataW.trod_bool hi h
  refine ⟨z, ?_⟩
  have := congrArg (fun l : List Value => l[0]?) hz
  simpa [List.getElem?_take, List.getElem?_drop] using this

/-- The cells of one glue. -/
theorem trod_G {e ti : TypeId} {fs : Array Field} {n : Nat} {cs : List Value} {y : DataW H × List MemPlace} (he : P.underlying e = some (.struct fs)) (hC : P.cellsOf e = 4) (hti : P.underlying ti = some (.int .i64)) (hc1 : P.cellsOf ti = 1)
    (hf : ∀ j, j < 4 → ∃ f, fs[j]? = some f ∧ f.offset = j ∧ f.type = ti) (h : DataW.trod enc P w base spare held n e cs = some y) : ∃ g : G, cs = g.cells := by
  obtain ⟨xs, m, _, _, hlen, hxl, hx⟩ := DataW.trod_struct he h
  have at_ : ∀ j, j < 4 → ∃ z, cs[j]? = some (.int .i64 z) := by
    intro j hj
    obtain ⟨f, hfj, ho, ht⟩ := hf j hj
    have hq := hx j f hfj
    rw [ho, ht, hc1] at hq
    have hjs : j < fs.size := (Array.getElem?_eq_some_iff.1 hfj).1
    rw [List.getElem?_eq_getElem (show j < xs.length by omega)] at hq
    obtain ⟨z, hz, _⟩ := int_at hti hq
    exact ⟨z, hz⟩
  obtain ⟨z0, h0⟩ := at_ 0 (by omega)
  obtain ⟨z1, h1⟩ := at_ 1 (by omega)
  obtain ⟨z2, h2⟩ := at_ 2 (by omega)
  obtain ⟨z3, h3⟩ := at_ 3 (by omega)
  refine ⟨⟨z0, z1, z2, z3⟩, ?_⟩
  have hl4 : cs.length = 4 := hlen.trans hC
  clear hx hlen h
  rcases cs with _ | ⟨c0, _ | ⟨c1, _ | ⟨c2, _ | ⟨c3, _ | ⟨c4, t⟩⟩⟩⟩⟩ <;> simp at hl4
  simp at h0 h1 h2 h3
  subst h0 h1 h2 h3
  rfl

/-- The cells of one item. -/
theorem trod_I {e ti tg tb : TypeId} {fs fg : Array Field} {n : Nat} {cs : List Value} {y : DataW H × List MemPlace} (he : P.underlying e = some (.struct fs)) (hC : P.cellsOf e = 7) (hti : P.underlying ti = some (.int .i64)) (hc1 : P.cellsOf ti = 1)
    (htb : P.underlying tb = some .bool) (hcb : P.cellsOf tb = 1) (htg : P.underlying tg = some (.struct fg)) (hcg : P.cellsOf tg = 4)
    (hf : ∃ f0 f1 f2 f3, fs = #[f0, f1, f2, f3] ∧ f0.offset = 0 ∧ f0.type = ti ∧ f1.offset = 1 ∧ f1.type = tg ∧ f2.offset = 5 ∧ f2.type = ti ∧ f3.offset = 6 ∧ f3.type = tb)
    (hfg : ∀ j, j < 4 → ∃ f, fg[j]? = some f ∧ f.offset = j ∧ f.type = ti) (h : DataW.trod enc P w base spare held n e cs = some y) : ∃ i : I, cs = i.cells := by
  obtain ⟨xs, m, _, _, hlen, hxl, hx⟩ := DataW.trod_struct he h
  obtain ⟨f0, f1, f2, f3, rfl, o0, t0, o1, t1, o2, t2, o3, t3⟩ := hf
  have e0 := hx 0 f0 rfl
  have e1 := hx 1 f1 rfl
  have e2 := hx 2 f2 rfl
  have e3 := hx 3 f3 rfl
  have hs : xs.length = 4 := hxl
  rw [o0, t0, hc1, List.getElem?_eq_getElem (show 0 < xs.length by omega)] at e0
  rw [o1, t1, hcg, List.getElem?_eq_getElem (show 1 < xs.length by omega)] at e1
  rw [o2, t2, hc1, List.getElem?_eq_getElem (show 2 < xs.length by omega)] at e2
  rw [o3, t3, hcb, List.getElem?_eq_getElem (show 3 < xs.length by omega)] at e3
  obtain ⟨z0, h0, _⟩ := int_at hti e0
  obtain ⟨g, hg⟩ := trod_G htg hcg hti hc1 hfg e1
  obtain ⟨z2, h2, _⟩ := int_at hti e2
  obtain ⟨z3, h3⟩ := bool_at htb e3
  refine ⟨⟨z0, g, z2, z3⟩, ?_⟩
  have hl7 : cs.length = 7 := hlen.trans hC
  clear hx hlen h e0 e1 e2 e3
  rcases cs with _ | ⟨c0, _ | ⟨c1, _ | ⟨c2, _ | ⟨c3, _ | ⟨c4, _ | ⟨c5, _ | ⟨c6, _ | ⟨c7, t⟩⟩⟩⟩⟩⟩⟩⟩ <;> simp at hl7
  simp at h0 h2 h3
  simp [G.cells] at hg
  obtain ⟨q1, q2, q3, q4⟩ := hg
  subst h0 h2 h3 q1 q2 q3 q4
  rfl

theorem list_of_fn {α : Type} [Inhabited α] (n : Nat) (f : Nat → α) (i : Nat) (a : α) (h : ((List.range n).map f)[i]? = some a) : i < n ∧ f i = a := by
  rw [List.getElem?_map, Option.map_eq_some_iff] at h
  obtain ⟨k, hk, hf⟩ := h
  obtain ⟨hlt, rfl⟩ := List.getElem?_eq_some_iff.1 hk
  simp at hlt hf ⊢
  exact ⟨hlt, hf⟩

/-- A slice whose elements are known, each as so many cells. -/
theorem open_flat {α : Type} [Inhabited α] {r : Reach} {b0 : Nat} {t e : TypeId} {v : Value} {d : DataW H} {ps : List MemPlace} (f : α → List Value) (s : Nat) (hs : 0 < s) (hf : ∀ a, (f a).length = s) (ht : P.underlying t = some (.slice e)) (hC : P.cellsOf e = s)
    (hel : ∀ (n : Nat) (cs : List Value) (y : DataW H × List MemPlace), DataW.trod enc P w base spare held n e cs = some y → ∃ a : α, cs = f a)
    (hv : Value.okWide P w r b0 t v) (h : DataW.Trod enc P w base spare held t v d ps) : ∃ A n c l, v = .slice A n c ∧ n ≤ c ∧ c ≤ maxLen ∧ List.length l = n ∧ Rd w s A n (l.flatMap f) := by
  obtain ⟨A, n, c, rfl⟩ := okWide_slice ht hv
  obtain ⟨fuel, hfu⟩ := h
  rcases open_slice ht hfu with ⟨hcs, _⟩ | ⟨a, len, cap, m, k, D, Pl, hcs, hb, hl, hm, hmm, _, hi⟩
  · simp [Value.cells] at hcs
    obtain ⟨rfl, rfl, rfl⟩ := hcs
    exact ⟨none, 0, 0, [], rfl, Nat.le_refl _, by simp [maxLen], rfl, by simp [Rd]⟩
  · simp [Value.cells] at hcs
    obtain ⟨rfl, rfl, rfl⟩ := hcs
    have hnm : n ≤ m := by rw [hmm]; split <;> omega
    rw [hC] at hi
    obtain ⟨F, hF⟩ := choose_lt (α := α) (n := n) (p := fun i x => w.cells? base (a.add (i * s)) s = some (f x)) (fun i hi' => by
      obtain ⟨cs', hc, htr⟩ := hi i (by omega)
      obtain ⟨x, rfl⟩ := hel _ _ _ htr
      exact ⟨x, hc⟩)
    refine ⟨some a, n, c, (List.range n).map F, rfl, hl, hm, by simp, ?_⟩
    refine ⟨by rw [flat_len f s hf]; simp, fun hn => ?_⟩
    have hcell : ∀ i, i < n → ∀ q, q < s → w.cell? (a.add (i * s + q)) = (f (F i))[q]? := by
      intro i hi' q hq
      obtain ⟨_, _, hat⟩ := World.cells?_some (hF i hi')
      rw [← Go.Deep.add_add]
      exact hat q hq
    have h0 := hcell 0 hn 0 hs
    have hlen0 : 0 < (f (F 0)).length := by rw [hf]; exact hs
    rw [List.getElem?_eq_getElem hlen0] at h0
    have hsp : a.spot = none := by
      have := World.cell?_spot h0
      simpa [Addr.add] using this
    obtain ⟨b, off, spot⟩ := a
    subst hsp
    refine ⟨b, off, rfl, ?_, ?_⟩
    · simp only [Addr.add_lit] at h0
      exact size_of_cell h0
    · intro j u hu
      obtain ⟨i, q, x, rfl, hq, hix, hxq⟩ := flat_split f s hs hf _ j u hu
      obtain ⟨hin, rfl⟩ := list_of_fn n F i x hix
      have := hcell i hin q hq
      rw [hxq] at this
      simpa [Addr.add_lit] using this
end
theorem Rd.glue {w : World} {A : Option Addr} {n k : Nat} {l : List G} (h : Rd w 4 A n (cellsG l)) (hl : l.length = n) (hk : k < n) : ∃ b off g, A = some ⟨b, off, none⟩ ∧ b < w.heap.size ∧ l[k]? = some g ∧
    w.cell? ⟨b, off + k * 4, none⟩ = some (.int .i64 g.w) ∧ w.cell? ⟨b, off + k * 4 + 1, none⟩ = some (.int .i64 g.st) ∧ w.cell? ⟨b, off + k * 4 + 2, none⟩ = some (.int .i64 g.sh) ∧ w.cell? ⟨b, off + k * 4 + 3, none⟩ = some (.int .i64 g.o) := by
  obtain ⟨b, off, e, hb, hc⟩ := h.2 (by omega)
  have hg : l[k]? = some (l[k]'(by omega)) := List.getElem?_eq_getElem (by omega)
  obtain ⟨h0, h1, h2, h3⟩ := get_cellsG l k _ hg
  exact ⟨b, off, _, e, hb, hg, by have := hc _ _ h0; exact this, by have := hc _ _ h1; rw [Nat.add_assoc]; exact this, by have := hc _ _ h2; rw [Nat.add_assoc]; exact this, by have := hc _ _ h3; rw [Nat.add_assoc]; exact this⟩

end Go.Proofs.Ytfhhfibjjpiccaa
