/- Rows of cells that the call itself makes: a made row as a list, a store of an element, and what such a row reads as. No condition. -/
import Derived.Test.YtfhhfibjjpiccaaOpen
import Derived.Laws.MakeOwn
namespace Go.Proofs.Ytfhhfibjjpiccaa
open Go.RowKit
set_option linter.unusedVariables false
set_option linter.unusedSimpArgs false

theorem run_make_rowN {P : Program} (t e : TypeId) (i : TypeInfo) (z : Value) (ht : P.underlying t = some (.slice e)) (hi : P.info? e = some i) (hz : i.zero = some z)
    (kl kc : IntKind) (n c : Nat) (hnc : n ≤ c) (hbytes : i.bytes * c ≤ 281474976710656) (h63 : c ≤ 9223372036854775807) (w : World) :
    (Instr.makeSlice t (.int kl (n : Int)) (.int kc (c : Int))).run P w = .ok (.slice (some ⟨w.heap.size, 0, none⟩) n c) (w.alloc (.cells (madeCells z.cells (c * i.size)) e)) := by
  have hb : (i.bytes : Int) * (c : Int) ≤ 281474976710656 := by
    have h : ((i.bytes * c : Nat) : Int) ≤ 281474976710656 := by omega
    rwa [Int.natCast_mul] at h
  have hr := run_make (P := P) w t e i z ht hi hz kl kc n c (by omega) (by omega) hb (by omega)
  simp only [Int.toNat_natCast] at hr
  exact hr

theorem made_flat {α : Type} (f : α → List Value) (s : Nat) (hs : 0 < s) (hf : ∀ a, (f a).length = s) (d : α) (n : Nat) : madeCells (f d).toArray (n * s) = ((List.replicate n d).flatMap f).toArray := by
  have hlen : ((List.replicate n d).flatMap f).length = n * s := by rw [flat_len f s hf]; simp
  apply Array.ext
  · rw [size_madeCells]; simp [hlen]
  · intro j h1 h2
    rw [size_madeCells] at h1
    have hr : j % s < s := Nat.mod_lt _ hs
    have hj : j = j / s * s + j % s := by rw [Nat.mul_comm]; exact (Nat.div_add_mod j s).symm
    have hi : j / s < n := by rw [Nat.div_lt_iff_lt_mul hs]; exact h1
    have e1 : ((List.replicate n d).flatMap f)[j]? = (f d)[j % s]? := by
      conv => lhs; rw [hj]
      rw [flat_get f s hf _ _ _ hr]
      simp [hi]
    have e2 : ((List.replicate n d).flatMap f)[j]'(by rw [hlen]; exact h1) = (f d)[j % s]'(by rw [hf]; exact hr) := by
      rw [List.getElem?_eq_getElem (by rw [hlen]; exact h1), List.getElem?_eq_getElem (by rw [hf]; exact hr)] at e1
      exact Option.some.inj e1
    simp only [List.getElem_toArray, e2]
    simp [madeCells, hf, hr]

theorem set4 (pre post : List Value) (a b c d a' b' c' d' : Value) (m : Nat) (hm : pre.length = m) : ((((pre ++ a :: b :: c :: d :: post).set m a').set (m + 1) b').set (m + 2) c').set (m + 3) d' = pre ++ a' :: b' :: c' :: d' :: post := by
  subst hm
  simp [List.set_append]
theorem set7 (pre post : List Value) (a b c d x y z a' b' c' d' x' y' z' : Value) (m : Nat) (hm : pre.length = m) :
    (((((((pre ++ a :: b :: c :: d :: x :: y :: z :: post).set m a').set (m + 1) b').set (m + 2) c').set (m + 3) d').set (m + 4) x').set (m + 5) y').set (m + 6) z' = pre ++ a' :: b' :: c' :: d' :: x' :: y' :: z' :: post := by
  subst hm
  simp [List.set_append]
theorem flat_parts {α : Type} (f : α → List Value) (L : List α) (k : Nat) (x : α) (h : L[k]? = some x) (y : α) : L.flatMap f = (L.take k).flatMap f ++ (f x ++ (L.drop (k + 1)).flatMap f) ∧ (L.set k y).flatMap f = (L.take k).flatMap f ++ (f y ++ (L.drop (k + 1)).flatMap f) := by
  obtain ⟨hk, hx⟩ := List.getElem?_eq_some_iff.1 h
  have e1 : L = L.take k ++ x :: L.drop (k + 1) := by
    rw [← hx, ← List.drop_eq_getElem_cons hk, List.take_append_drop]
  have e2 : L.set k y = L.take k ++ y :: L.drop (k + 1) := by
    rw [List.set_eq_take_append_cons_drop, if_pos hk]
  constructor
  · conv => lhs; rw [e1]
    rw [List.flatMap_append, List.flatMap_cons]
  · rw [e2, List.flatMap_append, List.flatMap_cons]
theorem flat_setG (L : List G) (k : Nat) (x g : G) (h : L[k]? = some x) : ((((cellsG L).set (k * 4) (.int .i64 g.w)).set (k * 4 + 1) (.int .i64 g.st)).set (k * 4 + 2) (.int .i64 g.sh)).set (k * 4 + 3) (.int .i64 g.o) = cellsG (L.set k g) := by
  obtain ⟨e1, e2⟩ := flat_parts G.cells L k x h g
  have hk : k < L.length := (List.getElem?_eq_some_iff.1 h).1
  unfold cellsG
  rw [e1, e2]
  exact set4 _ _ _ _ _ _ _ _ _ _ _ (by rw [flat_len G.cells 4 (fun _ => rfl), List.length_take]; omega)
theorem flat_setI (L : List I) (k : Nat) (x g : I) (h : L[k]? = some x) : (((((((cellsI L).set (k * 7) (.int .i64 g.k)).set (k * 7 + 1) (.int .i64 g.g.w)).set (k * 7 + 2) (.int .i64 g.g.st)).set (k * 7 + 3) (.int .i64 g.g.sh)).set (k * 7 + 4) (.int .i64 g.g.o)).set (k * 7 + 5) (.int .i64 g.c)).set (k * 7 + 6) (.bool g.m) = cellsI (L.set k g) := by
  obtain ⟨e1, e2⟩ := flat_parts I.cells L k x h g
  have hk : k < L.length := (List.getElem?_eq_some_iff.1 h).1
  unfold cellsI
  rw [e1, e2]
  exact set7 _ _ _ _ _ _ _ _ _ _ _ _ _ _ _ _ _ (by rw [flat_len I.cells 7 (fun _ => rfl), List.length_take]; omega)

/-- A list that is filled from the left. -/
def fillTo {α : Type} (d : α) (l : List α) (n k : Nat) : List α := l.take k ++ List.replicate (n - k) d
theorem fill_len {α : Type} (d : α) (l : List α) (n k : Nat) (hl : l.length = n) (hk : k ≤ n) : (fillTo d l n k).length = n := by
  simp [fillTo]; omega
theorem fill_at {α : Type} (d : α) (l : List α) (n k : Nat) (hl : l.length = n) (hk : k < n) : (fillTo d l n k)[k]? = some d := by
  unfold fillTo
  rw [List.getElem?_append_right (by rw [List.length_take]; omega), List.length_take, hl]
  rw [List.getElem?_replicate, if_pos (by omega)]
theorem fill_step {α : Type} (d : α) (l : List α) (n k : Nat) (g : α) (hl : l.length = n) (hg : l[k]? = some g) : (fillTo d l n k).set k g = fillTo d l n (k + 1) := by
  have hk : k < n := by have := (List.getElem?_eq_some_iff.1 hg).1; omega
  unfold fillTo
  rw [List.set_append, if_neg (by rw [List.length_take]; omega), take_snoc' _ _ _ hg]
  have e : k - (l.take k).length = 0 := by rw [List.length_take]; omega
  rw [e, show n - k = (n - (k + 1)) + 1 by omega, List.replicate_succ]
  simp
theorem fill_zero {α : Type} (d : α) (l : List α) (n : Nat) : fillTo d l n 0 = List.replicate n d := by simp [fillTo]
theorem fill_full {α : Type} (d : α) (l : List α) (n k : Nat) (hl : l.length = n) (hk : ¬ k < n) : fillTo d l n k = l := by
  unfold fillTo
  rw [List.take_of_length_le (by omega), show n - k = 0 by omega]
  simp

theorem Rd.of_blk {w : World} {g : Nat} {t : TypeId} {size n : Nat} {xs : List Value} (h : Blk w g t xs.toArray) (hl : xs.length = n * size) : Rd w size (some ⟨g, 0, none⟩) n xs :=
  ⟨hl, fun _ => ⟨g, 0, rfl, h.lt, fun j u hu => by rw [Nat.zero_add, h.cell]; simpa using hu⟩⟩
theorem Blk.setL {w : World} {g : Nat} {t : TypeId} {xs : List Value} (h : Blk w g t xs.toArray) (i : Nat) (u : Value) : Blk (w.setCell ⟨g, i, none⟩ u) g t (xs.set i u).toArray := by
  have := h.set_ i u
  rwa [List.setIfInBounds_toArray] at this
theorem Blk.cellL {w : World} {g : Nat} {t : TypeId} {xs : List Value} (h : Blk w g t xs.toArray) (i : Nat) (u : Value) (hu : xs[i]? = some u) : w.cell? ⟨g, i, none⟩ = some u := by
  rw [h.cell]; simpa using hu
theorem Blk.glueAt {w : World} {g : Nat} {t : TypeId} {L : List G} {k : Nat} {x : G} (h : Blk w g t (cellsG L).toArray) (hx : L[k]? = some x) :
    (w.cell? ⟨g, k * 4, none⟩ = some (.int .i64 x.w) ∧ w.cell? ⟨g, k * 4 + 1, none⟩ = some (.int .i64 x.st) ∧ w.cell? ⟨g, k * 4 + 2, none⟩ = some (.int .i64 x.sh) ∧ w.cell? ⟨g, k * 4 + 3, none⟩ = some (.int .i64 x.o)) ∧
    w.frozen? ⟨g, k * 4, none⟩ = false ∧ w.frozen? ⟨g, k * 4 + 1, none⟩ = false ∧ w.frozen? ⟨g, k * 4 + 2, none⟩ = false ∧ w.frozen? ⟨g, k * 4 + 3, none⟩ = false := by
  obtain ⟨h0, h1, h2, h3⟩ := get_cellsG L k x hx
  exact ⟨⟨h.cellL _ _ h0, h.cellL _ _ h1, h.cellL _ _ h2, h.cellL _ _ h3⟩, h.frozen _, h.frozen _, h.frozen _, h.frozen _⟩
theorem Blk.setG {w : World} {g : Nat} {t : TypeId} {L : List G} {k : Nat} {x y : G} (h : Blk w g t (cellsG L).toArray) (hx : L[k]? = some x) :
    Blk ((((w.setCell ⟨g, k * 4, none⟩ (.int .i64 y.w)).setCell ⟨g, k * 4 + 1, none⟩ (.int .i64 y.st)).setCell ⟨g, k * 4 + 2, none⟩ (.int .i64 y.sh)).setCell ⟨g, k * 4 + 3, none⟩ (.int .i64 y.o)) g t (cellsG (L.set k y)).toArray := by
  have := (((h.setL (k * 4) (.int .i64 y.w)).setL (k * 4 + 1) (.int .i64 y.st)).setL (k * 4 + 2) (.int .i64 y.sh)).setL (k * 4 + 3) (.int .i64 y.o)
  rwa [flat_setG L k x y hx] at this
theorem Blk.itemAt {w : World} {g : Nat} {t : TypeId} {L : List I} {k : Nat} {x : I} (h : Blk w g t (cellsI L).toArray) (hx : L[k]? = some x) :
    (w.cell? ⟨g, k * 7, none⟩ = some (.int .i64 x.k) ∧ w.cell? ⟨g, k * 7 + 1, none⟩ = some (.int .i64 x.g.w) ∧ w.cell? ⟨g, k * 7 + 2, none⟩ = some (.int .i64 x.g.st) ∧ w.cell? ⟨g, k * 7 + 3, none⟩ = some (.int .i64 x.g.sh) ∧ w.cell? ⟨g, k * 7 + 4, none⟩ = some (.int .i64 x.g.o) ∧ w.cell? ⟨g, k * 7 + 5, none⟩ = some (.int .i64 x.c) ∧ w.cell? ⟨g, k * 7 + 6, none⟩ = some (.bool x.m)) ∧
    ∀ j, w.frozen? ⟨g, j, none⟩ = false := by
  obtain ⟨h0, h1, h2, h3, h4, h5, h6⟩ := get_cellsI L k x hx
  exact ⟨⟨h.cellL _ _ h0, h.cellL _ _ h1, h.cellL _ _ h2, h.cellL _ _ h3, h.cellL _ _ h4, h.cellL _ _ h5, h.cellL _ _ h6⟩, fun j => h.frozen j⟩
theorem Blk.setI {w : World} {g : Nat} {t : TypeId} {L : List I} {k : Nat} {x y : I} (h : Blk w g t (cellsI L).toArray) (hx : L[k]? = some x) :
    Blk (((((((w.setCell ⟨g, k * 7, none⟩ (.int .i64 y.k)).setCell ⟨g, k * 7 + 1, none⟩ (.int .i64 y.g.w)).setCell ⟨g, k * 7 + 2, none⟩ (.int .i64 y.g.st)).setCell ⟨g, k * 7 + 3, none⟩ (.int .i64 y.g.sh)).setCell ⟨g, k * 7 + 4, none⟩ (.int .i64 y.g.o)).setCell ⟨g, k * 7 + 5, none⟩ (.int .i64 y.c)).setCell ⟨g, k * 7 + 6, none⟩ (.bool y.m)) g t (cellsI (L.set k y)).toArray := by
  have := ((((((h.setL (k * 7) (.int .i64 y.k)).setL (k * 7 + 1) (.int .i64 y.g.w)).setL (k * 7 + 2) (.int .i64 y.g.st)).setL (k * 7 + 3) (.int .i64 y.g.sh)).setL (k * 7 + 4) (.int .i64 y.g.o)).setL (k * 7 + 5) (.int .i64 y.c)).setL (k * 7 + 6) (.bool y.m)
  rwa [flat_setI L k x y hx] at this
theorem Blk.intAt {w : World} {g : Nat} {t : TypeId} {L : List Int} {k : Nat} {x : Int} (h : Blk w g t (cellsN L).toArray) (hx : L[k]? = some x) : w.cell? ⟨g, k, none⟩ = some (.int .i64 x) ∧ w.frozen? ⟨g, k, none⟩ = false :=
  ⟨h.cellL _ _ (by simp [cellsN, hx]), h.frozen _⟩
theorem Blk.setN {w : World} {g : Nat} {t : TypeId} {L : List Int} {k : Nat} (y : Int) (h : Blk w g t (cellsN L).toArray) : Blk (w.setCell ⟨g, k, none⟩ (.int .i64 y)) g t (cellsN (L.set k y)).toArray := by
  have := h.setL k (.int .i64 y)
  rwa [show (cellsN L).set k (.int .i64 y) = cellsN (L.set k y) from by simp [cellsN, List.map_set]] at this
theorem Blk.strAt {w : World} {g : Nat} {t : TypeId} {L : List ByteArray} {k : Nat} {x : ByteArray} (h : Blk w g t (cellsS L).toArray) (hx : L[k]? = some x) : w.cell? ⟨g, k, none⟩ = some (.string x) ∧ w.frozen? ⟨g, k, none⟩ = false :=
  ⟨h.cellL _ _ (by simp [cellsS, hx]), h.frozen _⟩
theorem Blk.setS {w : World} {g : Nat} {t : TypeId} {L : List ByteArray} {k : Nat} (y : ByteArray) (h : Blk w g t (cellsS L).toArray) : Blk (w.setCell ⟨g, k, none⟩ (.string y)) g t (cellsS (L.set k y)).toArray := by
  have := h.setL k (.string y)
  rwa [show (cellsS L).set k (.string y) = cellsS (L.set k y) from by simp [cellsS, List.map_set]] at this
theorem len_cellsN (l : List Int) : (cellsN l).length = l.length * 1 := by simp [cellsN]
theorem len_cellsS (l : List ByteArray) : (cellsS l).length = l.length * 1 := by simp [cellsS]
theorem Rd.int {w : World} {A : Option Addr} {n k : Nat} {l : List Int} (h : Rd w 1 A n (cellsN l)) (hl : l.length = n) (hk : k < n) : ∃ b off x, A = some ⟨b, off, none⟩ ∧ b < w.heap.size ∧ l[k]? = some x ∧ w.cell? ⟨b, off + k, none⟩ = some (.int .i64 x) := by
  obtain ⟨b, off, e, hb, hc⟩ := h.2 (by omega)
  have hg : l[k]? = some (l[k]'(by omega)) := List.getElem?_eq_getElem (by omega)
  exact ⟨b, off, _, e, hb, hg, hc _ _ (by simp [cellsN, hg])⟩
theorem Rd.str {w : World} {A : Option Addr} {n k : Nat} {l : List ByteArray} (h : Rd w 1 A n (cellsS l)) (hl : l.length = n) (hk : k < n) : ∃ b off x, A = some ⟨b, off, none⟩ ∧ b < w.heap.size ∧ l[k]? = some x ∧ w.cell? ⟨b, off + k, none⟩ = some (.string x) := by
  obtain ⟨b, off, e, hb, hc⟩ := h.2 (by omega)
  have hg : l[k]? = some (l[k]'(by omega)) := List.getElem?_eq_getElem (by omega)
  exact ⟨b, off, _, e, hb, hg, hc _ _ (by simp [cellsS, hg])⟩
theorem Rd.item {w : World} {A : Option Addr} {n k : Nat} {l : List I} (h : Rd w 7 A n (cellsI l)) (hl : l.length = n) (hk : k < n) : ∃ b off g, A = some ⟨b, off, none⟩ ∧ b < w.heap.size ∧ l[k]? = some g ∧
    w.cell? ⟨b, off + k * 7, none⟩ = some (.int .i64 g.k) ∧ w.cell? ⟨b, off + k * 7 + 1, none⟩ = some (.int .i64 g.g.w) ∧ w.cell? ⟨b, off + k * 7 + 2, none⟩ = some (.int .i64 g.g.st) ∧ w.cell? ⟨b, off + k * 7 + 3, none⟩ = some (.int .i64 g.g.sh) ∧ w.cell? ⟨b, off + k * 7 + 4, none⟩ = some (.int .i64 g.g.o) ∧
    w.cell? ⟨b, off + k * 7 + 5, none⟩ = some (.int .i64 g.c) ∧ w.cell? ⟨b, off + k * 7 + 6, none⟩ = some (.bool g.m) := by
  obtain ⟨b, off, e, hb, hc⟩ := h.2 (by omega)
  have hg : l[k]? = some (l[k]'(by omega)) := List.getElem?_eq_getElem (by omega)
  obtain ⟨h0, h1, h2, h3, h4, h5, h6⟩ := get_cellsI l k _ hg
  exact ⟨b, off, _, e, hb, hg, by have := hc _ _ h0; exact this, by have := hc _ _ h1; rw [Nat.add_assoc]; exact this, by have := hc _ _ h2; rw [Nat.add_assoc]; exact this, by have := hc _ _ h3; rw [Nat.add_assoc]; exact this, by have := hc _ _ h4; rw [Nat.add_assoc]; exact this, by have := hc _ _ h5; rw [Nat.add_assoc]; exact this, by have := hc _ _ h6; rw [Nat.add_assoc]; exact this⟩
theorem cell_one_at {w : World} {n : Nat} (hn : n = w.heap.size) {x : Value} {j : Nat} {u : Value} {t : TypeId} (hj : ([x])[j]? = some u) : (w.alloc (.cells #[x] t)).cell? ((⟨n, 0, none⟩ : Addr).add j) = some u := by
  subst hn
  match j, hj with
  | 0, hj => simp at hj; subst hj; simp [Addr.add]
theorem int_info : (Try.prog.info? 3).map (fun i => (i.zero, i.size, i.bytes)) = some (some (.int .i64 0), 1, 8) := by kernel_rfl
theorem one_cells (x : Int) : ∀ u ∈ [Value.int .i64 x], u.oneCell' = true := by
  intro u hu; simp at hu; subst hu; rfl
end Go.Proofs.Ytfhhfibjjpiccaa
