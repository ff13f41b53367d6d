/- Several of my texts in one: Base, Facts, Open, Made, In, OwnS, AppSub, Sub, Apart, Args, Let, Word, Words, MarkI. Their conditions stand at each. -/
import Derived.Test.YtocaonlmlafjmaaRows
import Derived.WalkKit
import Derived.WalkLawsBesides
import Derived.WalkSpells
import Derived.BigQuiet
import Derived.Deep.QuietTactic
import Derived.Deep.Draws
import Derived.Deep.Slices
import Derived.Deep.Fields
import Derived.ProofKit
import Derived.OpenShut
import Derived.ShutString
import Derived.ChangeOld
import Derived.ChangeSame
import Derived.Below
import Derived.JoinedOf
import Derived.Test.YtocaonlmlafjmaaKPlain
import Derived.Deep.Strs
import Derived.Laws.MakeOwn
import Derived.Deep.AppendLies
import Derived.Deep.Upon
/- Small words and lemmas that every text of this seat uses: how old memory stands behind a call, and what a slice reads as. No condition. -/
namespace Go.Proofs.Ytocaonlmlafjmaa
open Go.RowKit
set_option linter.unusedVariables false
set_option linter.unusedSimpArgs false

theorem hide {p : Prop} (h : p) : Hid p := h

/-! ### old memory behind a call -/
theorem bcell {B : Nat} {W w1 : World} (hb : Below B W w1) : (∀ b o, b < B → w1.cell? ⟨b, o, none⟩ = W.cell? ⟨b, o, none⟩) ∧ (∀ b o, b < B → w1.frozen? ⟨b, o, none⟩ = W.frozen? ⟨b, o, none⟩) :=
  ⟨fun b o h => hb.cell (p := ⟨b, o, none⟩) h, fun b o h => hb.frozen (p := ⟨b, o, none⟩) h⟩
theorem below_drewN {B : Nat} {a w : World} (h : Below B a w) (n : Nat) : Below B a (w.drewN n) := ⟨h.os, h.tape, h.output, h.size, h.block⟩
theorem below_of_same {B : Nat} {w w' : World} (h : w = w') : Below B w w' := h ▸ Below.refl _ _
theorem size_of_cell {w : World} {b o : Nat} {v : Value} (h : w.cell? ⟨b, o, none⟩ = some v) : b < w.heap.size := by
  rcases Nat.lt_or_ge b w.heap.size with hlt | hge
  · exact hlt
  · simp [World.cell?, Array.getElem?_eq_none hge] at h

/-! ### a block known whole -/
def Blk (w : World) (g : Nat) (t : TypeId) (cs : Array Value) : Prop := w.heap[g]? = some (.cells cs t (0, 0))
section
variable {w w' : World} {g : Nat} {t : TypeId} {cs : Array Value}
theorem Blk.lt (h : Blk w g t cs) : g < w.heap.size := by
  rcases Nat.lt_or_ge g w.heap.size with hlt | hge
  · exact hlt
  · unfold Blk at h; rw [Array.getElem?_eq_none hge] at h; cases h
theorem Blk.cell (h : Blk w g t cs) (i : Nat) : w.cell? ⟨g, i, none⟩ = cs[i]? := cell_of_row w g i cs t (0, 0) h
theorem Blk.frozen (h : Blk w g t cs) (i : Nat) : w.frozen? ⟨g, i, none⟩ = false := by
  unfold Blk at h
  simp [World.frozen?, h]
theorem Blk.new (w : World) (t : TypeId) (cs : Array Value) : Blk (w.alloc (.cells cs t)) w.heap.size t cs := heap_alloc_new w _
theorem Blk.drew (h : Blk w g t cs) : Blk w.drew g t cs := h
theorem Blk.drewN (h : Blk w g t cs) (n : Nat) : Blk (w.drewN n) g t cs := h
theorem Blk.alloc (h : Blk w g t cs) (o : Obj) : Blk (w.alloc o) g t cs := (Below.heap_alloc w o g h.lt).trans h
theorem Blk.set_ (h : Blk w g t cs) (i : Nat) (u : Value) : Blk (w.setCell ⟨g, i, none⟩ u) g t (cs.setIfInBounds i u) := by
  unfold Blk at h ⊢
  simp [World.setCell, Array.getElem?_modify, h]
theorem Blk.far (h : Blk w g t cs) {p : Addr} (hp : g ≠ p.block) (u : Value) : Blk (w.setCell p u) g t cs := (Below.heap_setCell w p u g hp).trans h
theorem Blk.below {B : Nat} (h : Blk w g t cs) (hb : Below B w w') (hg : g < B) : Blk w' g t cs := (hb.block g hg).trans h
theorem Blk.below' (h : Blk w g t cs) (hb : Below w.heap.size w w') : Blk w' g t cs := h.below hb h.lt
theorem Blk.grown {row : Option Nat} (h : Blk w g t cs) (hb : w.grownBy w' row) (hg : some g ≠ row) : Blk w' g t cs := (hb.block g h.lt hg).trans h
end

/-! ### only one old block may have turned -/
theorem only_refl (w : World) (row : Option Nat) : w.grownBy w row := ⟨rfl, rfl, rfl, Nat.le_refl _, fun _ _ _ => rfl⟩
theorem only_drewN {a w : World} {row : Option Nat} (h : a.grownBy w row) (n : Nat) : a.grownBy (w.drewN n) row := ⟨h.os, h.tape, h.output, h.size, h.block⟩
theorem only_drew {a w : World} {row : Option Nat} (h : a.grownBy w row) : a.grownBy w.drew row := ⟨h.os, h.tape, h.output, h.size, h.block⟩
theorem only_alloc {a w : World} {row : Option Nat} (h : a.grownBy w row) (o : Obj) : a.grownBy (w.alloc o) row :=
  ⟨h.os, h.tape, h.output, Nat.le_trans h.size (by simp), fun i hi hne => (Below.heap_alloc w o i (Nat.lt_of_lt_of_le hi h.size)).trans (h.block i hi hne)⟩
theorem only_setCell {a w : World} {g : Nat} (h : a.grownBy w (some g)) {p : Addr} (hp : p.block = g ∨ a.heap.size ≤ p.block) (u : Value) : a.grownBy (w.setCell p u) (some g) :=
  ⟨h.os, h.tape, h.output, by simpa [World.setCell] using h.size, fun i hi hne => (Below.heap_setCell w p u i (by
    rintro rfl
    rcases hp with hp | hp
    · exact hne (by rw [hp])
    · omega)).trans (h.block i hi hne)⟩
theorem only_of_below {a w : World} (h : Below a.heap.size a w) (row : Option Nat) : a.grownBy w row := ⟨h.os, h.tape, h.output, h.size, fun i hi _ => h.block i hi⟩
theorem only_trans {a b c : World} {row : Option Nat} (h : a.grownBy b row) (k : b.grownBy c row) : a.grownBy c row :=
  ⟨k.os.trans h.os, k.tape.trans h.tape, k.output.trans h.output, Nat.le_trans h.size k.size, fun i hi hne => (k.block i (Nat.lt_of_lt_of_le hi h.size) hne).trans (h.block i hi hne)⟩
theorem only_below {a b c : World} {row : Option Nat} (h : a.grownBy b row) (k : Below b.heap.size b c) : a.grownBy c row := only_trans h (only_of_below k row)
/-- One block of the call's own may have turned: below it all is as it was. -/
theorem Below.only {a b c : World} {B g : Nat} (h : Below B a b) (k : b.grownBy c (some g)) (hB : B ≤ b.heap.size) (hg : B ≤ g) : Below B a c :=
  h.grown k hB (fun x hx => by injection hx with hx; omega)

/-! ### a slice that reads as a list of cells -/
def Rd (w : World) (size : Nat) (A : Option Addr) (n : Nat) (xs : List Value) : Prop :=
  xs.length = n * size ∧ (0 < n → ∃ b off, A = some ⟨b, off, none⟩ ∧ b < w.heap.size ∧ ∀ j u, xs[j]? = some u → w.cell? ⟨b, off + j, none⟩ = some u)
section
variable {w w' : World} {size n : Nat} {A : Option Addr} {xs : List Value}
theorem Rd.keep (h : Rd w size A n xs) (hs : w.heap.size ≤ w'.heap.size) (hk : ∀ b o, b < w.heap.size → w'.cell? ⟨b, o, none⟩ = w.cell? ⟨b, o, none⟩) : Rd w' size A n xs :=
  ⟨h.1, fun hn => by
    obtain ⟨b, off, e, hb, hc⟩ := h.2 hn
    exact ⟨b, off, e, by omega, fun j u hu => (hk _ _ hb).trans (hc j u hu)⟩⟩
theorem Rd.below (h : Rd w size A n xs) (hb : Below w.heap.size w w') : Rd w' size A n xs := h.keep hb.size (bcell hb).1
theorem Rd.alloc (h : Rd w size A n xs) (o : Obj) : Rd (w.alloc o) size A n xs := h.below ((Below.refl _ _).alloc (Nat.le_refl _) o)
theorem Rd.drewN (h : Rd w size A n xs) (k : Nat) : Rd (w.drewN k) size A n xs := h
theorem Rd.drew (h : Rd w size A n xs) : Rd w.drew size A n xs := h
theorem Rd.nil_ : Rd w size A 0 [] := ⟨by simp, fun h => absurd h (by omega)⟩
theorem Rd.of_own {base : Nat} {e : TypeId} {c : Nat} (h : w.ownsRow base e size (.slice A n c) n xs) : Rd w size A n xs := by
  refine ⟨h.1, fun hn => ?_⟩
  rcases h.2 with ⟨_, h0⟩ | ⟨g, cap, cur, hv, hg, hh, hnc, hcm, hcs, htk⟩
  · omega
  · injection hv with hA
    subst hA
    refine ⟨g, 0, rfl, Blk.lt (t := e) hh, fun j u hu => ?_⟩
    have hk := h.cells (g := g) rfl j u hu
    simpa [Addr.add_lit] using hk
end

/-- An owned row's cells, whatever block number from 'base' on it has, do not move when something below 'base', or some other row, is written. -/
theorem own_keep {w w' : World} {base : Nat} {e : TypeId} {size n : Nat} {v : Value} {xs : List Value} (h : w.ownsRow base e size v n xs) (hk : ∀ k, v.ownBlock = some k → w'.heap[k]? = w.heap[k]?) : w'.ownsRow base e size v n xs := by
  obtain ⟨h1, h2⟩ := h
  refine ⟨h1, ?_⟩
  rcases h2 with h2 | ⟨g, cap, cur, hv, hg, hh, r⟩
  · exact Or.inl h2
  · refine Or.inr ⟨g, cap, cur, hv, hg, ?_, r⟩
    rw [hk g (by rw [hv]; rfl)]
    exact hh
theorem own_below {w w' : World} {base : Nat} {e : TypeId} {size n : Nat} {v : Value} {xs : List Value} (h : w.ownsRow base e size v n xs) (hb : Below w.heap.size w w') : w'.ownsRow base e size v n xs :=
  own_keep h fun k hk => hb.block k (h.lt k hk).2
theorem own_mono {w : World} {base base' : Nat} {e : TypeId} {size n : Nat} {v : Value} {xs : List Value} (h : w.ownsRow base e size v n xs) (hb : base' ≤ base) : w.ownsRow base' e size v n xs := by
  obtain ⟨h1, h2⟩ := h
  refine ⟨h1, ?_⟩
  rcases h2 with h2 | ⟨g, cap, cur, hv, hg, r⟩
  · exact Or.inl h2
  · exact Or.inr ⟨g, cap, cur, hv, by omega, r⟩
/-- The form of a slice that owns a row. -/
theorem own_form {w : World} {base : Nat} {e : TypeId} {size n : Nat} {v : Value} {xs : List Value} (h : w.ownsRow base e size v n xs) : ∃ A c, v = .slice A n c ∧ n ≤ c ∧ Rd w size A n xs := by
  rcases h.2 with ⟨hv, h0⟩ | ⟨g, cap, cur, hv, hg, hh, hnc, hcm, hcs, htk⟩
  · subst h0
    exact ⟨none, 0, hv, Nat.le_refl _, Rd.of_own (base := base) (e := e) (c := 0) (hv ▸ h)⟩
  · exact ⟨some ⟨g, 0, none⟩, cap, hv, hnc, Rd.of_own (base := base) (e := e) (c := cap) (hv ▸ h)⟩

theorem ret_int {k : IntKind} {a b : Int} (h : a = b) : Ending.returned (.int k a) = .returned (.int k b) := by rw [h]
theorem ret_bool {a b : Bool} (h : a = b) : Ending.returned (.bool a) = .returned (.bool b) := by rw [h]
theorem own : ownKnob Try.prog.godebug = none := by kernel_rfl
theorem laidOut : laidOutB Try.prog = true := by kernel_rfl
end Go.Proofs.Ytocaonlmlafjmaa

/- Facts on the head of the program that every row asks: which make it is, that it may be entered. The head's line is read as a list of signs once (the numbers are its signs), so that nothing great is reckoned. No condition. -/
namespace Go.Proofs.Ytocaonlmlafjmaa
open Go.ChangeShapes Go.WideShapes Go.ChangeAt Go.RowKit
set_option linter.unusedVariables false
set_option linter.unusedSimpArgs false

def signs0 : List Char := [Char.ofNat 104, Char.ofNat 97, Char.ofNat 114, Char.ofNat 110, Char.ofNat 101, Char.ofNat 115, Char.ofNat 115]
def signs1 : List Char := [Char.ofNat 52, Char.ofNat 48, Char.ofNat 56, Char.ofNat 55, Char.ofNat 101, Char.ofNat 55, Char.ofNat 56, Char.ofNat 53, Char.ofNat 57, Char.ofNat 98, Char.ofNat 99, Char.ofNat 101, Char.ofNat 53, Char.ofNat 56, Char.ofNat 56, Char.ofNat 54, Char.ofNat 53, Char.ofNat 51, Char.ofNat 48, Char.ofNat 56,
  Char.ofNat 52, Char.ofNat 98, Char.ofNat 49, Char.ofNat 54, Char.ofNat 98, Char.ofNat 52, Char.ofNat 49, Char.ofNat 56, Char.ofNat 50, Char.ofNat 50, Char.ofNat 97, Char.ofNat 57, Char.ofNat 102, Char.ofNat 55, Char.ofNat 49, Char.ofNat 102, Char.ofNat 101, Char.ofNat 101, Char.ofNat 51, Char.ofNat 98,
  Char.ofNat 54, Char.ofNat 52, Char.ofNat 52, Char.ofNat 99, Char.ofNat 53, Char.ofNat 55, Char.ofNat 99, Char.ofNat 101, Char.ofNat 97, Char.ofNat 51, Char.ofNat 57, Char.ofNat 54, Char.ofNat 98, Char.ofNat 50, Char.ofNat 53, Char.ofNat 51, Char.ofNat 57, Char.ofNat 55, Char.ofNat 98, Char.ofNat 100,
  Char.ofNat 99, Char.ofNat 51, Char.ofNat 50, Char.ofNat 50]
def signs2 : List Char := [Char.ofNat 99, Char.ofNat 117, Char.ofNat 116]
def signs3 : List Char := [Char.ofNat 97, Char.ofNat 116, Char.ofNat 32, Char.ofNat 108, Char.ofNat 111, Char.ofNat 111, Char.ofNat 112, Char.ofNat 46, Char.ofNat 101, Char.ofNat 120, Char.ofNat 97, Char.ofNat 109, Char.ofNat 112, Char.ofNat 108, Char.ofNat 101, Char.ofNat 47, Char.ofNat 112, Char.ofNat 97, Char.ofNat 103, Char.ofNat 101,
  Char.ofNat 98, Char.ofNat 117, Char.ofNat 105, Char.ofNat 108, Char.ofNat 100, Char.ofNat 101, Char.ofNat 114, Char.ofNat 47, Char.ofNat 108, Char.ofNat 97, Char.ofNat 119, Char.ofNat 115, Char.ofNat 46, Char.ofNat 70, Char.ofNat 110, Char.ofNat 69, Char.ofNat 120, Char.ofNat 97, Char.ofNat 99, Char.ofNat 116,
  Char.ofNat 73, Char.ofNat 116, Char.ofNat 101, Char.ofNat 109, Char.ofNat 86, Char.ofNat 97, Char.ofNat 108, Char.ofNat 105, Char.ofNat 100, Char.ofNat 32, Char.ofNat 108, Char.ofNat 111, Char.ofNat 111, Char.ofNat 112, Char.ofNat 46, Char.ofNat 101, Char.ofNat 120, Char.ofNat 97, Char.ofNat 109, Char.ofNat 112,
  Char.ofNat 108, Char.ofNat 101, Char.ofNat 47, Char.ofNat 112, Char.ofNat 97, Char.ofNat 103, Char.ofNat 101, Char.ofNat 98, Char.ofNat 117, Char.ofNat 105, Char.ofNat 108, Char.ofNat 100, Char.ofNat 101, Char.ofNat 114, Char.ofNat 47, Char.ofNat 108, Char.ofNat 97, Char.ofNat 119, Char.ofNat 115, Char.ofNat 46,
  Char.ofNat 70, Char.ofNat 110, Char.ofNat 73, Char.ofNat 116, Char.ofNat 101, Char.ofNat 109, Char.ofNat 86, Char.ofNat 97, Char.ofNat 108, Char.ofNat 105, Char.ofNat 100, Char.ofNat 32, Char.ofNat 108, Char.ofNat 111, Char.ofNat 111, Char.ofNat 112, Char.ofNat 46, Char.ofNat 101, Char.ofNat 120, Char.ofNat 97,
  Char.ofNat 109, Char.ofNat 112, Char.ofNat 108, Char.ofNat 101, Char.ofNat 47, Char.ofNat 112, Char.ofNat 97, Char.ofNat 103, Char.ofNat 101, Char.ofNat 98, Char.ofNat 117, Char.ofNat 105, Char.ofNat 108, Char.ofNat 100, Char.ofNat 101, Char.ofNat 114, Char.ofNat 47, Char.ofNat 108, Char.ofNat 97, Char.ofNat 119,
  Char.ofNat 115, Char.ofNat 46, Char.ofNat 70, Char.ofNat 110, Char.ofNat 69, Char.ofNat 120, Char.ofNat 97, Char.ofNat 99, Char.ofNat 116, Char.ofNat 73, Char.ofNat 116, Char.ofNat 101, Char.ofNat 109, Char.ofNat 115, Char.ofNat 86, Char.ofNat 97, Char.ofNat 108, Char.ofNat 105, Char.ofNat 100, Char.ofNat 32,
  Char.ofNat 108, Char.ofNat 111, Char.ofNat 111, Char.ofNat 112, Char.ofNat 46, Char.ofNat 101, Char.ofNat 120, Char.ofNat 97, Char.ofNat 109, Char.ofNat 112, Char.ofNat 108, Char.ofNat 101, Char.ofNat 47, Char.ofNat 112, Char.ofNat 97, Char.ofNat 103, Char.ofNat 101, Char.ofNat 98, Char.ofNat 117, Char.ofNat 105,
  Char.ofNat 108, Char.ofNat 100, Char.ofNat 101, Char.ofNat 114, Char.ofNat 47, Char.ofNat 108, Char.ofNat 97, Char.ofNat 119, Char.ofNat 115, Char.ofNat 46, Char.ofNat 70, Char.ofNat 110, Char.ofNat 73, Char.ofNat 116, Char.ofNat 101, Char.ofNat 109, Char.ofNat 115, Char.ofNat 86, Char.ofNat 97, Char.ofNat 108,
  Char.ofNat 105, Char.ofNat 100, Char.ofNat 32, Char.ofNat 108, Char.ofNat 111, Char.ofNat 111, Char.ofNat 112, Char.ofNat 46, Char.ofNat 101, Char.ofNat 120, Char.ofNat 97, Char.ofNat 109, Char.ofNat 112, Char.ofNat 108, Char.ofNat 101, Char.ofNat 47, Char.ofNat 112, Char.ofNat 97, Char.ofNat 103, Char.ofNat 101,
  Char.ofNat 98, Char.ofNat 117, Char.ofNat 105, Char.ofNat 108, Char.ofNat 100, Char.ofNat 101, Char.ofNat 114, Char.ofNat 47, Char.ofNat 108, Char.ofNat 97, Char.ofNat 119, Char.ofNat 115, Char.ofNat 46, Char.ofNat 70, Char.ofNat 110, Char.ofNat 69, Char.ofNat 120, Char.ofNat 97, Char.ofNat 99, Char.ofNat 116,
  Char.ofNat 77, Char.ofNat 97, Char.ofNat 121, Char.ofNat 66, Char.ofNat 114, Char.ofNat 101, Char.ofNat 97, Char.ofNat 107, Char.ofNat 32, Char.ofNat 108, Char.ofNat 111, Char.ofNat 111, Char.ofNat 112, Char.ofNat 46, Char.ofNat 101, Char.ofNat 120, Char.ofNat 97, Char.ofNat 109, Char.ofNat 112, Char.ofNat 108,
  Char.ofNat 101, Char.ofNat 47, Char.ofNat 112, Char.ofNat 97, Char.ofNat 103, Char.ofNat 101, Char.ofNat 98, Char.ofNat 117, Char.ofNat 105, Char.ofNat 108, Char.ofNat 100, Char.ofNat 101, Char.ofNat 114, Char.ofNat 47, Char.ofNat 108, Char.ofNat 97, Char.ofNat 119, Char.ofNat 115, Char.ofNat 46, Char.ofNat 70,
  Char.ofNat 110, Char.ofNat 77, Char.ofNat 97, Char.ofNat 121, Char.ofNat 66, Char.ofNat 114, Char.ofNat 101, Char.ofNat 97, Char.ofNat 107, Char.ofNat 32, Char.ofNat 108, Char.ofNat 111, Char.ofNat 111, Char.ofNat 112, Char.ofNat 46, Char.ofNat 101, Char.ofNat 120, Char.ofNat 97, Char.ofNat 109, Char.ofNat 112,
  Char.ofNat 108, Char.ofNat 101, Char.ofNat 47, Char.ofNat 112, Char.ofNat 97, Char.ofNat 103, Char.ofNat 101, Char.ofNat 98, Char.ofNat 117, Char.ofNat 105, Char.ofNat 108, Char.ofNat 100, Char.ofNat 101, Char.ofNat 114, Char.ofNat 47, Char.ofNat 108, Char.ofNat 97, Char.ofNat 119, Char.ofNat 115, Char.ofNat 46,
  Char.ofNat 70, Char.ofNat 110, Char.ofNat 69, Char.ofNat 120, Char.ofNat 97, Char.ofNat 99, Char.ofNat 116, Char.ofNat 76, Char.ofNat 105, Char.ofNat 110, Char.ofNat 101, Char.ofNat 83, Char.ofNat 116, Char.ofNat 97, Char.ofNat 114, Char.ofNat 116, Char.ofNat 32, Char.ofNat 108, Char.ofNat 111, Char.ofNat 111,
  Char.ofNat 112, Char.ofNat 46, Char.ofNat 101, Char.ofNat 120, Char.ofNat 97, Char.ofNat 109, Char.ofNat 112, Char.ofNat 108, Char.ofNat 101, Char.ofNat 47, Char.ofNat 112, Char.ofNat 97, Char.ofNat 103, Char.ofNat 101, Char.ofNat 98, Char.ofNat 117, Char.ofNat 105, Char.ofNat 108, Char.ofNat 100, Char.ofNat 101,
  Char.ofNat 114, Char.ofNat 47, Char.ofNat 108, Char.ofNat 97, Char.ofNat 119, Char.ofNat 115, Char.ofNat 46, Char.ofNat 70, Char.ofNat 110, Char.ofNat 76, Char.ofNat 105, Char.ofNat 110, Char.ofNat 101, Char.ofNat 83, Char.ofNat 116, Char.ofNat 97, Char.ofNat 114, Char.ofNat 116, Char.ofNat 32, Char.ofNat 108,
  Char.ofNat 111, Char.ofNat 111, Char.ofNat 112, Char.ofNat 46, Char.ofNat 101, Char.ofNat 120, Char.ofNat 97, Char.ofNat 109, Char.ofNat 112, Char.ofNat 108, Char.ofNat 101, Char.ofNat 47, Char.ofNat 112, Char.ofNat 97, Char.ofNat 103, Char.ofNat 101, Char.ofNat 98, Char.ofNat 117, Char.ofNat 105, Char.ofNat 108,
  Char.ofNat 100, Char.ofNat 101, Char.ofNat 114, Char.ofNat 47, Char.ofNat 108, Char.ofNat 97, Char.ofNat 119, Char.ofNat 115, Char.ofNat 46, Char.ofNat 70, Char.ofNat 110, Char.ofNat 69, Char.ofNat 120, Char.ofNat 97, Char.ofNat 99, Char.ofNat 116, Char.ofNat 87, Char.ofNat 111, Char.ofNat 114, Char.ofNat 100,
  Char.ofNat 115, Char.ofNat 86, Char.ofNat 97, Char.ofNat 108, Char.ofNat 105, Char.ofNat 100, Char.ofNat 32, Char.ofNat 108, Char.ofNat 111, Char.ofNat 111, Char.ofNat 112, Char.ofNat 46, Char.ofNat 101, Char.ofNat 120, Char.ofNat 97, Char.ofNat 109, Char.ofNat 112, Char.ofNat 108, Char.ofNat 101, Char.ofNat 47,
  Char.ofNat 112, Char.ofNat 97, Char.ofNat 103, Char.ofNat 101, Char.ofNat 98, Char.ofNat 117, Char.ofNat 105, Char.ofNat 108, Char.ofNat 100, Char.ofNat 101, Char.ofNat 114, Char.ofNat 47, Char.ofNat 108, Char.ofNat 97, Char.ofNat 119, Char.ofNat 115, Char.ofNat 46, Char.ofNat 70, Char.ofNat 110, Char.ofNat 87,
  Char.ofNat 111, Char.ofNat 114, Char.ofNat 100, Char.ofNat 115, Char.ofNat 86, Char.ofNat 97, Char.ofNat 108, Char.ofNat 105, Char.ofNat 100, Char.ofNat 32, Char.ofNat 108, Char.ofNat 111, Char.ofNat 111, Char.ofNat 112, Char.ofNat 46, Char.ofNat 101, Char.ofNat 120, Char.ofNat 97, Char.ofNat 109, Char.ofNat 112,
  Char.ofNat 108, Char.ofNat 101, Char.ofNat 47, Char.ofNat 112, Char.ofNat 97, Char.ofNat 103, Char.ofNat 101, Char.ofNat 98, Char.ofNat 117, Char.ofNat 105, Char.ofNat 108, Char.ofNat 100, Char.ofNat 101, Char.ofNat 114, Char.ofNat 47, Char.ofNat 108, Char.ofNat 97, Char.ofNat 119, Char.ofNat 115, Char.ofNat 46,
  Char.ofNat 70, Char.ofNat 110, Char.ofNat 69, Char.ofNat 120, Char.ofNat 97, Char.ofNat 99, Char.ofNat 116, Char.ofNat 80, Char.ofNat 97, Char.ofNat 114, Char.ofNat 97, Char.ofNat 103, Char.ofNat 114, Char.ofNat 97, Char.ofNat 112, Char.ofNat 104, Char.ofNat 73, Char.ofNat 116, Char.ofNat 101, Char.ofNat 109,
  Char.ofNat 115, Char.ofNat 32, Char.ofNat 108, Char.ofNat 111, Char.ofNat 111, Char.ofNat 112, Char.ofNat 46, Char.ofNat 101, Char.ofNat 120, Char.ofNat 97, Char.ofNat 109, Char.ofNat 112, Char.ofNat 108, Char.ofNat 101, Char.ofNat 47, Char.ofNat 112, Char.ofNat 97, Char.ofNat 103, Char.ofNat 101, Char.ofNat 98,
  Char.ofNat 117, Char.ofNat 105, Char.ofNat 108, Char.ofNat 100, Char.ofNat 101, Char.ofNat 114, Char.ofNat 47, Char.ofNat 108, Char.ofNat 97, Char.ofNat 119, Char.ofNat 115, Char.ofNat 46, Char.ofNat 70, Char.ofNat 110, Char.ofNat 80, Char.ofNat 97, Char.ofNat 114, Char.ofNat 97, Char.ofNat 103, Char.ofNat 114,
  Char.ofNat 97, Char.ofNat 112, Char.ofNat 104, Char.ofNat 73, Char.ofNat 116, Char.ofNat 101, Char.ofNat 109, Char.ofNat 115, Char.ofNat 32, Char.ofNat 108, Char.ofNat 111, Char.ofNat 111, Char.ofNat 112, Char.ofNat 46, Char.ofNat 101, Char.ofNat 120, Char.ofNat 97, Char.ofNat 109, Char.ofNat 112, Char.ofNat 108,
  Char.ofNat 101, Char.ofNat 47, Char.ofNat 112, Char.ofNat 97, Char.ofNat 103, Char.ofNat 101, Char.ofNat 98, Char.ofNat 117, Char.ofNat 105, Char.ofNat 108, Char.ofNat 100, Char.ofNat 101, Char.ofNat 114, Char.ofNat 47, Char.ofNat 108, Char.ofNat 97, Char.ofNat 119, Char.ofNat 115, Char.ofNat 46, Char.ofNat 70,
  Char.ofNat 110, Char.ofNat 69, Char.ofNat 120, Char.ofNat 97, Char.ofNat 99, Char.ofNat 116, Char.ofNat 66, Char.ofNat 111, Char.ofNat 120, Char.ofNat 101, Char.ofNat 115, Char.ofNat 79, Char.ofNat 102, Char.ofNat 32, Char.ofNat 108, Char.ofNat 111, Char.ofNat 111, Char.ofNat 112, Char.ofNat 46, Char.ofNat 101,
  Char.ofNat 120, Char.ofNat 97, Char.ofNat 109, Char.ofNat 112, Char.ofNat 108, Char.ofNat 101, Char.ofNat 47, Char.ofNat 112, Char.ofNat 97, Char.ofNat 103, Char.ofNat 101, Char.ofNat 98, Char.ofNat 117, Char.ofNat 105, Char.ofNat 108, Char.ofNat 100, Char.ofNat 101, Char.ofNat 114, Char.ofNat 47, Char.ofNat 108,
  Char.ofNat 97, Char.ofNat 119, Char.ofNat 115, Char.ofNat 46, Char.ofNat 70, Char.ofNat 110, Char.ofNat 66, Char.ofNat 111, Char.ofNat 120, Char.ofNat 101, Char.ofNat 115, Char.ofNat 79, Char.ofNat 102, Char.ofNat 32, Char.ofNat 108, Char.ofNat 111, Char.ofNat 111, Char.ofNat 112, Char.ofNat 46, Char.ofNat 101,
  Char.ofNat 120, Char.ofNat 97, Char.ofNat 109, Char.ofNat 112, Char.ofNat 108, Char.ofNat 101, Char.ofNat 47, Char.ofNat 112, Char.ofNat 97, Char.ofNat 103, Char.ofNat 101, Char.ofNat 98, Char.ofNat 117, Char.ofNat 105, Char.ofNat 108, Char.ofNat 100, Char.ofNat 101, Char.ofNat 114, Char.ofNat 47, Char.ofNat 108,
  Char.ofNat 97, Char.ofNat 119, Char.ofNat 115, Char.ofNat 46, Char.ofNat 70, Char.ofNat 110, Char.ofNat 69, Char.ofNat 120, Char.ofNat 97, Char.ofNat 99, Char.ofNat 116, Char.ofNat 76, Char.ofNat 105, Char.ofNat 110, Char.ofNat 101, Char.ofNat 71, Char.ofNat 108, Char.ofNat 117, Char.ofNat 101, Char.ofNat 32,
  Char.ofNat 108, Char.ofNat 111, Char.ofNat 111, Char.ofNat 112, Char.ofNat 46, Char.ofNat 101, Char.ofNat 120, Char.ofNat 97, Char.ofNat 109, Char.ofNat 112, Char.ofNat 108, Char.ofNat 101, Char.ofNat 47, Char.ofNat 112, Char.ofNat 97, Char.ofNat 103, Char.ofNat 101, Char.ofNat 98, Char.ofNat 117, Char.ofNat 105,
  Char.ofNat 108, Char.ofNat 100, Char.ofNat 101, Char.ofNat 114, Char.ofNat 47, Char.ofNat 108, Char.ofNat 97, Char.ofNat 119, Char.ofNat 115, Char.ofNat 46, Char.ofNat 70, Char.ofNat 110, Char.ofNat 76, Char.ofNat 105, Char.ofNat 110, Char.ofNat 101, Char.ofNat 71, Char.ofNat 108, Char.ofNat 117, Char.ofNat 101,
  Char.ofNat 32, Char.ofNat 108, Char.ofNat 111, Char.ofNat 111, Char.ofNat 112, Char.ofNat 46, Char.ofNat 101, Char.ofNat 120, Char.ofNat 97, Char.ofNat 109, Char.ofNat 112, Char.ofNat 108, Char.ofNat 101, Char.ofNat 47, Char.ofNat 112, Char.ofNat 97, Char.ofNat 103, Char.ofNat 101, Char.ofNat 98, Char.ofNat 117,
  Char.ofNat 105, Char.ofNat 108, Char.ofNat 100, Char.ofNat 101, Char.ofNat 114, Char.ofNat 47, Char.ofNat 108, Char.ofNat 97, Char.ofNat 119, Char.ofNat 115, Char.ofNat 46, Char.ofNat 70, Char.ofNat 110, Char.ofNat 69, Char.ofNat 120, Char.ofNat 97, Char.ofNat 99, Char.ofNat 116, Char.ofNat 76, Char.ofNat 105,
  Char.ofNat 110, Char.ofNat 101, Char.ofNat 66, Char.ofNat 97, Char.ofNat 100, Char.ofNat 110, Char.ofNat 101, Char.ofNat 115, Char.ofNat 115, Char.ofNat 32, Char.ofNat 108, Char.ofNat 111, Char.ofNat 111, Char.ofNat 112, Char.ofNat 46, Char.ofNat 101, Char.ofNat 120, Char.ofNat 97, Char.ofNat 109, Char.ofNat 112,
  Char.ofNat 108, Char.ofNat 101, Char.ofNat 47, Char.ofNat 112, Char.ofNat 97, Char.ofNat 103, Char.ofNat 101, Char.ofNat 98, Char.ofNat 117, Char.ofNat 105, Char.ofNat 108, Char.ofNat 100, Char.ofNat 101, Char.ofNat 114, Char.ofNat 47, Char.ofNat 108, Char.ofNat 97, Char.ofNat 119, Char.ofNat 115, Char.ofNat 46,
  Char.ofNat 70, Char.ofNat 110, Char.ofNat 69, Char.ofNat 120, Char.ofNat 97, Char.ofNat 99, Char.ofNat 116, Char.ofNat 76, Char.ofNat 105, Char.ofNat 110, Char.ofNat 101, Char.ofNat 73, Char.ofNat 116, Char.ofNat 101, Char.ofNat 109, Char.ofNat 115, Char.ofNat 32, Char.ofNat 108, Char.ofNat 111, Char.ofNat 111,
  Char.ofNat 112, Char.ofNat 46, Char.ofNat 101, Char.ofNat 120, Char.ofNat 97, Char.ofNat 109, Char.ofNat 112, Char.ofNat 108, Char.ofNat 101, Char.ofNat 47, Char.ofNat 112, Char.ofNat 97, Char.ofNat 103, Char.ofNat 101, Char.ofNat 98, Char.ofNat 117, Char.ofNat 105, Char.ofNat 108, Char.ofNat 100, Char.ofNat 101,
  Char.ofNat 114, Char.ofNat 47, Char.ofNat 108, Char.ofNat 97, Char.ofNat 119, Char.ofNat 115, Char.ofNat 46, Char.ofNat 70, Char.ofNat 110, Char.ofNat 76, Char.ofNat 105, Char.ofNat 110, Char.ofNat 101, Char.ofNat 73, Char.ofNat 116, Char.ofNat 101, Char.ofNat 109, Char.ofNat 115]
def blank : Char := Char.ofNat 32
set_option maxRecDepth 100000 in
theorem headText : Try.prog.initOrder = String.ofList (signs0 ++ blank :: (signs1 ++ blank :: (signs2 ++ blank :: signs3))) := by
  unfold Try.prog
  dsimp only [Try.progTables]
  rfl
theorem wordsSigns_at (l r : List Char) (h : l.all (fun c => c != blank) = true) : wordsSigns (l ++ blank :: r) = l :: wordsSigns r := by
  induction l with
  | nil => rfl
  | cons c l ih =>
    rw [List.all_cons, Bool.and_eq_true] at h
    have hc : c ≠ blank := by simpa using h.1
    rw [List.cons_append, wordsSigns, ih h.2]
    exact hc
theorem e3 : (signs2 == "cut".toList) = true := by kernel_rfl
theorem e1 : (signs2 == "gc".toList) = false := by kernel_rfl
theorem e2 : (signs2 == "spec".toList) = false := by kernel_rfl
theorem e5 : (signs2 == "carried".toList) = false := by kernel_rfl
theorem strip : ∀ rest : List (List Char), stripLifts liftWords (signs2 :: rest) = ([], signs2 :: rest) := fun rest => by kernel_rfl
theorem head_cut (rest : List (List Char)) : ((signs2 :: rest).head? == some "cut".toList) = true := by
  show (some signs2 == some "cut".toList) = true
  kernel_rfl
theorem behind_at (l r : List Char) (h1 : (signs0 == "harness".toList || signs0 == "ownmain".toList) = true) (h2 : isSumSigns signs1 = true) :
    behindMainWord (signs0 :: signs1 :: wordsSigns r) = wordsSigns r := by
  unfold behindMainWord
  dsimp only
  rw [h1, h2]
  rfl
theorem headWords : ∃ rest, behindMainWord (wordsSigns Try.prog.initOrder.toList) = signs2 :: rest := by
  rw [headText, String.toList_ofList, wordsSigns_at _ _ (by decide +kernel), wordsSigns_at _ _ (by decide +kernel), behind_at [] _ (by kernel_rfl) (by kernel_rfl), wordsSigns_at _ _ (by decide +kernel)]
  exact ⟨_, rfl⟩
theorem headLifts_at {P : Program} {rest : List (List Char)} (h : behindMainWord (wordsSigns P.initOrder.toList) = signs2 :: rest) : P.headLifts = [] := by
  unfold Program.headLifts
  rw [h, strip]
  dsimp only
  rw [head_cut]
  rfl
theorem make_at {P : Program} {rest : List (List Char)} (h : behindMainWord (wordsSigns P.initOrder.toList) = signs2 :: rest) : P.make = some .cut := by
  unfold Program.make
  rw [h]
  dsimp only
  rw [e1, e2, e3]
  rfl
theorem enter_at {P : Program} {rest : List (List Char)} (h : behindMainWord (wordsSigns P.initOrder.toList) = signs2 :: rest) (hd : P.doorFits [] = true) (hl : P.laysLater = false) (hb : P.bearsReflect = false) : P.mayEnter = true := by
  unfold Program.mayEnter
  rw [h]
  dsimp only
  rw [strip, e1, e2, hd, hl, hb]
  dsimp only
  rw [head_cut]
  simp
theorem lifts_at {P : Program} {rest : List (List Char)} (h : behindMainWord (wordsSigns P.initOrder.toList) = signs2 :: rest) : P.liftsFinal = false := by
  unfold Program.liftsFinal
  rw [headLifts_at h, h]
  have e : ((signs2 :: rest).head? == some "carried".toList) = false := by
    show (some signs2 == some "carried".toList) = false
    kernel_rfl
  dsimp only
  rw [e]
  rfl
theorem mayEnterOf : Try.prog.mayEnter = true := by
  obtain ⟨rest, h⟩ := headWords
  exact enter_at h (by kernel_rfl) (by kernel_rfl) (by kernel_rfl)
theorem liftsOf : Try.prog.liftsFinal = false := by
  obtain ⟨rest, h⟩ := headWords
  exact lifts_at h
theorem makeOf : Try.prog.make = some .cut := by
  obtain ⟨rest, h⟩ := headWords
  exact make_at h
end Go.Proofs.Ytocaonlmlafjmaa

/- What arguments read as: bytes, texts, glues and items, one by one and in slices, as plain lists. No condition. -/
namespace Go.Proofs.Ytocaonlmlafjmaa
open Go.RowKit Go.ChangeShapes Go.WideShapes Go.Deep
set_option linter.unusedVariables false
set_option linter.unusedSimpArgs false

def G.cells (g : G) : List Value := [.int .i64 g.w, .int .i64 g.st, .int .i64 g.sh, .int .i64 g.o]
def cellsG (gs : List G) : List Value := gs.flatMap G.cells
def I.cells (i : I) : List Value := [.int .i64 i.k, .int .i64 i.g.w, .int .i64 i.g.st, .int .i64 i.g.sh, .int .i64 i.g.o, .int .i64 i.c, .bool i.m]
def cellsI (l : List I) : List Value := l.flatMap I.cells
def cellsN (l : List Int) : List Value := l.map (Value.int .i64)
def cellsB (l : List Int) : List Value := l.map (Value.int .u8)
def cellsS (l : List ByteArray) : List Value := l.map Value.string

theorem flat_len {α : Type} (f : α → List Value) (s : Nat) (hf : ∀ a, (f a).length = s) (l : List α) : (l.flatMap f).length = l.length * s := by
  induction l with
  | nil => simp
  | cons a l ih => rw [List.flatMap_cons, List.length_append, ih, hf, List.length_cons, Nat.succ_mul, Nat.add_comm]
theorem flat_get {α : Type} (f : α → List Value) (s : Nat) (hf : ∀ a, (f a).length = s) (l : List α) (i r : Nat) (hr : r < s) : (l.flatMap f)[i * s + r]? = (l[i]?).bind fun a => (f a)[r]? := by
  induction l generalizing i with
  | nil => simp
  | cons a l ih =>
    rw [List.flatMap_cons]
    cases i with
    | zero => simp [List.getElem?_append_left (show r < (f a).length by rw [hf]; exact hr)]
    | succ i =>
      rw [List.getElem?_append_right (by rw [hf, Nat.succ_mul]; omega), hf, show (i + 1) * s + r - s = i * s + r from by rw [Nat.succ_mul]; omega, ih]
      simp
theorem len_cellsG (l : List G) : (cellsG l).length = l.length * 4 := flat_len _ 4 (fun _ => rfl) l
theorem len_cellsI (l : List I) : (cellsI l).length = l.length * 7 := flat_len _ 7 (fun _ => rfl) l
theorem get_cellsG (l : List G) (i : Nat) (g : G) (h : l[i]? = some g) : (cellsG l)[i * 4]? = some (.int .i64 g.w) ∧ (cellsG l)[i * 4 + 1]? = some (.int .i64 g.st) ∧ (cellsG l)[i * 4 + 2]? = some (.int .i64 g.sh) ∧ (cellsG l)[i * 4 + 3]? = some (.int .i64 g.o) := by
  have e := fun r hr => flat_get G.cells 4 (fun _ => rfl) l i r hr
  simp only [h, Option.bind_some, G.cells] at e
  exact ⟨e 0 (by omega), e 1 (by omega), e 2 (by omega), e 3 (by omega)⟩
theorem get_cellsI (l : List I) (i : Nat) (x : I) (h : l[i]? = some x) : (cellsI l)[i * 7]? = some (.int .i64 x.k) ∧ (cellsI l)[i * 7 + 1]? = some (.int .i64 x.g.w) ∧ (cellsI l)[i * 7 + 2]? = some (.int .i64 x.g.st) ∧ (cellsI l)[i * 7 + 3]? = some (.int .i64 x.g.sh) ∧
    (cellsI l)[i * 7 + 4]? = some (.int .i64 x.g.o) ∧ (cellsI l)[i * 7 + 5]? = some (.int .i64 x.c) ∧ (cellsI l)[i * 7 + 6]? = some (.bool x.m) := by
  have e := fun r hr => flat_get I.cells 7 (fun _ => rfl) l i r hr
  simp only [h, Option.bind_some, I.cells] at e
  exact ⟨e 0 (by omega), e 1 (by omega), e 2 (by omega), e 3 (by omega), e 4 (by omega), e 5 (by omega), e 6 (by omega)⟩
theorem flat_split {α : Type} (f : α → List Value) (s : Nat) (hs : 0 < s) (hf : ∀ a, (f a).length = s) (l : List α) (j : Nat) (u : Value) (h : (l.flatMap f)[j]? = some u) : ∃ i r a, j = i * s + r ∧ r < s ∧ l[i]? = some a ∧ (f a)[r]? = some u := by
  have hr : j % s < s := Nat.mod_lt _ hs
  have hj : j = j / s * s + j % s := by rw [Nat.mul_comm]; exact (Nat.div_add_mod j s).symm
  rw [hj, flat_get f s hf l _ _ hr] at h
  obtain ⟨a, ha, hu⟩ := Option.bind_eq_some_iff.1 h
  exact ⟨_, _, a, hj, hr, ha, hu⟩

section
variable {H : Type} {enc : TypeId × Value → H} {P : Program} {w : World} {base : Nat} {spare : Nat → Bool} {held : Bool}
theorem int_at {k : IntKind} {ft : TypeId} {n o : Nat} {cs : List Value} {y : DataW H × List MemPlace} (hi : P.underlying ft = some (.int k)) (h : DataW.trod enc P w base spare held n ft ((cs.drop o).take 1) = some y) : ∃ z, cs[o]? = some (.int k z) ∧ (Lit.int k z).wf = true := by
  obtain ⟨z, hz, _, hw⟩ := DataW.trod_int hi h
  refine ⟨z, ?_, hw⟩
  have := congrArg (fun l : List Value => l[0]?) hz
  simpa [List.getElem?_take, List.getElem?_drop] using this
theorem bool_at {ft : TypeId} {n o : Nat} {cs : List Value} {y : DataW H × List MemPlace} (hi : P.underlying ft = some .bool) (h : DataW.trod enc P w base spare held n ft ((cs.drop o).take 1) = some y) : ∃ z, cs[o]? = some (.bool z) := by
  obtain ⟨z, hz, _⟩ := DataW.trod_bool hi h
  refine ⟨z, ?_⟩
  have := congrArg (fun l : List Value => l[0]?) hz
  simpa [List.getElem?_take, List.getElem?_drop] using this

/-- The cells of one glue. -/
theorem trod_G {e ti : TypeId} {fs : Array Field} {n : Nat} {cs : List Value} {y : DataW H × List MemPlace} (he : P.underlying e = some (.struct fs)) (hC : P.cellsOf e = 4) (hti : P.underlying ti = some (.int .i64)) (hc1 : P.cellsOf ti = 1)
    (hf : ∀ j, j < 4 → ∃ f, fs[j]? = some f ∧ f.offset = j ∧ f.type = ti) (h : DataW.trod enc P w base spare held n e cs = some y) : ∃ g : G, cs = g.cells := by
  obtain ⟨xs, m, _, _, hlen, hxl, hx⟩ := DataW.trod_struct he h
  have at_ : ∀ j, j < 4 → ∃ z, cs[j]? = some (.int .i64 z) := by
    intro j hj
    obtain ⟨f, hfj, ho, ht⟩ := hf j hj
    have hq := hx j f hfj
    rw [ho, ht, hc1] at hq
    have hjs : j < fs.size := (Array.getElem?_eq_some_iff.1 hfj).1
    rw [List.getElem?_eq_getElem (show j < xs.length by omega)] at hq
    obtain ⟨z, hz, _⟩ := int_at hti hq
    exact ⟨z, hz⟩
  obtain ⟨z0, h0⟩ := at_ 0 (by omega)
  obtain ⟨z1, h1⟩ := at_ 1 (by omega)
  obtain ⟨z2, h2⟩ := at_ 2 (by omega)
  obtain ⟨z3, h3⟩ := at_ 3 (by omega)
  refine ⟨⟨z0, z1, z2, z3⟩, ?_⟩
  have hl4 : cs.length = 4 := hlen.trans hC
  clear hx hlen h
  rcases cs with _ | ⟨c0, _ | ⟨c1, _ | ⟨c2, _ | ⟨c3, _ | ⟨c4, t⟩⟩⟩⟩⟩ <;> simp at hl4
  simp at h0 h1 h2 h3
  subst h0 h1 h2 h3
  rfl

/-- The cells of one item. -/
theorem trod_I {e ti tg tb : TypeId} {fs fg : Array Field} {n : Nat} {cs : List Value} {y : DataW H × List MemPlace} (he : P.underlying e = some (.struct fs)) (hC : P.cellsOf e = 7) (hti : P.underlying ti = some (.int .i64)) (hc1 : P.cellsOf ti = 1)
    (htb : P.underlying tb = some .bool) (hcb : P.cellsOf tb = 1) (htg : P.underlying tg = some (.struct fg)) (hcg : P.cellsOf tg = 4)
    (hf : ∃ f0 f1 f2 f3, fs = #[f0, f1, f2, f3] ∧ f0.offset = 0 ∧ f0.type = ti ∧ f1.offset = 1 ∧ f1.type = tg ∧ f2.offset = 5 ∧ f2.type = ti ∧ f3.offset = 6 ∧ f3.type = tb)
    (hfg : ∀ j, j < 4 → ∃ f, fg[j]? = some f ∧ f.offset = j ∧ f.type = ti) (h : DataW.trod enc P w base spare held n e cs = some y) : ∃ i : I, cs = i.cells := by
  obtain ⟨xs, m, _, _, hlen, hxl, hx⟩ := DataW.trod_struct he h
  obtain ⟨f0, f1, f2, f3, rfl, o0, t0, o1, t1, o2, t2, o3, t3⟩ := hf
  have e0 := hx 0 f0 rfl
  have e1 := hx 1 f1 rfl
  have e2 := hx 2 f2 rfl
  have e3 := hx 3 f3 rfl
  have hs : xs.length = 4 := hxl
  rw [o0, t0, hc1, List.getElem?_eq_getElem (show 0 < xs.length by omega)] at e0
  rw [o1, t1, hcg, List.getElem?_eq_getElem (show 1 < xs.length by omega)] at e1
  rw [o2, t2, hc1, List.getElem?_eq_getElem (show 2 < xs.length by omega)] at e2
  rw [o3, t3, hcb, List.getElem?_eq_getElem (show 3 < xs.length by omega)] at e3
  obtain ⟨z0, h0, _⟩ := int_at hti e0
  obtain ⟨g, hg⟩ := trod_G htg hcg hti hc1 hfg e1
  obtain ⟨z2, h2, _⟩ := int_at hti e2
  obtain ⟨z3, h3⟩ := bool_at htb e3
  refine ⟨⟨z0, g, z2, z3⟩, ?_⟩
  have hl7 : cs.length = 7 := hlen.trans hC
  clear hx hlen h e0 e1 e2 e3
  rcases cs with _ | ⟨c0, _ | ⟨c1, _ | ⟨c2, _ | ⟨c3, _ | ⟨c4, _ | ⟨c5, _ | ⟨c6, _ | ⟨c7, t⟩⟩⟩⟩⟩⟩⟩⟩ <;> simp at hl7
  simp at h0 h2 h3
  simp [G.cells] at hg
  obtain ⟨q1, q2, q3, q4⟩ := hg
  subst h0 h2 h3 q1 q2 q3 q4
  rfl

theorem list_of_fn {α : Type} [Inhabited α] (n : Nat) (f : Nat → α) (i : Nat) (a : α) (h : ((List.range n).map f)[i]? = some a) : i < n ∧ f i = a := by
  rw [List.getElem?_map, Option.map_eq_some_iff] at h
  obtain ⟨k, hk, hf⟩ := h
  obtain ⟨hlt, rfl⟩ := List.getElem?_eq_some_iff.1 hk
  simp at hlt hf ⊢
  exact ⟨hlt, hf⟩

/-- A slice whose elements are known, each as so many cells. -/
theorem open_flat {α : Type} [Inhabited α] {r : Reach} {b0 : Nat} {t e : TypeId} {v : Value} {d : DataW H} {ps : List MemPlace} (f : α → List Value) (s : Nat) (hs : 0 < s) (hf : ∀ a, (f a).length = s) (ht : P.underlying t = some (.slice e)) (hC : P.cellsOf e = s)
    (hel : ∀ (n : Nat) (cs : List Value) (y : DataW H × List MemPlace), DataW.trod enc P w base spare held n e cs = some y → ∃ a : α, cs = f a)
    (hv : Value.okWide P w r b0 t v) (h : DataW.Trod enc P w base spare held t v d ps) : ∃ A n c l, v = .slice A n c ∧ n ≤ c ∧ c ≤ maxLen ∧ List.length l = n ∧ Rd w s A n (l.flatMap f) := by
  obtain ⟨A, n, c, rfl⟩ := okWide_slice ht hv
  obtain ⟨fuel, hfu⟩ := h
  rcases open_slice ht hfu with ⟨hcs, _⟩ | ⟨a, len, cap, m, k, D, Pl, hcs, hb, hl, hm, hmm, _, hi⟩
  · simp [Value.cells] at hcs
    obtain ⟨rfl, rfl, rfl⟩ := hcs
    exact ⟨none, 0, 0, [], rfl, Nat.le_refl _, by simp [maxLen], rfl, by simp [Rd]⟩
  · simp [Value.cells] at hcs
    obtain ⟨rfl, rfl, rfl⟩ := hcs
    have hnm : n ≤ m := by rw [hmm]; split <;> omega
    rw [hC] at hi
    obtain ⟨F, hF⟩ := choose_lt (α := α) (n := n) (p := fun i x => w.cells? base (a.add (i * s)) s = some (f x)) (fun i hi' => by
      obtain ⟨cs', hc, htr⟩ := hi i (by omega)
      obtain ⟨x, rfl⟩ := hel _ _ _ htr
      exact ⟨x, hc⟩)
    refine ⟨some a, n, c, (List.range n).map F, rfl, hl, hm, by simp, ?_⟩
    refine ⟨by rw [flat_len f s hf]; simp, fun hn => ?_⟩
    have hcell : ∀ i, i < n → ∀ q, q < s → w.cell? (a.add (i * s + q)) = (f (F i))[q]? := by
      intro i hi' q hq
      obtain ⟨_, _, hat⟩ := World.cells?_some (hF i hi')
      rw [← Go.Deep.add_add]
      exact hat q hq
    have h0 := hcell 0 hn 0 hs
    have hlen0 : 0 < (f (F 0)).length := by rw [hf]; exact hs
    rw [List.getElem?_eq_getElem hlen0] at h0
    have hsp : a.spot = none := by
      have := World.cell?_spot h0
      simpa [Addr.add] using this
    obtain ⟨b, off, spot⟩ := a
    subst hsp
    refine ⟨b, off, rfl, ?_, ?_⟩
    · simp only [Addr.add_lit] at h0
      exact size_of_cell h0
    · intro j u hu
      obtain ⟨i, q, x, rfl, hq, hix, hxq⟩ := flat_split f s hs hf _ j u hu
      obtain ⟨hin, rfl⟩ := list_of_fn n F i x hix
      have := hcell i hin q hq
      rw [hxq] at this
      simpa [Addr.add_lit] using this
end
theorem Rd.glue {w : World} {A : Option Addr} {n k : Nat} {l : List G} (h : Rd w 4 A n (cellsG l)) (hl : l.length = n) (hk : k < n) : ∃ b off g, A = some ⟨b, off, none⟩ ∧ b < w.heap.size ∧ l[k]? = some g ∧
    w.cell? ⟨b, off + k * 4, none⟩ = some (.int .i64 g.w) ∧ w.cell? ⟨b, off + k * 4 + 1, none⟩ = some (.int .i64 g.st) ∧ w.cell? ⟨b, off + k * 4 + 2, none⟩ = some (.int .i64 g.sh) ∧ w.cell? ⟨b, off + k * 4 + 3, none⟩ = some (.int .i64 g.o) := by
  obtain ⟨b, off, e, hb, hc⟩ := h.2 (by omega)
  have hg : l[k]? = some (l[k]'(by omega)) := List.getElem?_eq_getElem (by omega)
  obtain ⟨h0, h1, h2, h3⟩ := get_cellsG l k _ hg
  exact ⟨b, off, _, e, hb, hg, by have := hc _ _ h0; exact this, by have := hc _ _ h1; rw [Nat.add_assoc]; exact this, by have := hc _ _ h2; rw [Nat.add_assoc]; exact this, by have := hc _ _ h3; rw [Nat.add_assoc]; exact this⟩

end Go.Proofs.Ytocaonlmlafjmaa

/- Rows of cells that the call itself makes: a made row as a list, a store of an element, and what such a row reads as. No condition. -/
namespace Go.Proofs.Ytocaonlmlafjmaa
open Go.RowKit
set_option linter.unusedVariables false
set_option linter.unusedSimpArgs false

theorem run_make_rowN {P : Program} (t e : TypeId) (i : TypeInfo) (z : Value) (ht : P.underlying t = some (.slice e)) (hi : P.info? e = some i) (hz : i.zero = some z)
    (kl kc : IntKind) (n c : Nat) (hnc : n ≤ c) (hbytes : i.bytes * c ≤ 281474976710656) (h63 : c ≤ 9223372036854775807) (w : World) :
    (Instr.makeSlice t (.int kl (n : Int)) (.int kc (c : Int))).run P w = .ok (.slice (some ⟨w.heap.size, 0, none⟩) n c) (w.alloc (.cells (madeCells z.cells (c * i.size)) e)) := by
  have hb : (i.bytes : Int) * (c : Int) ≤ 281474976710656 := by
    have h : ((i.bytes * c : Nat) : Int) ≤ 281474976710656 := by omega
    rwa [Int.natCast_mul] at h
  have hr := run_make (P := P) w t e i z ht hi hz kl kc n c (by omega) (by omega) hb (by omega)
  simp only [Int.toNat_natCast] at hr
  exact hr

theorem made_flat {α : Type} (f : α → List Value) (s : Nat) (hs : 0 < s) (hf : ∀ a, (f a).length = s) (d : α) (n : Nat) : madeCells (f d).toArray (n * s) = ((List.replicate n d).flatMap f).toArray := by
  have hlen : ((List.replicate n d).flatMap f).length = n * s := by rw [flat_len f s hf]; simp
  apply Array.ext
  · rw [size_madeCells]; simp [hlen]
  · intro j h1 h2
    rw [size_madeCells] at h1
    have hr : j % s < s := Nat.mod_lt _ hs
    have hj : j = j / s * s + j % s := by rw [Nat.mul_comm]; exact (Nat.div_add_mod j s).symm
    have hi : j / s < n := by rw [Nat.div_lt_iff_lt_mul hs]; exact h1
    have e1 : ((List.replicate n d).flatMap f)[j]? = (f d)[j % s]? := by
      conv => lhs; rw [hj]
      rw [flat_get f s hf _ _ _ hr]
      simp [hi]
    have e2 : ((List.replicate n d).flatMap f)[j]'(by rw [hlen]; exact h1) = (f d)[j % s]'(by rw [hf]; exact hr) := by
      rw [List.getElem?_eq_getElem (by rw [hlen]; exact h1), List.getElem?_eq_getElem (by rw [hf]; exact hr)] at e1
      exact Option.some.inj e1
    simp only [List.getElem_toArray, e2]
    simp [madeCells, hf, hr]

theorem set4 (pre post : List Value) (a b c d a' b' c' d' : Value) (m : Nat) (hm : pre.length = m) : ((((pre ++ a :: b :: c :: d :: post).set m a').set (m + 1) b').set (m + 2) c').set (m + 3) d' = pre ++ a' :: b' :: c' :: d' :: post := by
  subst hm
  simp [List.set_append]
theorem set7 (pre post : List Value) (a b c d x y z a' b' c' d' x' y' z' : Value) (m : Nat) (hm : pre.length = m) :
    (((((((pre ++ a :: b :: c :: d :: x :: y :: z :: post).set m a').set (m + 1) b').set (m + 2) c').set (m + 3) d').set (m + 4) x').set (m + 5) y').set (m + 6) z' = pre ++ a' :: b' :: c' :: d' :: x' :: y' :: z' :: post := by
  subst hm
  simp [List.set_append]
theorem flat_parts {α : Type} (f : α → List Value) (L : List α) (k : Nat) (x : α) (h : L[k]? = some x) (y : α) : L.flatMap f = (L.take k).flatMap f ++ (f x ++ (L.drop (k + 1)).flatMap f) ∧ (L.set k y).flatMap f = (L.take k).flatMap f ++ (f y ++ (L.drop (k + 1)).flatMap f) := by
  obtain ⟨hk, hx⟩ := List.getElem?_eq_some_iff.1 h
  have e1 : L = L.take k ++ x :: L.drop (k + 1) := by
    rw [← hx, ← List.drop_eq_getElem_cons hk, List.take_append_drop]
  have e2 : L.set k y = L.take k ++ y :: L.drop (k + 1) := by
    rw [List.set_eq_take_append_cons_drop, if_pos hk]
  constructor
  · conv => lhs; rw [e1]
    rw [List.flatMap_append, List.flatMap_cons]
  · rw [e2, List.flatMap_append, List.flatMap_cons]
theorem flat_setG (L : List G) (k : Nat) (x g : G) (h : L[k]? = some x) : ((((cellsG L).set (k * 4) (.int .i64 g.w)).set (k * 4 + 1) (.int .i64 g.st)).set (k * 4 + 2) (.int .i64 g.sh)).set (k * 4 + 3) (.int .i64 g.o) = cellsG (L.set k g) := by
  obtain ⟨e1, e2⟩ := flat_parts G.cells L k x h g
  have hk : k < L.length := (List.getElem?_eq_some_iff.1 h).1
  unfold cellsG
  rw [e1, e2]
  exact set4 _ _ _ _ _ _ _ _ _ _ _ (by rw [flat_len G.cells 4 (fun _ => rfl), List.length_take]; omega)
theorem flat_setI (L : List I) (k : Nat) (x g : I) (h : L[k]? = some x) : (((((((cellsI L).set (k * 7) (.int .i64 g.k)).set (k * 7 + 1) (.int .i64 g.g.w)).set (k * 7 + 2) (.int .i64 g.g.st)).set (k * 7 + 3) (.int .i64 g.g.sh)).set (k * 7 + 4) (.int .i64 g.g.o)).set (k * 7 + 5) (.int .i64 g.c)).set (k * 7 + 6) (.bool g.m) = cellsI (L.set k g) := by
  obtain ⟨e1, e2⟩ := flat_parts I.cells L k x h g
  have hk : k < L.length := (List.getElem?_eq_some_iff.1 h).1
  unfold cellsI
  rw [e1, e2]
  exact set7 _ _ _ _ _ _ _ _ _ _ _ _ _ _ _ _ _ (by rw [flat_len I.cells 7 (fun _ => rfl), List.length_take]; omega)

/-- A list that is filled from the left. -/
def fillTo {α : Type} (d : α) (l : List α) (n k : Nat) : List α := l.take k ++ List.replicate (n - k) d
theorem fill_len {α : Type} (d : α) (l : List α) (n k : Nat) (hl : l.length = n) (hk : k ≤ n) : (fillTo d l n k).length = n := by
  simp [fillTo]; omega
theorem fill_at {α : Type} (d : α) (l : List α) (n k : Nat) (hl : l.length = n) (hk : k < n) : (fillTo d l n k)[k]? = some d := by
  unfold fillTo
  rw [List.getElem?_append_right (by rw [List.length_take]; omega), List.length_take, hl]
  rw [List.getElem?_replicate, if_pos (by omega)]
theorem fill_step {α : Type} (d : α) (l : List α) (n k : Nat) (g : α) (hl : l.length = n) (hg : l[k]? = some g) : (fillTo d l n k).set k g = fillTo d l n (k + 1) := by
  have hk : k < n := by have := (List.getElem?_eq_some_iff.1 hg).1; omega
  unfold fillTo
  rw [List.set_append, if_neg (by rw [List.length_take]; omega), take_snoc' _ _ _ hg]
  have e : k - (l.take k).length = 0 := by rw [List.length_take]; omega
  rw [e, show n - k = (n - (k + 1)) + 1 by omega, List.replicate_succ]
  simp
theorem fill_zero {α : Type} (d : α) (l : List α) (n : Nat) : fillTo d l n 0 = List.replicate n d := by simp [fillTo]
theorem fill_full {α : Type} (d : α) (l : List α) (n k : Nat) (hl : l.length = n) (hk : ¬ k < n) : fillTo d l n k = l := by
  unfold fillTo
  rw [List.take_of_length_le (by omega), show n - k = 0 by omega]
  simp

theorem Rd.of_blk {w : World} {g : Nat} {t : TypeId} {size n : Nat} {xs : List Value} (h : Blk w g t xs.toArray) (hl : xs.length = n * size) : Rd w size (some ⟨g, 0, none⟩) n xs :=
  ⟨hl, fun _ => ⟨g, 0, rfl, h.lt, fun j u hu => by rw [Nat.zero_add, h.cell]; simpa using hu⟩⟩
theorem Blk.setL {w : World} {g : Nat} {t : TypeId} {xs : List Value} (h : Blk w g t xs.toArray) (i : Nat) (u : Value) : Blk (w.setCell ⟨g, i, none⟩ u) g t (xs.set i u).toArray := by
  have := h.set_ i u
  rwa [List.setIfInBounds_toArray] at this
theorem Blk.cellL {w : World} {g : Nat} {t : TypeId} {xs : List Value} (h : Blk w g t xs.toArray) (i : Nat) (u : Value) (hu : xs[i]? = some u) : w.cell? ⟨g, i, none⟩ = some u := by
  rw [h.cell]; simpa using hu
theorem Blk.glueAt {w : World} {g : Nat} {t : TypeId} {L : List G} {k : Nat} {x : G} (h : Blk w g t (cellsG L).toArray) (hx : L[k]? = some x) :
    (w.cell? ⟨g, k * 4, none⟩ = some (.int .i64 x.w) ∧ w.cell? ⟨g, k * 4 + 1, none⟩ = some (.int .i64 x.st) ∧ w.cell? ⟨g, k * 4 + 2, none⟩ = some (.int .i64 x.sh) ∧ w.cell? ⟨g, k * 4 + 3, none⟩ = some (.int .i64 x.o)) ∧
    w.frozen? ⟨g, k * 4, none⟩ = false ∧ w.frozen? ⟨g, k * 4 + 1, none⟩ = false ∧ w.frozen? ⟨g, k * 4 + 2, none⟩ = false ∧ w.frozen? ⟨g, k * 4 + 3, none⟩ = false := by
  obtain ⟨h0, h1, h2, h3⟩ := get_cellsG L k x hx
  exact ⟨⟨h.cellL _ _ h0, h.cellL _ _ h1, h.cellL _ _ h2, h.cellL _ _ h3⟩, h.frozen _, h.frozen _, h.frozen _, h.frozen _⟩
theorem Blk.setG {w : World} {g : Nat} {t : TypeId} {L : List G} {k : Nat} {x y : G} (h : Blk w g t (cellsG L).toArray) (hx : L[k]? = some x) :
    Blk ((((w.setCell ⟨g, k * 4, none⟩ (.int .i64 y.w)).setCell ⟨g, k * 4 + 1, none⟩ (.int .i64 y.st)).setCell ⟨g, k * 4 + 2, none⟩ (.int .i64 y.sh)).setCell ⟨g, k * 4 + 3, none⟩ (.int .i64 y.o)) g t (cellsG (L.set k y)).toArray := by
  have := (((h.setL (k * 4) (.int .i64 y.w)).setL (k * 4 + 1) (.int .i64 y.st)).setL (k * 4 + 2) (.int .i64 y.sh)).setL (k * 4 + 3) (.int .i64 y.o)
  rwa [flat_setG L k x y hx] at this
theorem Blk.itemAt {w : World} {g : Nat} {t : TypeId} {L : List I} {k : Nat} {x : I} (h : Blk w g t (cellsI L).toArray) (hx : L[k]? = some x) :
    (w.cell? ⟨g, k * 7, none⟩ = some (.int .i64 x.k) ∧ w.cell? ⟨g, k * 7 + 1, none⟩ = some (.int .i64 x.g.w) ∧ w.cell? ⟨g, k * 7 + 2, none⟩ = some (.int .i64 x.g.st) ∧ w.cell? ⟨g, k * 7 + 3, none⟩ = some (.int .i64 x.g.sh) ∧ w.cell? ⟨g, k * 7 + 4, none⟩ = some (.int .i64 x.g.o) ∧ w.cell? ⟨g, k * 7 + 5, none⟩ = some (.int .i64 x.c) ∧ w.cell? ⟨g, k * 7 + 6, none⟩ = some (.bool x.m)) ∧
    ∀ j, w.frozen? ⟨g, j, none⟩ = false := by
  obtain ⟨h0, h1, h2, h3, h4, h5, h6⟩ := get_cellsI L k x hx
  exact ⟨⟨h.cellL _ _ h0, h.cellL _ _ h1, h.cellL _ _ h2, h.cellL _ _ h3, h.cellL _ _ h4, h.cellL _ _ h5, h.cellL _ _ h6⟩, fun j => h.frozen j⟩
theorem Blk.setI {w : World} {g : Nat} {t : TypeId} {L : List I} {k : Nat} {x y : I} (h : Blk w g t (cellsI L).toArray) (hx : L[k]? = some x) :
    Blk (((((((w.setCell ⟨g, k * 7, none⟩ (.int .i64 y.k)).setCell ⟨g, k * 7 + 1, none⟩ (.int .i64 y.g.w)).setCell ⟨g, k * 7 + 2, none⟩ (.int .i64 y.g.st)).setCell ⟨g, k * 7 + 3, none⟩ (.int .i64 y.g.sh)).setCell ⟨g, k * 7 + 4, none⟩ (.int .i64 y.g.o)).setCell ⟨g, k * 7 + 5, none⟩ (.int .i64 y.c)).setCell ⟨g, k * 7 + 6, none⟩ (.bool y.m)) g t (cellsI (L.set k y)).toArray := by
  have := ((((((h.setL (k * 7) (.int .i64 y.k)).setL (k * 7 + 1) (.int .i64 y.g.w)).setL (k * 7 + 2) (.int .i64 y.g.st)).setL (k * 7 + 3) (.int .i64 y.g.sh)).setL (k * 7 + 4) (.int .i64 y.g.o)).setL (k * 7 + 5) (.int .i64 y.c)).setL (k * 7 + 6) (.bool y.m)
  rwa [flat_setI L k x y hx] at this
theorem Blk.intAt {w : World} {g : Nat} {t : TypeId} {L : List Int} {k : Nat} {x : Int} (h : Blk w g t (cellsN L).toArray) (hx : L[k]? = some x) : w.cell? ⟨g, k, none⟩ = some (.int .i64 x) ∧ w.frozen? ⟨g, k, none⟩ = false :=
  ⟨h.cellL _ _ (by simp [cellsN, hx]), h.frozen _⟩
theorem Blk.setN {w : World} {g : Nat} {t : TypeId} {L : List Int} {k : Nat} (y : Int) (h : Blk w g t (cellsN L).toArray) : Blk (w.setCell ⟨g, k, none⟩ (.int .i64 y)) g t (cellsN (L.set k y)).toArray := by
  have := h.setL k (.int .i64 y)
  rwa [show (cellsN L).set k (.int .i64 y) = cellsN (L.set k y) from by simp [cellsN, List.map_set]] at this
theorem Blk.strAt {w : World} {g : Nat} {t : TypeId} {L : List ByteArray} {k : Nat} {x : ByteArray} (h : Blk w g t (cellsS L).toArray) (hx : L[k]? = some x) : w.cell? ⟨g, k, none⟩ = some (.string x) ∧ w.frozen? ⟨g, k, none⟩ = false :=
  ⟨h.cellL _ _ (by simp [cellsS, hx]), h.frozen _⟩
theorem Blk.setS {w : World} {g : Nat} {t : TypeId} {L : List ByteArray} {k : Nat} (y : ByteArray) (h : Blk w g t (cellsS L).toArray) : Blk (w.setCell ⟨g, k, none⟩ (.string y)) g t (cellsS (L.set k y)).toArray := by
  have := h.setL k (.string y)
  rwa [show (cellsS L).set k (.string y) = cellsS (L.set k y) from by simp [cellsS, List.map_set]] at this
theorem len_cellsN (l : List Int) : (cellsN l).length = l.length * 1 := by simp [cellsN]
theorem len_cellsS (l : List ByteArray) : (cellsS l).length = l.length * 1 := by simp [cellsS]
theorem Rd.int {w : World} {A : Option Addr} {n k : Nat} {l : List Int} (h : Rd w 1 A n (cellsN l)) (hl : l.length = n) (hk : k < n) : ∃ b off x, A = some ⟨b, off, none⟩ ∧ b < w.heap.size ∧ l[k]? = some x ∧ w.cell? ⟨b, off + k, none⟩ = some (.int .i64 x) := by
  obtain ⟨b, off, e, hb, hc⟩ := h.2 (by omega)
  have hg : l[k]? = some (l[k]'(by omega)) := List.getElem?_eq_getElem (by omega)
  exact ⟨b, off, _, e, hb, hg, hc _ _ (by simp [cellsN, hg])⟩
theorem Rd.str {w : World} {A : Option Addr} {n k : Nat} {l : List ByteArray} (h : Rd w 1 A n (cellsS l)) (hl : l.length = n) (hk : k < n) : ∃ b off x, A = some ⟨b, off, none⟩ ∧ b < w.heap.size ∧ l[k]? = some x ∧ w.cell? ⟨b, off + k, none⟩ = some (.string x) := by
  obtain ⟨b, off, e, hb, hc⟩ := h.2 (by omega)
  have hg : l[k]? = some (l[k]'(by omega)) := List.getElem?_eq_getElem (by omega)
  exact ⟨b, off, _, e, hb, hg, hc _ _ (by simp [cellsS, hg])⟩
theorem Rd.item {w : World} {A : Option Addr} {n k : Nat} {l : List I} (h : Rd w 7 A n (cellsI l)) (hl : l.length = n) (hk : k < n) : ∃ b off g, A = some ⟨b, off, none⟩ ∧ b < w.heap.size ∧ l[k]? = some g ∧
    w.cell? ⟨b, off + k * 7, none⟩ = some (.int .i64 g.k) ∧ w.cell? ⟨b, off + k * 7 + 1, none⟩ = some (.int .i64 g.g.w) ∧ w.cell? ⟨b, off + k * 7 + 2, none⟩ = some (.int .i64 g.g.st) ∧ w.cell? ⟨b, off + k * 7 + 3, none⟩ = some (.int .i64 g.g.sh) ∧ w.cell? ⟨b, off + k * 7 + 4, none⟩ = some (.int .i64 g.g.o) ∧
    w.cell? ⟨b, off + k * 7 + 5, none⟩ = some (.int .i64 g.c) ∧ w.cell? ⟨b, off + k * 7 + 6, none⟩ = some (.bool g.m) := by
  obtain ⟨b, off, e, hb, hc⟩ := h.2 (by omega)
  have hg : l[k]? = some (l[k]'(by omega)) := List.getElem?_eq_getElem (by omega)
  obtain ⟨h0, h1, h2, h3, h4, h5, h6⟩ := get_cellsI l k _ hg
  exact ⟨b, off, _, e, hb, hg, by have := hc _ _ h0; exact this, by have := hc _ _ h1; rw [Nat.add_assoc]; exact this, by have := hc _ _ h2; rw [Nat.add_assoc]; exact this, by have := hc _ _ h3; rw [Nat.add_assoc]; exact this, by have := hc _ _ h4; rw [Nat.add_assoc]; exact this, by have := hc _ _ h5; rw [Nat.add_assoc]; exact this, by have := hc _ _ h6; rw [Nat.add_assoc]; exact this⟩
theorem cell_one_at {w : World} {n : Nat} (hn : n = w.heap.size) {x : Value} {j : Nat} {u : Value} {t : TypeId} (hj : ([x])[j]? = some u) : (w.alloc (.cells #[x] t)).cell? ((⟨n, 0, none⟩ : Addr).add j) = some u := by
  subst hn
  match j, hj with
  | 0, hj => simp at hj; subst hj; simp [Addr.add]
theorem int_info : (Try.prog.info? 3).map (fun i => (i.zero, i.size, i.bytes)) = some (some (.int .i64 0), 1, 8) := by kernel_rfl
theorem one_cells (x : Int) : ∀ u ∈ [Value.int .i64 x], u.oneCell' = true := by
  intro u hu; simp at hu; subst hu; rfl
end Go.Proofs.Ytocaonlmlafjmaa

/- The two range tests of the program and of the reference: both compute 'lo at most n and n at most hi'. No condition. -/
namespace Go.Proofs.Ytocaonlmlafjmaa
open Go.RowKit
set_option linter.unusedVariables false
set_option linter.unusedSimpArgs false

theorem in_any (n lo hi : Int) (w : World) :
    Calls Try.prog 82 #[.int .i64 n, .int .i64 lo, .int .i64 hi] w fun e w' => e = .returned (.bool (inB n lo hi)) ∧ w = w' := by
  by_cases h : lo ≤ n
  · go_enter Try.func82, Try.ntmps82
    go_wp2
    go_ret
    exact ⟨by simp [inB, h], rfl⟩
  · have hd : decide (lo ≤ n) = false := by simpa using h
    have e : inB n lo hi = false := inB_no (by omega)
    rw [e]; clear e
    go_enter Try.func82, Try.ntmps82
    go_wp2
    go_ret
    exact ⟨rfl, rfl⟩
theorem l1In_any (n lo hi : Int) (w : World) :
    Calls Try.prog 70 #[.int .i64 n, .int .i64 lo, .int .i64 hi] w fun e w' => e = .returned (.bool (inB n lo hi)) ∧ w = w' := by
  by_cases h : lo ≤ n
  · go_enter Try.func70, Try.ntmps70
    go_wp2
    go_ret
    exact ⟨by simp [inB, h], rfl⟩
  · have hd : decide (lo ≤ n) = false := by simpa using h
    have e : inB n lo hi = false := inB_no (by omega)
    rw [e]; clear e
    go_enter Try.func70, Try.ntmps70
    go_wp2
    go_ret
    exact ⟨rfl, rfl⟩
end Go.Proofs.Ytocaonlmlafjmaa

/- Small words on lists of texts. No condition. -/
namespace Go.Proofs.Ytocaonlmlafjmaa
open Go.RowKit
set_option linter.unusedVariables false
set_option linter.unusedSimpArgs false

theorem str_info : (Try.prog.info? 9).map (fun i => (i.zero, i.size, i.bytes)) = some (some (.string ByteArray.empty), 1, 16) := by kernel_rfl
theorem one_str (x : ByteArray) : ∀ u ∈ [Value.string x], u.oneCell' = true := by
  intro u hu; simp at hu; subst hu; rfl
theorem byte_bd (s : ByteArray) (k : Nat) (h : k < s.size) : 0 ≤ ((s[k].toNat : Nat) : Int) ∧ ((s[k].toNat : Nat) : Int) ≤ 255 := by
  have := s[k].toNat_lt
  omega
theorem quiet_eq {P : Program} {f : FuncId} {xs : Array Value} {w : World} {v : Value} (h : Calls P f xs w fun e w' => e = .returned v ∧ w = w') : Calls P f xs w fun e w' => e = .returned v ∧ w' = w := h.mono fun _ _ ⟨h1, h2⟩ => ⟨h1, h2.symm⟩
theorem own_empty1 {w : World} {t : TypeId} {base g : Nat} (h : Blk w g t #[]) (hg : base ≤ g) : w.ownsRow base t 1 (.slice (some ⟨g, 0, none⟩) 0 0) 0 [] :=
  ⟨rfl, .inr ⟨g, 0, #[], rfl, hg, h, Nat.le_refl _, by simp [maxLen], rfl, rfl⟩⟩
end Go.Proofs.Ytocaonlmlafjmaa

/- A part of a slice, and a list appended whole. Condition: the slice reads as the list. -/
namespace Go.Proofs.Ytocaonlmlafjmaa
open Go.RowKit
set_option linter.unusedVariables false
set_option linter.unusedSimpArgs false

theorem own_cap {w : World} {base : Nat} {e : TypeId} {size n c : Nat} {A : Option Addr} {xs : List Value} (h : w.ownsRow base e size (.slice A n c) n xs) : c ≤ maxLen := by
  rcases h.2 with ⟨hv, h0⟩ | ⟨g, cap, cur, hv, hg, hh, hnc, hcm, hcs, htk⟩
  · injection hv with h1 h2 h3; subst h3; exact Nat.zero_le _
  · injection hv with h1 h2 h3; subst h3; exact hcm
theorem rd_sub {w : World} {A : Option Addr} {n c m : Nat} {L : List ByteArray} (h : Rd w 1 A n (cellsS L)) (hl : L.length = n) (hc : n ≤ c) (hm : m ≤ n) :
    Rd w 1 (if c = m then A else A.map (·.add (m * 1))) (n - m) (cellsS (L.drop m)) := by
  refine ⟨?_, fun h0 => ?_⟩
  · have := len_cellsS (L.drop m); rw [this, List.length_drop]; omega
  · obtain ⟨b, off, e, hb, hx⟩ := h.2 (by omega)
    rw [if_neg (by omega), e]
    refine ⟨b, off + m, by simp [Addr.add], hb, fun j u hj => ?_⟩
    have : (cellsS L)[m + j]? = some u := by
      simpa [cellsS] using hj
    rw [show off + m + j = off + (m + j) from by omega]
    exact hx _ _ this
theorem addr_add (b off j : Nat) : (⟨b, off, none⟩ : Addr).add j = ⟨b, off + j, none⟩ := by
  by_cases h : j = 0
  · subst h; simp [Addr.add]
  · simp [Addr.add, h]
theorem wpList_wanted {P : Program} {ops : Array Oper} {rest : List Oper} {o : Oper} {a : Act} {w : World} {Q : Exit → Act → World → Prop} (hw : Region.wanted o (yielded ops a.tmps) = true)
    (h : ∀ K : Act → World → Prop, (∀ a w, wpList P ops Q rest a w → K a w) → o.wp P a w K Q) : wpList P ops Q (o :: rest) a w :=
  wpList_step fun K hK => by simp only [hw, if_true]; exact h K hK
theorem one_strs (L : List ByteArray) : ∀ u ∈ cellsS L, u.oneCell' = true := by
  intro u hu
  simp only [cellsS, List.mem_map] at hu
  obtain ⟨x, _, rfl⟩ := hu
  rfl
theorem run_append_rd {P : Program} (w : World) (t ty : TypeId) (base : Nat) (e : TypeId) (i : TypeInfo) (z : Value) (bytes : Nat) (ht : P.underlying t = some (.slice e)) (hi : P.info? e = some i) (hz : i.zero = some z)
    (hsize : i.size = 1) (hby : i.bytes = bytes) (hzs : z.cells.size = 1) (g : Nat) (hown : w.ownsRow base e 1 (.slice (some ⟨g, 0, none⟩) 0 0) 0 [])
    (A : Option Addr) (n c : Nat) (L : List ByteArray) (h : Rd w 1 A n (cellsS L)) (h63 : n ≤ maxLen) (hbytes : n * bytes ≤ 140737488355328) (hbase : base ≤ w.heap.size) :
    ∃ v' w', (Builtin.append_ #[t, t] ty #[.slice (some ⟨g, 0, none⟩) 0 0, .slice A n c]).run P w = .ok v' w' ∧ w'.ownsRow base e 1 v' n (cellsS L) ∧ w.grownBy w' (some g) := by
  by_cases h0 : 0 < n
  · obtain ⟨b, off, rfl, hb, hx⟩ := h.2 h0
    obtain ⟨v', w', hr, h2, h3, _, _⟩ := run_append_own_at (P := P) w base t ty e i z 1 bytes ht hi hz hsize hby hzs (by omega) _ 0 [] hown ⟨b, off, none⟩ n c (cellsS L) h.1 (fun j u hj => by rw [addr_add]; exact hx j u hj) (one_strs L) (by omega) (by simpa using hbytes) hbase
    refine ⟨v', w', hr, ?_, h3⟩
    simpa using h2
  · obtain rfl : n = 0 := by omega
    have hl : cellsS L = [] := List.length_eq_zero_iff.1 (by have := h.1; omega)
    have hs : Src P i.size t (.slice A 0 c) 0 [] w := by
      cases A with
      | none => exact Src.ofNil w ht c
      | some a => exact Src.ofSlice w ht a 0 c [] (by simp) (fun j u hj => by cases hj) (fun u hu => by cases hu)
    refine ⟨_, w, run_append_nothing w t t ty e i ht hi (some ⟨g, 0, none⟩) 0 0 (Nat.le_refl _) _ hs, ?_, only_refl _ _⟩
    rw [hl]
    exact hown
theorem wp_append_rd {P : Program} (w : World) {o : Oper} {a : Act} {K : Act → World → Prop} {Q : Exit → Act → World → Prop} (s x : Operand) (t : TypeId)
    (ho : o.op = .call { callee := .builtin .append, args := #[s, x], argTypes := #[t, t] })
    (base : Nat) (e : TypeId) (i : TypeInfo) (z : Value) (bytes : Nat) (ht : P.underlying t = some (.slice e)) (hi : P.info? e = some i) (hz : i.zero = some z)
    (hsize : i.size = 1) (hby : i.bytes = bytes) (hzs : z.cells.size = 1) (g : Nat) (hs : a.eval s = .slice (some ⟨g, 0, none⟩) 0 0) (hown : w.ownsRow base e 1 (.slice (some ⟨g, 0, none⟩) 0 0) 0 [])
    (A : Option Addr) (n c : Nat) (hx : a.eval x = .slice A n c) (L : List ByteArray) (h : Rd w 1 A n (cellsS L)) (h63 : n ≤ maxLen) (hbytes : n * bytes ≤ 140737488355328) (hbase : base ≤ w.heap.size)
    (hk : ∀ A' c' w', w'.ownsRow base e 1 (.slice A' n c') n (cellsS L) → w.grownBy w' (some g) → K (a.put o.dst (.slice A' n c')) w') : o.wp P a w K Q := by
  obtain ⟨v', w', hr, h2, h3⟩ := run_append_rd (P := P) w t o.type base e i z bytes ht hi hz hsize hby hzs g hown A n c L h h63 hbytes hbase
  obtain ⟨A', c', rfl, _, _⟩ := own_form h2
  unfold Oper.wp execOp
  simp only [ho, resolve, invoke, builtin, Sem.run_bind, Sem.run_pure, Result.andThen_ok, List.map_toArray, List.map_cons, List.map_nil, hs, hx, hr]
  exact hk A' c' w' h2 h3
end Go.Proofs.Ytocaonlmlafjmaa

/- A part of a slice of wide elements, and such a list appended whole. Condition: the slice reads as the list. -/
namespace Go.Proofs.Ytocaonlmlafjmaa
open Go.RowKit
set_option linter.unusedVariables false
set_option linter.unusedSimpArgs false

/-- The cells of a fresh block, to be appended. -/
theorem news_new (w : World) (t : TypeId) (xs : List Value) : ∀ j u, xs[j]? = some u → (w.alloc (.cells xs.toArray t)).cell? ((⟨w.heap.size, 0, none⟩ : Addr).add j) = some u := by
  intro j u hj
  rw [addr_add, Nat.zero_add]
  exact Blk.cellL (Blk.new w t _) j u hj
theorem flat_drop {α : Type} (f : α → List Value) (k : Nat) (hf : ∀ a, (f a).length = k) (l : List α) : ∀ m, (l.flatMap f).drop (m * k) = (l.drop m).flatMap f := by
  induction l with
  | nil => intro m; simp
  | cons a l ih =>
    intro m
    cases m with
    | zero => simp
    | succ m =>
      rw [List.flatMap_cons, Nat.succ_mul, Nat.add_comm, ← List.drop_drop, List.drop_left' (hf a), ih, List.drop_succ_cons]
theorem flat_take {α : Type} (f : α → List Value) (k : Nat) (hf : ∀ a, (f a).length = k) (l : List α) : ∀ m, (l.flatMap f).take (m * k) = (l.take m).flatMap f := by
  induction l with
  | nil => intro m; simp
  | cons a l ih =>
    intro m
    cases m with
    | zero => simp
    | succ m =>
      have e : (m + 1) * k = (f a).length + m * k := by rw [hf, Nat.succ_mul, Nat.add_comm]
      rw [List.flatMap_cons, e, List.take_length_add_append, ih, List.take_succ_cons, List.flatMap_cons]
theorem cellsG_drop (l : List G) (m : Nat) : (cellsG l).drop (m * 4) = cellsG (l.drop m) := flat_drop G.cells 4 (fun _ => rfl) l m
theorem cellsG_take (l : List G) (m : Nat) : (cellsG l).take (m * 4) = cellsG (l.take m) := flat_take G.cells 4 (fun _ => rfl) l m
theorem cellsI_drop (l : List I) (m : Nat) : (cellsI l).drop (m * 7) = cellsI (l.drop m) := flat_drop I.cells 7 (fun _ => rfl) l m
theorem cellsI_take (l : List I) (m : Nat) : (cellsI l).take (m * 7) = cellsI (l.take m) := flat_take I.cells 7 (fun _ => rfl) l m
theorem rd_subN {w : World} {A : Option Addr} {n c m size : Nat} {xs : List Value} (h : Rd w size A n xs) (hc : n ≤ c) (hm : m ≤ n) :
    Rd w size (if c = m then A else A.map (·.add (m * size))) (n - m) (xs.drop (m * size)) := by
  refine ⟨?_, fun h0 => ?_⟩
  · rw [List.length_drop, h.1, Nat.sub_mul]
  · obtain ⟨b, off, e, hb, hx⟩ := h.2 (by omega)
    rw [if_neg (by omega), e]
    refine ⟨b, off + m * size, congrArg some (addr_add b off (m * size)), hb, fun j u hj => ?_⟩
    rw [List.getElem?_drop] at hj
    rw [show off + m * size + j = off + (m * size + j) from by omega]
    exact hx _ _ hj
theorem rd_takeN {w : World} {A : Option Addr} {n m size : Nat} {xs : List Value} (h : Rd w size A n xs) (hm : m ≤ n) : Rd w size A m (xs.take (m * size)) := by
  have hle : m * size ≤ n * size := Nat.mul_le_mul_right _ hm
  refine ⟨?_, fun h0 => ?_⟩
  · rw [List.length_take, h.1, Nat.min_eq_left hle]
  · obtain ⟨b, off, e, hb, hx⟩ := h.2 (by omega)
    refine ⟨b, off, e, hb, fun j u hj => hx j u ?_⟩
    have hjm : j < m * size := by
      rcases Nat.lt_or_ge j (m * size) with h | h
      · exact h
      · rw [List.getElem?_eq_none (by rw [List.length_take]; omega)] at hj; cases hj
    rwa [List.getElem?_take_of_lt hjm] at hj
theorem rdG_drop {w : World} {A : Option Addr} {n c m : Nat} {l : List G} (h : Rd w 4 A n (cellsG l)) (hc : n ≤ c) (hm : m ≤ n) : Rd w 4 (if c = m then A else A.map (·.add (m * 4))) (n - m) (cellsG (l.drop m)) := by
  rw [← cellsG_drop]; exact rd_subN h hc hm
theorem rdG_take {w : World} {A : Option Addr} {n m : Nat} {l : List G} (h : Rd w 4 A n (cellsG l)) (hm : m ≤ n) : Rd w 4 A m (cellsG (l.take m)) := by
  rw [← cellsG_take]; exact rd_takeN h hm
theorem rdI_drop {w : World} {A : Option Addr} {n c m : Nat} {l : List I} (h : Rd w 7 A n (cellsI l)) (hc : n ≤ c) (hm : m ≤ n) : Rd w 7 (if c = m then A else A.map (·.add (m * 7))) (n - m) (cellsI (l.drop m)) := by
  rw [← cellsI_drop]; exact rd_subN h hc hm
theorem rdI_take {w : World} {A : Option Addr} {n m : Nat} {l : List I} (h : Rd w 7 A n (cellsI l)) (hm : m ≤ n) : Rd w 7 A m (cellsI (l.take m)) := by
  rw [← cellsI_take]; exact rd_takeN h hm

theorem run_append_rdN {P : Program} (w : World) (t ty : TypeId) (base : Nat) (e : TypeId) (i : TypeInfo) (z : Value) (size bytes : Nat) (ht : P.underlying t = some (.slice e)) (hi : P.info? e = some i) (hz : i.zero = some z)
    (hsize : i.size = size) (hby : i.bytes = bytes) (hzs : z.cells.size = size) (hpos : 0 < size) (g : Nat) (hown : w.ownsRow base e size (.slice (some ⟨g, 0, none⟩) 0 0) 0 [])
    (A : Option Addr) (n c : Nat) (xs : List Value) (h : Rd w size A n xs) (hone : ∀ u ∈ xs, u.oneCell' = true) (h63 : n ≤ maxLen) (hbytes : n * bytes ≤ 140737488355328) (hbase : base ≤ w.heap.size) :
    ∃ v' w', (Builtin.append_ #[t, t] ty #[.slice (some ⟨g, 0, none⟩) 0 0, .slice A n c]).run P w = .ok v' w' ∧ w'.ownsRow base e size v' n xs ∧ w.grownBy w' (some g) := by
  by_cases h0 : 0 < n
  · obtain ⟨b, off, rfl, hb, hx⟩ := h.2 h0
    obtain ⟨v', w', hr, h2, h3, _, _⟩ := run_append_own_at (P := P) w base t ty e i z size bytes ht hi hz hsize hby hzs hpos _ 0 [] hown ⟨b, off, none⟩ n c xs h.1 (fun j u hj => by rw [addr_add]; exact hx j u hj) hone (by omega) (by simpa using hbytes) hbase
    refine ⟨v', w', hr, ?_, h3⟩
    simpa using h2
  · obtain rfl : n = 0 := by omega
    have hl : xs = [] := List.length_eq_zero_iff.1 (by have := h.1; omega)
    have hs : Src P i.size t (.slice A 0 c) 0 [] w := by
      cases A with
      | none => exact Src.ofNil w ht c
      | some a => exact Src.ofSlice w ht a 0 c [] (by simp) (fun j u hj => by cases hj) (fun u hu => by cases hu)
    refine ⟨_, w, run_append_nothing w t t ty e i ht hi (some ⟨g, 0, none⟩) 0 0 (Nat.le_refl _) _ hs, ?_, only_refl _ _⟩
    rw [hl]
    exact hown
theorem wp_append_rdN {P : Program} (w : World) {o : Oper} {a : Act} {K : Act → World → Prop} {Q : Exit → Act → World → Prop} (s x : Operand) (t : TypeId)
    (ho : o.op = .call { callee := .builtin .append, args := #[s, x], argTypes := #[t, t] })
    (base : Nat) (e : TypeId) (i : TypeInfo) (z : Value) (size bytes : Nat) (ht : P.underlying t = some (.slice e)) (hi : P.info? e = some i) (hz : i.zero = some z)
    (hsize : i.size = size) (hby : i.bytes = bytes) (hzs : z.cells.size = size) (hpos : 0 < size) (g : Nat) (hs : a.eval s = .slice (some ⟨g, 0, none⟩) 0 0) (hown : w.ownsRow base e size (.slice (some ⟨g, 0, none⟩) 0 0) 0 [])
    (A : Option Addr) (n c : Nat) (hx : a.eval x = .slice A n c) (xs : List Value) (h : Rd w size A n xs) (hone : ∀ u ∈ xs, u.oneCell' = true) (h63 : n ≤ maxLen) (hbytes : n * bytes ≤ 140737488355328) (hbase : base ≤ w.heap.size)
    (hk : ∀ A' c' w', w'.ownsRow base e size (.slice A' n c') n xs → w.grownBy w' (some g) → K (a.put o.dst (.slice A' n c')) w') : o.wp P a w K Q := by
  obtain ⟨v', w', hr, h2, h3⟩ := run_append_rdN (P := P) w t o.type base e i z size bytes ht hi hz hsize hby hzs hpos g hown A n c xs h hone h63 hbytes hbase
  obtain ⟨A', c', rfl, _, _⟩ := own_form h2
  unfold Oper.wp execOp
  simp only [ho, resolve, invoke, builtin, Sem.run_bind, Sem.run_pure, Result.andThen_ok, List.map_toArray, List.map_cons, List.map_nil, hs, hx, hr]
  exact hk A' c' w' h2 h3
theorem one_ints (l : List Int) : ∀ u ∈ cellsN l, u.oneCell' = true := by
  intro u hu
  simp only [cellsN, List.mem_map] at hu
  obtain ⟨x, _, rfl⟩ := hu
  rfl
theorem one_items (l : List I) : ∀ u ∈ cellsI l, u.oneCell' = true := by
  intro u hu
  simp only [cellsI, List.mem_flatMap] at hu
  obtain ⟨x, _, hu⟩ := hu
  simp [I.cells] at hu
  rcases hu with rfl | rfl | rfl | rfl | rfl | rfl | rfl <;> rfl
end Go.Proofs.Ytocaonlmlafjmaa

/- Small words on what a write to one own row leaves. No condition. -/
namespace Go.Proofs.Ytocaonlmlafjmaa
open Go.RowKit
set_option linter.unusedVariables false
set_option linter.unusedSimpArgs false
theorem own_apart' {a b : Value} (h : ∀ k, a.ownBlock = some k → b.ownBlock = some k → False) : a.ownBlock = none ∨ a.ownBlock ≠ b.ownBlock := by
  cases h1 : a.ownBlock with
  | none => exact .inl rfl
  | some k => exact .inr fun e => h k h1 e.symm
theorem own_not' {a : Value} {g : Nat} (ha : ∀ k, a.ownBlock = some k → k ≠ g) : a.ownBlock = none ∨ a.ownBlock ≠ some g := by
  cases h : a.ownBlock with
  | none => exact .inl rfl
  | some k => exact .inr fun e => ha k h (Option.some.inj e)
theorem below_of_only' {a b : World} {B g : Nat} (h : a.grownBy b (some g)) (hB : B ≤ a.heap.size) (hg : B ≤ g) : Below B a b := Below.only (Below.refl _ _) h hB hg
theorem below_of_row' {a b : World} {B : Nat} {v : Value} (h : a.grownBy b v.ownBlock) (hB : B ≤ a.heap.size) (hg : ∀ k, v.ownBlock = some k → B ≤ k) : Below B a b := (Below.refl _ _).grown h hB hg
end Go.Proofs.Ytocaonlmlafjmaa

/- How a law's arguments open, at this seat's type numbers. No condition. -/
namespace Go.Proofs.Ytocaonlmlafjmaa
open Go.RowKit Go.ChangeShapes Go.WideShapes Go.Deep
set_option linter.unusedVariables false
set_option linter.unusedSimpArgs false
set_option maxRecDepth 100000

section
variable {H : Type} {enc : TypeId × Value → H} {w : World} {base : Nat} {spare : Nat → Bool} {held : Bool}
structure Byte where
  z : Int
  h : 0 ≤ z ∧ z ≤ 255
instance : Inhabited Byte := ⟨⟨0, by omega⟩⟩
theorem cellsB_of (l : List Byte) : (l.flatMap fun b => [Value.int .u8 b.z]) = cellsB (l.map Byte.z) := by
  induction l with
  | nil => rfl
  | cons a l ih => simp [cellsB] at ih ⊢; exact ih
theorem open_bytes {r : Reach} {b0 : Nat} {v : Value} {d : DataW H} {ps : List MemPlace} (hv : Value.okWide Try.prog w r b0 32 v) (h : DataW.Trod enc Try.prog w base spare held 32 v d ps) :
    ∃ A n c l, v = .slice A n c ∧ n ≤ c ∧ c ≤ maxLen ∧ List.length l = n ∧ Rd w 1 A n (cellsB l) ∧ ∀ z ∈ l, 0 ≤ z ∧ z ≤ 255 := by
  obtain ⟨A, n, c, l, h1, h2, h3, h4, h5⟩ := open_flat (α := Byte) (fun b => [Value.int .u8 b.z]) 1 (by omega) (fun _ => rfl) Try.underlying32 (by kernel_rfl)
    (fun n cs y hy => by
      obtain ⟨z, hz, _, hw⟩ := DataW.trod_int Try.underlying5 hy
      refine ⟨⟨z, ?_⟩, hz⟩
      simp [Lit.wf, IntKind.min, IntKind.max, IntKind.signed, IntKind.bits] at hw
      exact hw) hv h
  exact ⟨A, n, c, l.map Byte.z, h1, h2, h3, by simpa using h4, by rw [← cellsB_of]; exact h5, fun z hz => by
    obtain ⟨b, _, rfl⟩ := List.mem_map.1 hz
    exact b.h⟩
theorem lawsG {n : Nat} {cs : List Value} {y : DataW H × List MemPlace} (h : DataW.trod enc Try.prog w base spare held n 23 cs = some y) : ∃ g : G, cs = g.cells :=
  trod_G Try.underlying23 (by kernel_rfl) Try.underlying3 (by kernel_rfl) (fun j hj => by
    match j, hj with
    | 0, _ => exact ⟨_, rfl, rfl, rfl⟩
    | 1, _ => exact ⟨_, rfl, rfl, rfl⟩
    | 2, _ => exact ⟨_, rfl, rfl, rfl⟩
    | 3, _ => exact ⟨_, rfl, rfl, rfl⟩) h
theorem open_Gv {r : Reach} {b0 : Nat} {v : Value} {d : DataW H} {ps : List MemPlace} (hv : Value.okWide Try.prog w r b0 23 v) (h : DataW.Trod enc Try.prog w base spare held 23 v d ps) :
    ∃ g : G, v = .agg #[.int .i64 g.w, .int .i64 g.st, .int .i64 g.sh, .int .i64 g.o] := by
  obtain ⟨cs, rfl, hsz⟩ := okWide_struct Try.underlying23 hv
  obtain ⟨fuel, hf⟩ := h
  obtain ⟨g, hg⟩ := lawsG hf
  refine ⟨g, ?_⟩
  have e : cs.toList = g.cells := hg
  have e2 : cs = g.cells.toArray := by rw [← e]
  rw [e2]
  rfl
theorem lawsI {n : Nat} {cs : List Value} {y : DataW H × List MemPlace} (h : DataW.trod enc Try.prog w base spare held n 25 cs = some y) : ∃ i : I, cs = i.cells :=
  trod_I (tg := 23) Try.underlying25 (by kernel_rfl) Try.underlying3 (by kernel_rfl) Try.underlying4 (by kernel_rfl) Try.underlying23 (by kernel_rfl) ⟨_, _, _, _, rfl, rfl, rfl, rfl, rfl, rfl, rfl, rfl, rfl⟩ (fun j hj => by
    match j, hj with
    | 0, _ => exact ⟨_, rfl, rfl, rfl⟩
    | 1, _ => exact ⟨_, rfl, rfl, rfl⟩
    | 2, _ => exact ⟨_, rfl, rfl, rfl⟩
    | 3, _ => exact ⟨_, rfl, rfl, rfl⟩) h
theorem open_Iv {r : Reach} {b0 : Nat} {v : Value} {d : DataW H} {ps : List MemPlace} (hv : Value.okWide Try.prog w r b0 25 v) (h : DataW.Trod enc Try.prog w base spare held 25 v d ps) :
    ∃ i : I, v = .agg #[.int .i64 i.k, .int .i64 i.g.w, .int .i64 i.g.st, .int .i64 i.g.sh, .int .i64 i.g.o, .int .i64 i.c, .bool i.m] := by
  obtain ⟨cs, rfl, hsz⟩ := okWide_struct Try.underlying25 hv
  obtain ⟨fuel, hf⟩ := h
  obtain ⟨i, hi⟩ := lawsI hf
  refine ⟨i, ?_⟩
  have e : cs.toList = i.cells := hi
  have e2 : cs = i.cells.toArray := by rw [← e]
  rw [e2]
  rfl
theorem open_Is {r : Reach} {b0 : Nat} {v : Value} {d : DataW H} {ps : List MemPlace} (hv : Value.okWide Try.prog w r b0 36 v) (h : DataW.Trod enc Try.prog w base spare held 36 v d ps) :
    ∃ A n c l, v = .slice A n c ∧ n ≤ c ∧ c ≤ maxLen ∧ List.length l = n ∧ Rd w 7 A n (cellsI l) :=
  open_flat (α := I) I.cells 7 (by omega) (fun _ => rfl) Try.underlying36 (by kernel_rfl) (fun n cs y hy => lawsI hy) hv h
structure Txt where
  s : ByteArray
  h : s.size ≤ maxLen
instance : Inhabited Txt := ⟨⟨ByteArray.empty, by decide⟩⟩
theorem cellsS_of (l : List Txt) : (l.flatMap fun b => [Value.string b.s]) = cellsS (l.map Txt.s) := by
  induction l with
  | nil => rfl
  | cons a l ih => simp [cellsS] at ih ⊢; exact ih
theorem open_Ss {r : Reach} {b0 : Nat} {v : Value} {d : DataW H} {ps : List MemPlace} (hv : Value.okWide Try.prog w r b0 49 v) (h : DataW.Trod enc Try.prog w base spare held 49 v d ps) :
    ∃ A n c l, v = .slice A n c ∧ n ≤ c ∧ c ≤ maxLen ∧ List.length l = n ∧ Rd w 1 A n (cellsS l) ∧ ∀ s ∈ l, s.size ≤ maxLen := by
  obtain ⟨A, n, c, l, h1, h2, h3, h4, h5⟩ := open_flat (α := Txt) (fun b => [Value.string b.s]) 1 (by omega) (fun _ => rfl) Try.underlying49 (by kernel_rfl)
    (fun n cs y hy => by
      obtain ⟨z, hz, _, hw⟩ := DataW.trod_string Try.underlying9 hy
      exact ⟨⟨z, hw⟩, hz⟩) hv h
  exact ⟨A, n, c, l.map Txt.s, h1, h2, h3, by simpa using h4, by rw [← cellsS_of]; exact h5, fun z hz => by
    obtain ⟨b, _, rfl⟩ := List.mem_map.1 hz
    exact b.h⟩
end
end Go.Proofs.Ytocaonlmlafjmaa

/- The walks through the tests of one and of two letters. No condition. -/
namespace Go.Proofs.Ytocaonlmlafjmaa
open Go.RowKit
set_option linter.unusedVariables false
set_option linter.unusedSimpArgs false

theorem isSmall_any (c : Int) (w : World) :
    Calls Try.prog 106 #[.int .u8 c] w fun e w' => e = .returned (.bool (isSm c)) ∧ w = w' := by
  by_cases h : 97 ≤ c
  · go_enter Try.func106, Try.ntmps106
    go_wp2
    go_ret
    exact ⟨by simp [isSm, h], rfl⟩
  · have hd : decide (97 ≤ c) = false := by simpa using h
    have e : isSm c = false := by simp [isSm]; omega
    rw [e]; clear e
    go_enter Try.func106, Try.ntmps106
    go_wp2
    go_ret
    exact ⟨rfl, rfl⟩
theorem isDigit_any (c : Int) (w : World) :
    Calls Try.prog 124 #[.int .u8 c] w fun e w' => e = .returned (.bool (isDg c)) ∧ w = w' := by
  by_cases h : 48 ≤ c
  · go_enter Try.func124, Try.ntmps124
    go_wp2
    go_ret
    exact ⟨by simp [isDg, h], rfl⟩
  · have hd : decide (48 ≤ c) = false := by simpa using h
    have e : isDg c = false := by simp [isDg]; omega
    rw [e]; clear e
    go_enter Try.func124, Try.ntmps124
    go_wp2
    go_ret
    exact ⟨rfl, rfl⟩
end Go.Proofs.Ytocaonlmlafjmaa

/- The walks through the validity of a word. No condition. -/
namespace Go.Proofs.Ytocaonlmlafjmaa
open Go.RowKit
set_option linter.unusedVariables false
set_option linter.unusedSimpArgs false

theorem specWord (s : ByteArray) (w : World) (hs : s.size ≤ maxLen) :
    Calls Try.prog 84 #[.string s] w fun e w' => e = .returned (.bool (wordB s)) ∧ w = w' := by
  unfold maxLen at hs
  go_enter Try.func84, Try.ntmps84
  go_wp2
  go_loop [3] (fun i => ∃ k : Nat, k ≤ s.size ∧ i = .int .i64 k ∧ ((bl s).take k).all isSm = true) (fun i => s.size - (intOf i).toNat)
  case atStart => exact ⟨0, Nat.zero_le _, rfl, rfl⟩
  case round =>
    obtain ⟨k, hk, rfl, hall⟩ := hrel
    have hall' := hide hall
    clear hall
    by_cases hlt : k < s.size
    · have hc := hide (bl_at s k hlt)
      by_cases h1 : ((s[k].toNat : Nat) : Int) < 97
      · have e := hide (wordB_no hc.out (by simp [isSm]; omega))
        go_wp2
        go_ret
        exact ⟨by rw [e.out]; rfl, rfl⟩
      · by_cases h2 : 122 < ((s[k].toNat : Nat) : Int)
        · have e := hide (wordB_no hc.out (by simp [isSm]; omega))
          have h1' : decide (((s[k].toNat : Nat) : Int) < 97) = false := by simpa using h1
          clear h1
          go_wp2
          go_ret
          exact ⟨by rw [e.out]; rfl, rfl⟩
        · have st := hide (wordB_step hall'.out hc.out (by simp [isSm]; omega))
          have h1' : decide (((s[k].toNat : Nat) : Int) < 97) = false := by simpa using h1
          have h2' : decide (122 < ((s[k].toNat : Nat) : Int)) = false := by simpa using h2
          clear h1 h2
          go_wp2
          go_round
          case rel => exact ⟨k + 1, by omega, by go_num, st.out⟩
          case measure => simp [intOf]; omega
    · have e := hide (wordB_end hall'.out hlt)
      go_wp2_with (go_at_call 70; refine (l1In_any _ _ _ _).mono ?_; rintro e w' ⟨rfl, rfl⟩)
      go_ret
      exact ⟨by rw [e.out]; rfl, rfl⟩
theorem implWord (s : ByteArray) (w : World) (hs : s.size ≤ maxLen) :
    Calls Try.prog 85 #[.string s] w fun e w' => e = .returned (.bool (wordB s)) ∧ w = w' := by
  unfold maxLen at hs
  go_enter Try.func85, Try.ntmps85
  go_wp2
  go_loop [6] (fun i => ∃ k : Nat, k ≤ s.size ∧ i = .int .i64 k ∧ ((bl s).take k).all isSm = true) (fun i => s.size - (intOf i).toNat)
  case atStart => exact ⟨0, Nat.zero_le _, rfl, rfl⟩
  case round =>
    obtain ⟨k, hk, rfl, hall⟩ := hrel
    have hall' := hide hall
    clear hall
    by_cases hlt : k < s.size
    · have hc := hide (bl_at s k hlt)
      cases hv : isSm ((s[k].toNat : Nat) : Int) with
      | false =>
        have e := hide (wordB_no hc.out hv)
        go_wp2_with (go_at_call 106; refine (isSmall_any _ _).mono ?_; rintro e w' ⟨rfl, rfl⟩)
        go_ret
        exact ⟨by rw [e.out]; rfl, rfl⟩
      | true =>
        have st := hide (wordB_step hall'.out hc.out hv)
        go_wp2_with (go_at_call 106; refine (isSmall_any _ _).mono ?_; rintro e w' ⟨rfl, rfl⟩)
        go_round
        case rel => exact ⟨k + 1, by omega, by go_num, st.out⟩
        case measure => simp [intOf]; omega
    · have e := hide (wordB_end hall'.out hlt)
      go_wp2_with (go_at_call 82; refine (in_any _ _ _ _).mono ?_; rintro e w' ⟨rfl, rfl⟩)
      go_ret
      exact ⟨by rw [e.out]; rfl, rfl⟩
end Go.Proofs.Ytocaonlmlafjmaa

/- The walks through the validity of a list of words. Condition: the slice reads as the list. -/
namespace Go.Proofs.Ytocaonlmlafjmaa
open Go.RowKit
set_option linter.unusedVariables false
set_option linter.unusedSimpArgs false

theorem words_step {l : List ByteArray} {k : Nat} {i : ByteArray} (hall : (l.take k).all wordB = true) (hi : l[k]? = some i) (h : wordB i = true) : (l.take (k + 1)).all wordB = true := by
  rw [all_snoc _ _ _ _ hi, hall, h]; rfl
theorem words_no {l : List ByteArray} {k : Nat} {i : ByteArray} (hi : l[k]? = some i) (h : wordB i = false) : words12 l = false := by
  unfold words12; rw [all_false_of hi h]; rfl
theorem words_end {l : List ByteArray} {k n : Nat} (hall : (l.take k).all wordB = true) (hl : l.length = n) (hk : ¬ k < n) : words12 l = decide ((n : Int) ≤ 12) := by
  rw [List.take_of_length_le (by omega)] at hall
  unfold words12
  rw [hall, hl, Bool.true_and]
  exact decide_eq_decide.2 (by omega)
theorem specWords (A : Option Addr) (n c : Nat) (l : List ByteArray) (w : World) (hn : n ≤ maxLen) (hl : l.length = n) (hz : ∀ s ∈ l, s.size ≤ maxLen) (h : Rd w 1 A n (cellsS l)) :
    Calls Try.prog 40 #[.slice A n c] w fun e w' => e = .returned (.bool (words12 l)) ∧ w = w' := by
  have hz' := hide hz
  have hl' := hide hl
  clear hz hl
  unfold maxLen at hn
  go_enter Try.func40, Try.ntmps40
  go_wp2
  go_loop [3] (fun i => ∃ k : Nat, k ≤ n ∧ i = .int .i64 k ∧ (l.take k).all wordB = true) (fun i => n - (intOf i).toNat)
  case atStart => exact ⟨0, Nat.zero_le _, rfl, rfl⟩
  case round =>
    obtain ⟨k, hk, rfl, hall⟩ := hrel
    have hall' := hide hall
    clear hall
    by_cases hlt : k < n
    · obtain ⟨b, off, x, rfl, hbs, hx, c0⟩ := h.str hl'.out hlt
      have hx' := hide hx
      have hxz := hide (hz'.out x (List.mem_of_getElem? hx))
      clear hx
      cases hv : wordB x with
      | false =>
        have e := hide (words_no hx'.out hv)
        go_wp2_with (go_at_call 84; refine (specWord x _ hxz.out).mono ?_; rintro e w' ⟨rfl, rfl⟩)
        go_ret
        exact ⟨by rw [e.out]; rfl, rfl⟩
      | true =>
        have st := hide (words_step hall'.out hx'.out hv)
        go_wp2_with (go_at_call 84; refine (specWord x _ hxz.out).mono ?_; rintro e w' ⟨rfl, rfl⟩)
        go_round
        case rel => exact ⟨k + 1, by omega, by go_num, st.out⟩
        case measure => simp [intOf]; omega
    · have e := hide (words_end hall'.out hl'.out hlt)
      go_wp2
      go_ret
      exact ⟨by rw [e.out]; rfl, rfl⟩
theorem implWords (A : Option Addr) (n c : Nat) (l : List ByteArray) (w : World) (hn : n ≤ maxLen) (hl : l.length = n) (hz : ∀ s ∈ l, s.size ≤ maxLen) (h : Rd w 1 A n (cellsS l)) :
    Calls Try.prog 42 #[.slice A n c] w fun e w' => e = .returned (.bool (words12 l)) ∧ w = w' := by
  have hz' := hide hz
  have hl' := hide hl
  clear hz hl
  unfold maxLen at hn
  go_enter Try.func42, Try.ntmps42
  go_wp2
  go_loop [7] (fun i => ∃ k : Nat, k ≤ n ∧ i = .int .i64 k ∧ (l.take k).all wordB = true) (fun i => n - (intOf i).toNat)
  case atStart => exact ⟨0, Nat.zero_le _, rfl, rfl⟩
  case round =>
    obtain ⟨k, hk, rfl, hall⟩ := hrel
    have hall' := hide hall
    clear hall
    by_cases hlt : k < n
    · obtain ⟨b, off, x, rfl, hbs, hx, c0⟩ := h.str hl'.out hlt
      have hx' := hide hx
      have hxz := hide (hz'.out x (List.mem_of_getElem? hx))
      clear hx
      cases hv : wordB x with
      | false =>
        have e := hide (words_no hx'.out hv)
        go_wp2_with (go_at_call 85; refine (implWord x _ hxz.out).mono ?_; rintro e w' ⟨rfl, rfl⟩)
        go_ret
        exact ⟨by rw [e.out]; rfl, rfl⟩
      | true =>
        have st := hide (words_step hall'.out hx'.out hv)
        go_wp2_with (go_at_call 85; refine (implWord x _ hxz.out).mono ?_; rintro e w' ⟨rfl, rfl⟩)
        go_round
        case rel => exact ⟨k + 1, by omega, by go_num, st.out⟩
        case measure => simp [intOf]; omega
    · have e := hide (words_end hall'.out hl'.out hlt)
      go_wp2
      go_ret
      exact ⟨by rw [e.out]; rfl, rfl⟩
end Go.Proofs.Ytocaonlmlafjmaa

/- A list of items that is marked: its own block alone is written. Condition: the slice is a block of the call's own. -/
namespace Go.Proofs.Ytocaonlmlafjmaa
open Go.RowKit
set_option linter.unusedVariables false
set_option linter.unusedSimpArgs false
set_option maxRecDepth 100000

set_option maxHeartbeats 1000000 in
theorem markItemS_own (g n m k : Nat) (l : List I) (w : World) (hm : m = n) (hn : n ≤ 10000000) (hk : k ≤ 100000000) (hl : l.length = n) (h : Blk w g 29 (cellsI l).toArray) :
    Calls Try.prog 48 #[.slice (some ⟨g, 0, none⟩) n m, .int .i64 k] w fun e w' => e = .returned (.int .i64 ((k + 7 * n : Nat) : Int)) ∧ w.grownBy w' (some g) := by
  have hl' := hide hl
  clear hl
  go_enter Try.func48, Try.ntmps48
  go_wp2
  go_loopw [1, 5] (fun q i wr => ∃ (j : Nat) (L : List I), j ≤ n ∧ i = .int .i64 j ∧ q = .int .i64 ((k + 7 * j : Nat) : Int) ∧ L.length = n ∧ Blk wr g 29 (cellsI L).toArray ∧ w.grownBy wr (some g)) (fun _ i _ => n - (intOf i).toNat)
  case atStart => exact ⟨0, l, Nat.zero_le _, rfl, rfl, hl'.out, h, only_refl _ _⟩
  case round =>
    obtain ⟨j, L, hj, rfl, rfl, hL, hb, hg⟩ := hrel
    have hg' := hide hg
    have hL' := hide hL
    clear hg hL
    by_cases hlt : j < n
    · have hat : L[j]? = some (L[j]'(by have := hL'.out; omega)) := List.getElem?_eq_getElem _
      generalize L[j]'(by have := hL'.out; omega) = x at hat
      obtain ⟨⟨c0, c1, c2, c3, c4, c5, c6⟩, zz⟩ := hb.itemAt hat
      have z0 := zz (j * 7)
      have z1 := zz (j * 7 + 1)
      have z2 := zz (j * 7 + 2)
      have z3 := zz (j * 7 + 3)
      have z4 := zz (j * 7 + 4)
      have z5 := zz (j * 7 + 5)
      have z6 := zz (j * 7 + 6)
      clear zz
      have hat' := hide hat
      have hb' := hide hb
      have hsz := hb.lt
      obtain ⟨q, hq⟩ : ∃ q : Nat, q = k + 7 * j := ⟨_, rfl⟩
      have hq' := hide hq
      rw [← hq]
      have hqb : q ≤ 200000000 := by omega
      clear hat hb hq
      go_wp2
      go_roundw
      case rel =>
        have hq := hq'.out
        refine ⟨j + 1, L.set j ⟨(q : Int), ⟨(q : Int) + 1, (q : Int) + 1 + 1, (q : Int) + 1 + 1 + 1, (q : Int) + 1 + 1 + 1 + 1⟩, (q : Int) + 1 + 1 + 1 + 1 + 1, ?_⟩, by omega, by go_num, by congr 1; omega, by simp [hL'.out], ?_, ?_⟩
        rotate_left
        · exact Blk.setI (y := ⟨(q : Int), ⟨(q : Int) + 1, (q : Int) + 1 + 1, (q : Int) + 1 + 1 + 1, (q : Int) + 1 + 1 + 1 + 1⟩, (q : Int) + 1 + 1 + 1 + 1 + 1, _⟩) hb'.out hat'.out
        · exact only_setCell (only_setCell (only_setCell (only_setCell (only_setCell (only_setCell (only_setCell hg'.out (.inl rfl) _) (.inl rfl) _) (.inl rfl) _) (.inl rfl) _) (.inl rfl) _) (.inl rfl) _) (.inl rfl) _
      case measure => simp [intOf]; omega
    · obtain rfl : n = j := by omega
      clear hb
      go_wp2
      go_ret
      exact ⟨rfl, hg'.out⟩
end Go.Proofs.Ytocaonlmlafjmaa
