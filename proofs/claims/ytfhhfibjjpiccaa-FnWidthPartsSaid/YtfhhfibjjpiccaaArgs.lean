/- How a law's arguments open, at this seat's type numbers. No condition. -/
import Derived.Test.YtfhhfibjjpiccaaOpen
namespace Go.Proofs.Ytfhhfibjjpiccaa
open Go.RowKit Go.ChangeShapes Go.WideShapes Go.Deep
set_option linter.unusedVariables false
set_option linter.unusedSimpArgs false
set_option maxRecDepth 100000

section
variable {H : Type} {enc : TypeId × Value → H} {w : World} {base : Nat} {spare : Nat → Bool} {held : Bool}
structure Byte where
  z : Int
  h : 0 ≤ z ∧ z ≤ 255
instance : Inhabited Byte := ⟨⟨0, by omega⟩⟩
theorem cellsB_of (l : List Byte) : (l.flatMap fun b => [Value.int .u8 b.z]) = cellsB (l.map Byte.z) := by
  induction l with
  | nil => rfl
  | cons a l ih => simp [cellsB] at ih ⊢; exact ih
theorem open_bytes {r : Reach} {b0 : Nat} {v : Value} {d : DataW H} {ps : List MemPlace} (hv : Value.okWide Try.prog w r b0 22 v) (h : DataW.Trod enc Try.prog w base spare held 22 v d ps) :
    ∃ A n c l, v = .slice A n c ∧ n ≤ c ∧ c ≤ maxLen ∧ List.length l = n ∧ Rd w 1 A n (cellsB l) ∧ ∀ z ∈ l, 0 ≤ z ∧ z ≤ 255 := by
  obtain ⟨A, n, c, l, h1, h2, h3, h4, h5⟩ := open_flat (α := Byte) (fun b => [Value.int .u8 b.z]) 1 (by omega) (fun _ => rfl) Try.underlying22 (by kernel_rfl)
    (fun n cs y hy => by
      obtain ⟨z, hz, _, hw⟩ := DataW.trod_int Try.underlying5 hy
      refine ⟨⟨z, ?_⟩, hz⟩
      simp [Lit.wf, IntKind.min, IntKind.max, IntKind.signed, IntKind.bits] at hw
      exact hw) hv h
  exact ⟨A, n, c, l.map Byte.z, h1, h2, h3, by simpa using h4, by rw [← cellsB_of]; exact h5, fun z hz => by
    obtain ⟨b, _, rfl⟩ := List.mem_map.1 hz
    exact b.h⟩
theorem lawsG {n : Nat} {cs : List Value} {y : DataW H × List MemPlace} (h : DataW.trod enc Try.prog w base spare held n 67 cs = some y) : ∃ g : G, cs = g.cells :=
  trod_G Try.underlying67 (by kernel_rfl) Try.underlying3 (by kernel_rfl) (fun j hj => by
    match j, hj with
    | 0, _ => exact ⟨_, rfl, rfl, rfl⟩
    | 1, _ => exact ⟨_, rfl, rfl, rfl⟩
    | 2, _ => exact ⟨_, rfl, rfl, rfl⟩
    | 3, _ => exact ⟨_, rfl, rfl, rfl⟩) h
theorem open_Gv {r : Reach} {b0 : Nat} {v : Value} {d : DataW H} {ps : List MemPlace} (hv : Value.okWide Try.prog w r b0 67 v) (h : DataW.Trod enc Try.prog w base spare held 67 v d ps) :
    ∃ g : G, v = .agg #[.int .i64 g.w, .int .i64 g.st, .int .i64 g.sh, .int .i64 g.o] := by
  obtain ⟨cs, rfl, hsz⟩ := okWide_struct Try.underlying67 hv
  obtain ⟨fuel, hf⟩ := h
  obtain ⟨g, hg⟩ := lawsG hf
  refine ⟨g, ?_⟩
  have e : cs.toList = g.cells := hg
  have e2 : cs = g.cells.toArray := by rw [← e]
  rw [e2]
  rfl
theorem lawsI {n : Nat} {cs : List Value} {y : DataW H × List MemPlace} (h : DataW.trod enc Try.prog w base spare held n 69 cs = some y) : ∃ i : I, cs = i.cells :=
  trod_I (tg := 67) Try.underlying69 (by kernel_rfl) Try.underlying3 (by kernel_rfl) Try.underlying4 (by kernel_rfl) Try.underlying67 (by kernel_rfl) ⟨_, _, _, _, rfl, rfl, rfl, rfl, rfl, rfl, rfl, rfl, rfl⟩ (fun j hj => by
    match j, hj with
    | 0, _ => exact ⟨_, rfl, rfl, rfl⟩
    | 1, _ => exact ⟨_, rfl, rfl, rfl⟩
    | 2, _ => exact ⟨_, rfl, rfl, rfl⟩
    | 3, _ => exact ⟨_, rfl, rfl, rfl⟩) h
theorem open_Iv {r : Reach} {b0 : Nat} {v : Value} {d : DataW H} {ps : List MemPlace} (hv : Value.okWide Try.prog w r b0 69 v) (h : DataW.Trod enc Try.prog w base spare held 69 v d ps) :
    ∃ i : I, v = .agg #[.int .i64 i.k, .int .i64 i.g.w, .int .i64 i.g.st, .int .i64 i.g.sh, .int .i64 i.g.o, .int .i64 i.c, .bool i.m] := by
  obtain ⟨cs, rfl, hsz⟩ := okWide_struct Try.underlying69 hv
  obtain ⟨fuel, hf⟩ := h
  obtain ⟨i, hi⟩ := lawsI hf
  refine ⟨i, ?_⟩
  have e : cs.toList = i.cells := hi
  have e2 : cs = i.cells.toArray := by rw [← e]
  rw [e2]
  rfl
theorem open_Is {r : Reach} {b0 : Nat} {v : Value} {d : DataW H} {ps : List MemPlace} (hv : Value.okWide Try.prog w r b0 37 v) (h : DataW.Trod enc Try.prog w base spare held 37 v d ps) :
    ∃ A n c l, v = .slice A n c ∧ n ≤ c ∧ c ≤ maxLen ∧ List.length l = n ∧ Rd w 7 A n (cellsI l) :=
  open_flat (α := I) I.cells 7 (by omega) (fun _ => rfl) Try.underlying37 (by kernel_rfl) (fun n cs y hy => lawsI hy) hv h
structure Txt where
  s : ByteArray
  h : s.size ≤ maxLen
instance : Inhabited Txt := ⟨⟨ByteArray.empty, by decide⟩⟩
theorem cellsS_of (l : List Txt) : (l.flatMap fun b => [Value.string b.s]) = cellsS (l.map Txt.s) := by
  induction l with
  | nil => rfl
  | cons a l ih => simp [cellsS] at ih ⊢; exact ih
theorem open_Ss {r : Reach} {b0 : Nat} {v : Value} {d : DataW H} {ps : List MemPlace} (hv : Value.okWide Try.prog w r b0 33 v) (h : DataW.Trod enc Try.prog w base spare held 33 v d ps) :
    ∃ A n c l, v = .slice A n c ∧ n ≤ c ∧ c ≤ maxLen ∧ List.length l = n ∧ Rd w 1 A n (cellsS l) ∧ ∀ s ∈ l, s.size ≤ maxLen := by
  obtain ⟨A, n, c, l, h1, h2, h3, h4, h5⟩ := open_flat (α := Txt) (fun b => [Value.string b.s]) 1 (by omega) (fun _ => rfl) Try.underlying33 (by kernel_rfl)
    (fun n cs y hy => by
      obtain ⟨z, hz, _, hw⟩ := DataW.trod_string Try.underlying9 hy
      exact ⟨⟨z, hw⟩, hz⟩) hv h
  exact ⟨A, n, c, l.map Txt.s, h1, h2, h3, by simpa using h4, by rw [← cellsS_of]; exact h5, fun z hz => by
    obtain ⟨b, _, rfl⟩ := List.mem_map.1 hz
    exact b.h⟩
end
end Go.Proofs.Ytfhhfibjjpiccaa
