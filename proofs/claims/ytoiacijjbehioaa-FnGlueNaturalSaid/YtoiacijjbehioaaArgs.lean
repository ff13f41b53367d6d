/- How a law's arguments open, at this seat's type numbers. No condition. -/
import Derived.Test.YtoiacijjbehioaaOpen
namespace Go.Proofs.Ytoiacijjbehioaa
open Go.RowKit Go.ChangeShapes Go.WideShapes Go.Deep
set_option linter.unusedVariables false
set_option linter.unusedSimpArgs false
set_option maxRecDepth 100000

section
variable {H : Type} {enc : TypeId × Value → H} {w : World} {base : Nat} {spare : Nat → Bool} {held : Bool}
structure Byte where
  z : Int
  h : 0 ≤ z ∧ z ≤ 255
instance : Inhabited Byte := ⟨⟨0, by omega⟩⟩
theorem cellsB_of (l : List Byte) : (l.flatMap fun b => [Value.int .u8 b.z]) = cellsB (l.map Byte.z) := by
  induction l with
  | nil => rfl
  | cons a l ih => simp [cellsB] at ih ⊢; exact ih
theorem open_bytes {r : Reach} {b0 : Nat} {v : Value} {d : DataW H} {ps : List MemPlace} (hv : Value.okWide Try.prog w r b0 29 v) (h : DataW.Trod enc Try.prog w base spare held 29 v d ps) :
    ∃ A n c l, v = .slice A n c ∧ n ≤ c ∧ c ≤ maxLen ∧ List.length l = n ∧ Rd w 1 A n (cellsB l) ∧ ∀ z ∈ l, 0 ≤ z ∧ z ≤ 255 := by
  obtain ⟨A, n, c, l, h1, h2, h3, h4, h5⟩ := open_flat (α := Byte) (fun b => [Value.int .u8 b.z]) 1 (by omega) (fun _ => rfl) Try.underlying29 (by kernel_rfl)
    (fun n cs y hy => by
      obtain ⟨z, hz, _, hw⟩ := DataW.trod_int Try.underlying5 hy
      refine ⟨⟨z, ?_⟩, hz⟩
      simp [Lit.wf, IntKind.min, IntKind.max, IntKind.signed, IntKind.bits] at hw
      exact hw) hv h
  exact ⟨A, n, c, l.map Byte.z, h1, h2, h3, by simpa using h4, by rw [← cellsB_of]; exact h5, fun z hz => by
    obtain ⟨b, _, rfl⟩ := List.mem_map.1 hz
    exact b.h⟩
theorem lawsG {n : Nat} {cs : List Value} {y : DataW H × List MemPlace} (h : DataW.trod enc Try.prog w base spare held n 24 cs = some y) : ∃ g : G, cs = g.cells :=
  trod_G Try.underlying24 (by kernel_rfl) Try.underlying3 (by kernel_rfl) (fun j hj => by
    match j, hj with
    | 0, _ => exact ⟨_, rfl, rfl, rfl⟩
    | 1, _ => exact ⟨_, rfl, rfl, rfl⟩
    | 2, _ => exact ⟨_, rfl, rfl, rfl⟩
    | 3, _ => exact ⟨_, rfl, rfl, rfl⟩) h
theorem open_Gv {r : Reach} {b0 : Nat} {v : Value} {d : DataW H} {ps : List MemPlace} (hv : Value.okWide Try.prog w r b0 24 v) (h : DataW.Trod enc Try.prog w base spare held 24 v d ps) :
    ∃ g : G, v = .agg #[.int .i64 g.w, .int .i64 g.st, .int .i64 g.sh, .int .i64 g.o] := by
  obtain ⟨cs, rfl, hsz⟩ := okWide_struct Try.underlying24 hv
  obtain ⟨fuel, hf⟩ := h
  obtain ⟨g, hg⟩ := lawsG hf
  refine ⟨g, ?_⟩
  have e : cs.toList = g.cells := hg
  have e2 : cs = g.cells.toArray := by rw [← e]
  rw [e2]
  rfl
theorem open_Gs {r : Reach} {b0 : Nat} {v : Value} {d : DataW H} {ps : List MemPlace} (hv : Value.okWide Try.prog w r b0 32 v) (h : DataW.Trod enc Try.prog w base spare held 32 v d ps) :
    ∃ A n c l, v = .slice A n c ∧ n ≤ c ∧ c ≤ maxLen ∧ List.length l = n ∧ Rd w 4 A n (cellsG l) :=
  open_flat (α := G) G.cells 4 (by omega) (fun _ => rfl) Try.underlying32 (by kernel_rfl) (fun n cs y hy => lawsG hy) hv h
structure Txt where
  s : ByteArray
  h : s.size ≤ maxLen
instance : Inhabited Txt := ⟨⟨ByteArray.empty, by decide⟩⟩
theorem cellsS_of (l : List Txt) : (l.flatMap fun b => [Value.string b.s]) = cellsS (l.map Txt.s) := by
  induction l with
  | nil => rfl
  | cons a l ih => simp [cellsS] at ih ⊢; exact ih
end
end Go.Proofs.Ytoiacijjbehioaa
