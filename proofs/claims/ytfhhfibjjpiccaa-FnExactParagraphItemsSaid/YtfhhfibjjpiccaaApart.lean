/- Small words on what a write to one own row leaves. No condition. -/
import Derived.Test.YtfhhfibjjpiccaaBase
namespace Go.Proofs.Ytfhhfibjjpiccaa
open Go.RowKit
set_option linter.unusedVariables false
set_option linter.unusedSimpArgs false
theorem own_apart' {a b : Value} (h : ∀ k, a.ownBlock = some k → b.ownBlock = some k → False) : a.ownBlock = none ∨ a.ownBlock ≠ b.ownBlock := by
  cases h1 : a.ownBlock with
  | none => exact .inl rfl
  | some k => exact .inr fun e => h k h1 e.symm
theorem own_not' {a : Value} {g : Nat} (ha : ∀ k, a.ownBlock = some k → k ≠ g) : a.ownBlock = none ∨ a.ownBlock ≠ some g := by
  cases h : a.ownBlock with
  | none => exact .inl rfl
  | some k => exact .inr fun e => ha k h (Option.some.inj e)
theorem below_of_only' {a b : World} {B g : Nat} (h : a.grownBy b (some g)) (hB : B ≤ a.heap.size) (hg : B ≤ g) : Below B a b := Below.only (Below.refl _ _) h hB hg
theorem below_of_row' {a b : World} {B : Nat} {v : Value} (h : a.grownBy b v.ownBlock) (hB : B ≤ a.heap.size) (hg : ∀ k, v.ownBlock = some k → B ≤ k) : Below B a b := (Below.refl _ _).grown h hB hg
end Go.Proofs.Ytfhhfibjjpiccaa
