/- A reader opened over a code: a fresh block that reads the code's first bytes. Condition: the code's bytes can be read. -/
import Derived.Test.YtfhhfibjjpiccaaPick
namespace Go.Proofs.Ytfhhfibjjpiccaa
open Go.RowKit
set_option linter.unusedVariables false
set_option linter.unusedSimpArgs false

theorem Rd.take {w : World} {n : Nat} {A : Option Addr} {l : List Int} (h : Rd w 1 A n (cellsB l)) (hl : List.length l = n) (m : Nat) (hm : m ≤ n) : Rd w 1 A m (cellsB (l.take m)) := by
  refine ⟨?_, fun hn => ?_⟩
  · simp [cellsB]; omega
  · obtain ⟨b, off, e, hb, hc⟩ := h.2 (by omega)
    refine ⟨b, off, e, hb, fun j u hu => hc j u ?_⟩
    have e2 : cellsB (l.take m) = (cellsB l).take m := by simp [cellsB]
    rw [e2, List.getElem?_take] at hu
    split at hu
    · exact hu
    · simp at hu
def OpenP (w : World) (e : Ending) (w' : World) : Prop := e = .returned (.pointer (some ⟨w.heap.size, 0, none⟩)) ∧ RdS w' w.heap.size 0 ∧ Below w.heap.size w w'

theorem l20Open_any (w : World) (A : Option Addr) (n c : Nat) (l : List Int) (hl : List.length l = n) (hc : n ≤ c) (hn63 : n < 4611686018427387904) (h : Rd w 1 A n (cellsB l)) (h5 : ∀ z ∈ l, 0 ≤ z ∧ z ≤ 255) :
    Calls Try.prog 48 #[.slice A n c] w (OpenP w) := by
  by_cases hn : n ≤ 2000
  · have hd : decide (2000 < (n : Int)) = false := by simp; omega
    go_enter Try.func48, Try.ntmps48
    go_wp2
    go_ret
    exact ⟨rfl, ⟨A, n, c, l, Blk.new _ _ _, hn, hl, h.alloc _, h5, fun b off e h0 => by
      obtain ⟨b', off', e', hb, _⟩ := h.2 h0
      rw [e] at e'
      cases e'
      exact hb⟩, (Below.refl _ _).alloc (Nat.le_refl _) _⟩
  · have hd : decide (2000 < (n : Int)) = true := by simp; omega
    obtain ⟨b, off, rfl, hb, _⟩ := h.2 (by omega)
    go_enter Try.func48, Try.ntmps48
    go_wp2
    go_ret
    exact ⟨rfl, ⟨_, 2000, c, l.take 2000, Blk.new _ _ _, Nat.le_refl _, by simp; omega, (h.take hl 2000 (by omega)).alloc _, fun z hz => h5 z (List.mem_of_mem_take hz), fun b' off' e h0 => by
      cases e
      exact hb⟩, (Below.refl _ _).alloc (Nat.le_refl _) _⟩
def OddP (g p : Nat) (m : Int) (w : World) (e : Ending) (w' : World) : Prop := ∃ b q, e = .returned (.bool b) ∧ (b = true → 0 < m) ∧ RdS w' g q ∧ p ≤ q ∧ q ≤ p + 1 ∧ w.grownBy w' (some g)
theorem odd_any (g p : Nat) (m : Int) (w : World) (h : RdS w g p) (hp : p ≤ 1000000) (hm : m ≤ 1000000000) :
    Calls Try.prog 67 #[.pointer (some ⟨g, 0, none⟩), .int .i64 m] w (OddP g p m w) := by
  by_cases hm0 : 0 < m
  · have hd : decide (0 < m) = true := by simpa using hm0
    have w0 : IntKind.i64.wrap (m - 1) = m - 1 := IntWalk.i64_in _ (by omega)
    go_enter Try.func67, Try.ntmps67
    go_wp2_with (fail)
    go_at_call 49
    refine (pick_any g p m _ h hp hm).mono ?_
    rintro e w1 ⟨k, rfl, k0, k1, hr, hg⟩
    go_wp2
    go_ret
    exact ⟨_, p + 1, rfl, fun _ => hm0, hr, by omega, by omega, hg⟩
  · have hd : decide (0 < m) = false := by simpa using hm0
    go_enter Try.func67, Try.ntmps67
    go_wp2
    go_ret
    exact ⟨false, p, rfl, (fun e => by cases e), h, by omega, by omega, only_refl _ _⟩
end Go.Proofs.Ytfhhfibjjpiccaa
