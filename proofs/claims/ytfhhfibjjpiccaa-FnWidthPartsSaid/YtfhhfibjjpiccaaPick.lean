/- The reader of a code: what it holds, and that a pick gives a number in its range and moves on by one. Condition: the reader lies in a block of its own, its place is small. -/
import Derived.Test.YtfhhfibjjpiccaaMade
import Derived.Laws.BitsAllLaws
import Derived.Laws.BitsLemmas
namespace Go.Proofs.Ytfhhfibjjpiccaa
open Go.RowKit
set_option linter.unusedVariables false
set_option linter.unusedSimpArgs false

def RdS (w : World) (g p : Nat) : Prop :=
  ∃ A n c l, Blk w g 77 #[.slice A n c, .int .i64 p] ∧ n ≤ 2000 ∧ List.length l = n ∧ Rd w 1 A n (cellsB l) ∧ (∀ z ∈ l, 0 ≤ z ∧ z ≤ 255) ∧ (∀ b off, A = some ⟨b, off, none⟩ → 0 < n → b < g)
theorem RdS.lt {w : World} {g p : Nat} (h : RdS w g p) : g < w.heap.size := by
  obtain ⟨A, n, c, l, h1, _⟩ := h
  exact h1.lt
theorem Rd.only {w w' : World} {size n q : Nat} {A : Option Addr} {xs : List Value} (h : Rd w size A n xs) (hg : w.grownBy w' (some q)) (hq : ∀ b off, A = some ⟨b, off, none⟩ → 0 < n → b ≠ q) : Rd w' size A n xs :=
  ⟨h.1, fun hn => by
    obtain ⟨b, off, e, hb, hc⟩ := h.2 hn
    exact ⟨b, off, e, Nat.lt_of_lt_of_le hb hg.size, fun j u hu => (World.cell?_of_block (hg.block b hb (fun e2 => hq b off e hn (Option.some.inj e2)))).trans (hc j u hu)⟩⟩
theorem RdS.below {w w' : World} {g p : Nat} (h : RdS w g p) (hb : Below w.heap.size w w') : RdS w' g p := by
  obtain ⟨A, n, c, l, h1, h2, h3, h4, h5, h6⟩ := h
  exact ⟨A, n, c, l, h1.below' hb, h2, h3, h4.below hb, h5, h6⟩
theorem RdS.only {w w' : World} {g p q : Nat} (h : RdS w g p) (hg : w.grownBy w' (some q)) (hq : g < q) : RdS w' g p := by
  obtain ⟨A, n, c, l, h1, h2, h3, h4, h5, h6⟩ := h
  exact ⟨A, n, c, l, h1.grown hg (fun e => by injection e with e; omega), h2, h3, h4.only hg (fun b off e hn => by have := h6 b off e hn; omega), h5, h6⟩
theorem RdS.alloc {w : World} {g p : Nat} (h : RdS w g p) (o : Obj) : RdS (w.alloc o) g p := h.below ((Below.refl _ _).alloc (Nat.le_refl _) o)
theorem RdS.drewN {w : World} {g p : Nat} (h : RdS w g p) (k : Nat) : RdS (w.drewN k) g p := h
theorem RdS.setCell {w : World} {g p q i : Nat} (h : RdS w g p) (hq : g < q) (u : Value) : RdS (w.setCell ⟨q, i, none⟩ u) g p :=
  h.only (only_setCell (only_refl w (some q)) (.inl rfl) u) hq

theorem ofInt_i64 (a : Nat) (ha : a < 9223372036854775808) : (BitVec.ofInt 64 (a : Int)).toNat = a := by
  rw [BitVec.ofInt_natCast, BitVec.toNat_ofNat]; exact Nat.mod_eq_of_lt (by omega)
theorem i64_xor_nat (a b : Nat) (ha : a < 9223372036854775808) (hb : b < 9223372036854775808) : bits .xor .i64 (a : Int) (b : Int) = ((a ^^^ b : Nat) : Int) := by
  have hx : a ^^^ b < 2 ^ 63 := Nat.xor_lt_two_pow (by omega) (by omega)
  show IntKind.i64.wrap ((BitVec.ofInt 64 (a : Int) ^^^ BitVec.ofInt 64 (b : Int)).toNat : Int) = _
  rw [BitVec.toNat_xor, ofInt_i64 a ha, ofInt_i64 b hb, IntKind.wrap_i64]
  omega
theorem xor_bd (x y : Int) (hx : 0 ≤ x ∧ x ≤ 1000000000) (hy : 0 ≤ y ∧ y ≤ 1000000000) : ∃ z, bits .xor .i64 x y = z ∧ 0 ≤ z ∧ z ≤ 1073741823 := by
  obtain ⟨a, rfl⟩ := Int.eq_ofNat_of_zero_le hx.1
  obtain ⟨b, rfl⟩ := Int.eq_ofNat_of_zero_le hy.1
  have h : a ^^^ b < 2 ^ 30 := Nat.xor_lt_two_pow (by omega) (by omega)
  exact ⟨_, i64_xor_nat a b (by omega) (by omega), by omega, by omega⟩

def PickP (g p : Nat) (m : Int) (w : World) (e : Ending) (w' : World) : Prop := ∃ k : Int, e = .returned (.int .i64 k) ∧ 0 ≤ k ∧ (k < m ∨ k = 0) ∧ RdS w' g (p + 1) ∧ w.grownBy w' (some g)
theorem RdS.step {w : World} {g p : Nat} {A : Option Addr} {n c : Nat} {l : List Int} (h1 : Blk w g 77 #[.slice A n c, .int .i64 p]) (h2 : n ≤ 2000) (h3 : List.length l = n) (h4 : Rd w 1 A n (cellsB l)) (h5 : ∀ z ∈ l, 0 ≤ z ∧ z ≤ 255) (h6 : ∀ b off, A = some ⟨b, off, none⟩ → 0 < n → b < g) :
    RdS (w.setCell ⟨g, 1, none⟩ (.int .i64 ((p : Int) + 1))) g (p + 1) := by
  refine ⟨A, n, c, l, ?_, h2, h3, h4.only (only_setCell (only_refl w (some g)) (.inl rfl) _) (fun b off e hn => by have := h6 b off e hn; omega), h5, h6⟩
  have := h1.set_ 1 (.int .i64 ((p : Int) + 1))
  exact this

set_option maxRecDepth 100000 in
set_option maxHeartbeats 1000000 in
theorem pick_any (g p : Nat) (m : Int) (w : World) (h : RdS w g p) (hp : p ≤ 1000000) (hm : m ≤ 1000000000) :
    Calls Try.prog 49 #[.pointer (some ⟨g, 0, none⟩), .int .i64 m] w (PickP g p m w) := by
  obtain ⟨A, n, c, l, h1, h2, h3, h4, h5, h6⟩ := h
  have hst := hide (RdS.step h1 h2 h3 h4 h5 h6)
  have hgr := hide (only_setCell (p := ⟨g, 1, none⟩) (only_refl w (some g)) (.inl rfl) (.int .i64 ((p : Int) + 1)))
  have c0 : w.cell? ⟨g, 0, none⟩ = some (.slice A n c) := by rw [h1.cell]; rfl
  have c1 : w.cell? ⟨g, 1, none⟩ = some (.int .i64 p) := by rw [h1.cell]; rfl
  have z1 : w.frozen? ⟨g, 1, none⟩ = false := h1.frozen 1
  have hlt := h1.lt
  by_cases hm1 : m < 1
  · have hd : decide (m < 1) = true := by simpa using hm1
    clear h1 h2 h3 h4 h5 h6
    go_enter Try.func49, Try.ntmps49
    go_wp2
    unfold PickP
    go_ret
    exact ⟨0, rfl, Int.le_refl _, .inr rfl, hst.out, hgr.out⟩
  · have hd : decide (m < 1) = false := by simpa using hm1
    by_cases hn : n = 0
    · subst hn
      clear h1 h2 h3 h4 h5 h6
      go_enter Try.func49, Try.ntmps49
      go_wp2
      unfold PickP
      go_ret
      exact ⟨0, rfl, Int.le_refl _, .inr rfl, hst.out, hgr.out⟩
    · have hnz : ((n : Int) == 0) = false := by simp; omega
      obtain ⟨b, off, rfl, hb, hc⟩ := h4.2 (by omega)
      have hbg := h6 b off rfl (by omega)
      have hat : ∀ j, j < n → ∃ x, w.cell? ⟨b, off + j, none⟩ = some (.int .u8 x) ∧ 0 ≤ x ∧ x ≤ 255 := by
        intro j hj
        have e : l[j]? = some (l[j]'(by omega)) := List.getElem?_eq_getElem (by omega)
        have hx := h5 _ (List.mem_of_getElem? e)
        exact ⟨_, hc j _ (by simp [cellsB, e]), hx⟩
      have hat' := hide hat
      have hbne : ¬ b = g := by omega
      clear h1 h3 h4 h5 h6 hc hat
      by_cases hk : p < n
      · obtain ⟨x, hx, hx0, hx1⟩ := hat'.out p hk
        have hr : 0 ≤ x % m ∧ x % m < m := ⟨Int.emod_nonneg _ (by omega), Int.emod_lt_of_pos _ (by omega)⟩
        go_enter Try.func49, Try.ntmps49
        go_wp2
        unfold PickP
        go_ret
        exact ⟨x % m, rfl, hr.1, .inl hr.2, hst.out, hgr.out⟩
      · obtain ⟨x, hx, hx0, hx1⟩ := hat'.out (p % n) (Nat.mod_lt _ (by omega))
        obtain ⟨y, hy, hy0, hy1⟩ := hat'.out ((p * 7 + 3) % n) (Nat.mod_lt _ (by omega))
        have l0 : ((p % n : Nat) : Int) < (n : Int) := by have := Nat.mod_lt p (show 0 < n by omega); omega
        have l1 : (((p * 7 + 3) % n : Nat) : Int) < (n : Int) := by have := Nat.mod_lt (p * 7 + 3) (show 0 < n by omega); omega
        have d0 : p / n ≤ p := Nat.div_le_self _ _
        have t0 : (p : Int).tmod (n : Int) = ((p % n : Nat) : Int) := rfl
        have t1 : ((p : Int) * 7 + 3).tmod (n : Int) = (((p * 7 + 3) % n : Nat) : Int) := rfl
        have t2 : (p : Int).tdiv (n : Int) = ((p / n : Nat) : Int) := rfl
        generalize p / n = d at t2 d0
        have hq0 : (0 : Int) ≤ (d : Int) := by omega
        have hq1 : (d : Int) ≤ 1000000 := by omega
        have w0 : IntKind.i64.wrap x = x := IntWalk.i64_in _ (by omega)
        have w1 : IntKind.i64.wrap y = y := IntWalk.i64_in _ (by omega)
        have w2 : IntKind.i64.wrap (x * 131) = x * 131 := IntWalk.i64_in _ (by omega)
        have w3 : IntKind.i64.wrap ((p : Int) * 7) = (p : Int) * 7 := IntWalk.i64_in _ (by omega)
        have w4 : IntKind.i64.wrap ((p : Int) * 7 + 3) = (p : Int) * 7 + 3 := IntWalk.i64_in _ (by omega)
        have w5 : IntKind.i64.wrap (y * 1117) = y * 1117 := IntWalk.i64_in _ (by omega)
        have w6 : IntKind.i64.wrap (x * 131 + y * 1117) = x * 131 + y * 1117 := IntWalk.i64_in _ (by omega)
        have w7 : IntKind.i64.wrap ((p : Int) * 29) = (p : Int) * 29 := IntWalk.i64_in _ (by omega)
        have w8 : IntKind.i64.wrap (x * 131 + y * 1117 + (p : Int) * 29) = x * 131 + y * 1117 + (p : Int) * 29 := IntWalk.i64_in _ (by omega)
        have w9 : IntKind.i64.wrap ((d : Nat) : Int) = (d : Int) := IntWalk.i64_in _ (by omega)
        have wa : IntKind.i64.wrap ((d : Int) * 53) = (d : Int) * 53 := IntWalk.i64_in _ (by omega)
        have wb : IntKind.i64.wrap (x * 131 + y * 1117 + (p : Int) * 29 + (d : Int) * 53) = x * 131 + y * 1117 + (p : Int) * 29 + (d : Int) * 53 := IntWalk.i64_in _ (by omega)
        have wc : IntKind.i64.wrap ((p % n : Nat) : Int) = ((p % n : Nat) : Int) := IntWalk.i64_in _ (by omega)
        have wd : IntKind.i64.wrap (((p * 7 + 3) % n : Nat) : Int) = (((p * 7 + 3) % n : Nat) : Int) := IntWalk.i64_in _ (by omega)
        generalize (p * 7 + 3) % n = j1 at hy l1 t1 wd
        generalize p % n = j0 at hx l0 t0 wc
        obtain ⟨X, hX⟩ : ∃ X : Int, x * 131 + y * 1117 + (p : Int) * 29 + (d : Int) * 53 = X := ⟨_, rfl⟩
        have hX0 : 0 ≤ X ∧ X ≤ 1000000000 := by omega
        obtain ⟨z, hz, hz0, hz1⟩ := xor_bd X (X / 64) hX0 ⟨by omega, by omega⟩
        have hr : 0 ≤ z % m ∧ z % m < m := ⟨Int.emod_nonneg _ (by omega), Int.emod_lt_of_pos _ (by omega)⟩
        obtain ⟨hX1, hX2⟩ := hX0
        have hz' := hide hz
        have hnn : ¬ (n : Int) = 0 := by omega
        clear hz
        go_enter Try.func49, Try.ntmps49
        go_wp2
        go_quiet (fail)
        clear w0 w1 w2 w3 w4 w5 w6 w7 w8 w9 wa wb wc wd t0 t1 t2 hX
        have hz := hz'.out
        go_wp2
        unfold PickP
        go_ret
        exact ⟨z % m, rfl, hr.1, .inl hr.2, RdS.drewN hst.out _, only_drewN hgr.out _⟩
end Go.Proofs.Ytfhhfibjjpiccaa
