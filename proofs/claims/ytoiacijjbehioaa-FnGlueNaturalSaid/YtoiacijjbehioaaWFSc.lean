/- What the laws of set glues reach: equal rows of numbers, a row's sum; what is so of set glues. No condition. -/
import Derived.Test.YtoiacijjbehioaaArgs
import Derived.Test.YtoiacijjbehioaaDrSet
import Derived.Test.YtoiacijjbehioaaSetBoth
namespace Go.Proofs.Ytoiacijjbehioaa
open Go.RowKit
set_option linter.unusedVariables false
set_option linter.unusedSimpArgs false
set_option maxRecDepth 100000

theorem sameIntsL (A B : Option Addr) (n c d : Nat) (l : List Int) (w : World) (hn : n ≤ maxLen) (hl : l.length = n) (ha : Rd w 1 A n (cellsN l)) (hb : Rd w 1 B n (cellsN l)) :
    Calls Try.prog 38 #[.slice A n c, .slice B n d] w fun e w' => e = .returned (.bool true) ∧ Below w.heap.size w w' := by
  unfold maxLen at hn
  have hl' := hide hl
  clear hl
  go_enter Try.func38, Try.ntmps38
  go_wp2
  go_loopw [5] (fun i wr => ∃ k : Nat, k ≤ n ∧ i = .int .i64 k ∧ Below w.heap.size w wr) (fun i _ => n - (intOf i).toNat)
  case atStart => exact ⟨0, Nat.zero_le _, rfl, Below.refl _ _⟩
  case round =>
    obtain ⟨k, hk, rfl, hw⟩ := hrel
    by_cases hlt : k < n
    · obtain ⟨b, off, x, rfl, hbs, hx, c0⟩ := (ha.below hw).int hl'.out hlt
      obtain ⟨b2, off2, x2, rfl, hbs2, hx2, c1⟩ := (hb.below hw).int hl'.out hlt
      rw [hx] at hx2
      obtain rfl := Option.some.inj hx2
      have hw' := hide hw
      have hlt' : (k : Int) < (n : Int) := by omega
      clear hx hw hx2
      go_wp2
      go_quiet (fail)
      go_wp2
      go_roundw
      case rel => exact ⟨k + 1, by omega, by go_num, below_drewN hw'.out _⟩
      case measure => simp [intOf]; omega
    · go_wp2
      go_ret
      exact ⟨rfl, hw⟩
theorem sumOf_bd2 {α : Type} (f : α → Int) (lo hi : Int) (l : List α) (h : ∀ a ∈ l, lo ≤ f a ∧ f a ≤ hi) : lo * l.length ≤ sumOf f l ∧ sumOf f l ≤ hi * l.length := by
  induction l with
  | nil => simp [sumOf]
  | cons a l ih =>
    have h1 := h a (List.mem_cons_self ..)
    have h2 := ih (fun b hb => h b (List.mem_cons_of_mem _ hb))
    have e : sumOf f (a :: l) = f a + sumOf f l := rfl
    rw [e]
    have e1 : lo * ((a :: l).length : Int) = lo * (l.length : Int) + lo := by rw [List.length_cons, Int.natCast_succ, Int.mul_add, Int.mul_one]
    have e2 : hi * ((a :: l).length : Int) = hi * (l.length : Int) + hi := by rw [List.length_cons, Int.natCast_succ, Int.mul_add, Int.mul_one]
    omega
theorem totalL (A : Option Addr) (n c : Nat) (l : List Int) (w : World) (hn : n ≤ 61) (hl : l.length = n) (hb : ∀ x ∈ l, -70000 ≤ x ∧ x ≤ 6000010000) (ha : Rd w 1 A n (cellsN l)) :
    Calls Try.prog 39 #[.slice A n c] w fun e w' => e = .returned (.int .i64 (sumOf (fun x => x) l)) ∧ w' = w := by
  have hl' := hide hl
  have hsb := hide (fun k => sumOf_bd2 (fun x => x) (-70000) 6000010000 (l.take k) (fun a h => hb a (List.mem_of_mem_take h)))
  have hb' := hide hb
  clear hl hb
  go_enter Try.func39, Try.ntmps39
  go_wp2
  go_loop [3, 4] (fun q i => ∃ k : Nat, k ≤ n ∧ i = .int .i64 k ∧ q = .int .i64 (sumOf (fun x => x) (l.take k))) (fun _ i => n - (intOf i).toNat)
  case atStart => exact ⟨0, Nat.zero_le _, rfl, by simp [sumOf]⟩
  case round =>
    obtain ⟨k, hk, rfl, rfl⟩ := hrel
    by_cases hlt : k < n
    · obtain ⟨b, off, x, rfl, hbk, hx, c0⟩ := ha.int hl'.out hlt
      have h1 := hsb.out k
      have hlk : (l.take k).length ≤ 61 := by rw [List.length_take]; omega
      have hxb := hb'.out x (List.mem_of_getElem? hx)
      have es := hide (show sumOf (fun x => x) (l.take (k + 1)) = sumOf (fun x => x) (l.take k) + x from by rw [take_snoc' _ _ _ hx, sumOf_snoc])
      have hlti : (k : Int) < (n : Int) := by omega
      clear hx
      generalize sumOf (fun x => x) (l.take k) = S at *
      have hS : -5000000 ≤ S ∧ S ≤ 400000000000 := by omega
      go_wp2
      go_round
      case rel => exact ⟨k + 1, by omega, by go_num, by rw [es.out]⟩
      case measure => simp [intOf]; omega
    · obtain rfl : k = n := by omega
      have eF := hide (show sumOf (fun x => x) (l.take k) = sumOf (fun x => x) l from by rw [List.take_of_length_le (by have := hl'.out; omega)])
      rw [eF.out]
      clear hsb
      go_wp2
      go_ret
      exact ⟨rfl, rfl⟩
theorem sg_law (L : List G) (u : Int) : ((SG L u).1 = [] ∧ (SG L u).2 = false ∧ L.length ≠ 0) ∨
    ((SG L u).1.length = L.length ∧ (∀ (k : Nat) (g : G) (x : Int), L[k]? = some g → (SG L u).1[k]? = some x → g.w - g.sh ≤ x ∧ (0 ≤ g.w ∧ g.w ≤ 1000) ∧ (0 ≤ g.sh ∧ g.sh ≤ 1000)) ∧ (∀ x ∈ (SG L u).1, -70000 ≤ x ∧ x ≤ 6000010000) ∧
      ((SG L u).2 = true → sumOf (fun x => x) (SG L u).1 = u) ∧ ((SG L u).2 = false → sumOf (fun x => x) (SG L u).1 = (GT L).w ∨ sumOf (fun x => x) (SG L u).1 = (GT L).w - (GT L).sh)) := by
  cases h : (glues60 L && inB u 0 60000) with
  | false =>
    rw [sg_no h]
    cases L with
    | nil => exact .inr ⟨rfl, by simp, by simp, by simp, fun _ => .inl (by rw [GT_yes (by rfl)]; simp [sumOf, totG])⟩
    | cons g L => exact .inl ⟨rfl, rfl, by simp⟩
  | true =>
    have h0 := h
    rw [Bool.and_eq_true] at h0
    obtain ⟨h1, h2⟩ := h0
    obtain ⟨hok, h60⟩ := glues60_ok h1
    obtain ⟨u0, u1⟩ := inB_true h2
    have e1 : SG L u = (setList L u, (share L u).ok) := by unfold SG; rw [h]; rfl
    rw [e1, GT_yes h1]
    obtain ⟨t1, t2⟩ := set_total (width := u) hok
    refine .inr ⟨setList_len _ _, fun k g x hg hx => ⟨setList_least hok hg hx, ?_⟩, fun x hx => setList_big hok h60 u0 u1 hx, t1, t2⟩
    have := glueOk_true (hok g (List.mem_of_getElem? hg))
    omega
end Go.Proofs.Ytoiacijjbehioaa
