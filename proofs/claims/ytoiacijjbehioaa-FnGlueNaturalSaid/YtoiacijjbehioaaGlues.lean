/- The walks through the validity of a list of glues. Condition: the slice reads as the list. -/
import Derived.Test.YtoiacijjbehioaaGlue
namespace Go.Proofs.Ytoiacijjbehioaa
open Go.RowKit
set_option linter.unusedVariables false
set_option linter.unusedSimpArgs false

def glues60 (l : List G) : Bool := l.all glueOk && decide (l.length ≤ 60)

theorem glues60_step {l : List G} {k : Nat} {g : G} (hall : Hid ((l.take k).all glueOk = true)) (hg : Hid (l[k]? = some g)) (h : glueOk g = true) : (l.take (k + 1)).all glueOk = true := by
  rw [all_snoc _ _ _ _ hg.out, hall.out, h]; rfl
theorem glues60_no {l : List G} {k : Nat} {g : G} (hg : Hid (l[k]? = some g)) (h : glueOk g = false) : glues60 l = false := by
  unfold glues60; rw [all_false_of hg.out h]; rfl
theorem glues60_end {l : List G} {k n : Nat} (hall : Hid ((l.take k).all glueOk = true)) (hl : l.length = n) (hk : ¬ k < n) : glues60 l = decide ((n : Int) ≤ 60) := by
  have h := hall.out
  rw [List.take_of_length_le (by omega)] at h
  unfold glues60
  rw [h, hl, Bool.true_and]
  exact decide_eq_decide.2 (by omega)
theorem glues60_end' {l : List G} {k n : Nat} (hall : Hid ((l.take k).all glueOk = true)) (hl : l.length = n) (hk : ¬ k < n) : glues60 l = inB n 0 60 := by
  rw [glues60_end hall hl hk]
  unfold inB
  rw [show decide ((0 : Int) ≤ (n : Int)) = true by simp, Bool.true_and]

theorem gluesValid_any (A : Option Addr) (n c : Nat) (l : List G) (w : World) (hn : n ≤ maxLen) (hl : l.length = n) (h : Rd w 4 A n (cellsG l)) :
    Calls Try.prog 55 #[.slice A n c] w fun e w' => e = .returned (.bool (glues60 l)) ∧ Below w.heap.size w w' := by
  unfold maxLen at hn
  go_enter Try.func55, Try.ntmps55
  go_wp2
  go_loopw [7] (fun i wr => ∃ k : Nat, k ≤ n ∧ i = .int .i64 k ∧ (l.take k).all glueOk = true ∧ Below w.heap.size w wr) (fun i _ => n - (intOf i).toNat)
  case atStart => exact ⟨0, Nat.zero_le _, rfl, rfl, Below.refl _ _⟩
  case round =>
    obtain ⟨k, hk, rfl, hall, hb⟩ := hrel
    have hall' := hide hall
    clear hall
    have hl' := hide hl
    clear hl
    by_cases hlt : k < n
    · obtain ⟨b, off, g, rfl, hbs, hg, c0, c1, c2, c3⟩ := (h.below hb).glue hl'.out hlt
      have hg' := hide hg
      clear hg
      cases hv : glueOk g with
      | false =>
        have e := hide (glues60_no hg' hv)
        go_wp2_with (go_at_call 21; refine (implGlueValid g _).mono ?_; rintro e w1 ⟨rfl, hb1⟩)
        go_ret
        refine ⟨by rw [e.out]; rfl, ?_⟩
        exact (hb.alloc hb.size _).trans (hb1.mono (by simp; have := hb.size; omega))
      | true =>
        have st := hide (glues60_step hall' hg' hv)
        go_wp2_with (go_at_call 21; refine (implGlueValid g _).mono ?_; rintro e w1 ⟨rfl, hb1⟩)
        go_roundw
        case rel => exact ⟨k + 1, by omega, by go_num, st.out, (hb.alloc hb.size _).trans (hb1.mono (by simp; have := hb.size; omega))⟩
        case measure => simp [intOf]; omega
    · have e := hide (glues60_end hall' hl'.out hlt)
      go_wp2
      go_ret
      exact ⟨by rw [e.out]; rfl, hb⟩

theorem l1Valid_any (A : Option Addr) (n c : Nat) (l : List G) (w : World) (hn : n ≤ maxLen) (hl : l.length = n) (h : Rd w 4 A n (cellsG l)) :
    Calls Try.prog 53 #[.slice A n c] w fun e w' => e = .returned (.bool (glues60 l)) ∧ Below w.heap.size w w' := by
  unfold maxLen at hn
  go_enter Try.func53, Try.ntmps53
  go_wp2
  go_loopw [3] (fun i wr => ∃ k : Nat, k ≤ n ∧ i = .int .i64 k ∧ (l.take k).all glueOk = true ∧ Below w.heap.size w wr) (fun i _ => n - (intOf i).toNat)
  case atStart => exact ⟨0, Nat.zero_le _, rfl, rfl, Below.refl _ _⟩
  case round =>
    obtain ⟨k, hk, rfl, hall, hb⟩ := hrel
    have hall' := hide hall
    clear hall
    have hl' := hide hl
    clear hl
    by_cases hlt : k < n
    · obtain ⟨b, off, g, rfl, hbs, hg, c0, c1, c2, c3⟩ := (h.below hb).glue hl'.out hlt
      have hg' := hide hg
      clear hg
      cases hv : glueOk g with
      | false =>
        have e := hide (glues60_no hg' hv)
        go_wp2_with (go_at_call 19; refine (specGlueValid g _).mono ?_; rintro e w1 ⟨rfl, hb1⟩)
        go_ret
        refine ⟨by rw [e.out]; rfl, ?_⟩
        exact hb.trans (hb1.mono (by have := hb.size; omega))
      | true =>
        have st := hide (glues60_step hall' hg' hv)
        go_wp2_with (go_at_call 19; refine (specGlueValid g _).mono ?_; rintro e w1 ⟨rfl, hb1⟩)
        go_roundw
        case rel => exact ⟨k + 1, by omega, by go_num, st.out, hb.trans (hb1.mono (by have := hb.size; omega))⟩
        case measure => simp [intOf]; omega
    · have e := hide (glues60_end' hall' hl'.out hlt)
      go_wp2_with (go_at_call 49; refine (l1In_any _ _ _ _).mono ?_; rintro e w' ⟨rfl, rfl⟩)
      go_ret
      exact ⟨by rw [e.out]; rfl, hb⟩
end Go.Proofs.Ytoiacijjbehioaa
