/- Both SetGlues, at every list and width: what they return. Condition: the slice reads as the list. -/
import Derived.Test.YtoiacijjbehioaaSet
import Derived.Test.YtoiacijjbehioaaSpecSet
namespace Go.Proofs.Ytoiacijjbehioaa
open Go.RowKit
set_option linter.unusedVariables false
set_option linter.unusedSimpArgs false

def SG (l : List G) (width : Int) : List Int × Bool := if (glues60 l && inB width 0 60000) = true then (setList l width, (share l width).ok) else ([], false)
def SGPost (l : List G) (width : Int) (w : World) (e : Ending) (w' : World) : Prop :=
  ∃ v, e = .returned (.tuple #[v, .bool (SG l width).2]) ∧ w'.ownsRow w.heap.size 3 1 v (SG l width).1.length (cellsN (SG l width).1) ∧ Below w.heap.size w w'
theorem sg_of_set {l : List G} {width : Int} {n : Nat} {w w' : World} {e : Ending} (h1 : glues60 l = true) (h2 : inB width 0 60000 = true) (hl : l.length = n) (h : SetPost l width n w e w') : SGPost l width w e w' := by
  obtain ⟨v, he, ho, hb⟩ := h
  have e1 : SG l width = (setList l width, (share l width).ok) := by unfold SG; rw [h1, h2]; rfl
  unfold SGPost
  rw [e1]
  exact ⟨v, he, by rw [setList_len, hl]; exact ho, hb⟩
theorem set_any (A : Option Addr) (n c : Nat) (l : List G) (width : Int) (w : World) (hl : l.length = n) (h : Rd w 4 A n (cellsG l)) (hg : glues60 l = true) (hi : inB width 0 60000 = true) :
    Calls Try.prog 58 #[.slice A n c, .int .i64 width] w (SetPost l width n w) := by
  obtain ⟨hok, h60⟩ := glues60_ok hg
  obtain ⟨h0, h1⟩ := inB_true hi
  have hbd := totG_bd hok
  by_cases hm : 0 ≤ width - (totG l).w
  · by_cases hs : (totG l).st = 0
    · by_cases h9 : width - (totG l).w = 0
      · exact setA A n c l width w (by omega) hl hok h h0 h1 hm hs h9
      · exact setB A n c l width w (by omega) hl hok h h0 h1 hm hs h9
    · exact setC A n c l width w (by omega) hl hok h h0 h1 hm hs
  · by_cases hz : (totG l).sh = 0
    · exact setF A n c l width w (by omega) hl hok h h0 h1 (by omega) hz
    · by_cases hs : -(width - (totG l).w) ≤ (totG l).sh
      · exact setD A n c l width w (by omega) hl hok h h0 h1 (by omega) hs
      · exact setE A n c l width w (by omega) hl hok h h0 h1 (by omega) (by omega) hz
theorem specSet_in (A : Option Addr) (n c : Nat) (l : List G) (width : Int) (w : World) (hl : l.length = n) (h : Rd w 4 A n (cellsG l)) (hg : glues60 l = true) (hi : inB width 0 60000 = true) :
    Calls Try.prog 31 #[.slice A n c, .int .i64 width] w (SetPost l width n w) := by
  obtain ⟨hok, h60⟩ := glues60_ok hg
  obtain ⟨h0, h1⟩ := inB_true hi
  have hbd := totG_bd hok
  obtain ⟨m, rfl⟩ : ∃ m, width = m + (totG l).w := ⟨width - (totG l).w, by omega⟩
  rcases Int.lt_trichotomy m 0 with hm | hm | hm
  · by_cases hs : -m ≤ (totG l).sh
    · exact spD A n c l m w (by omega) hl hok h h0 h1 hm hs
    · exact spE A n c l m w (by omega) hl hok h h0 h1 hm (by omega)
  · exact spA A n c l m w (by omega) hl hok h h0 h1 hm
  · by_cases hs : (totG l).st = 0
    · exact spB A n c l m w (by omega) hl hok h h0 h1 hm hs
    · exact spC A n c l m w (by omega) hl hok h h0 h1 hm (by omega)
theorem sg_no {l : List G} {width : Int} (h : (glues60 l && inB width 0 60000) = false) : SG l width = ([], false) := by unfold SG; rw [h]; rfl

theorem implSG (A : Option Addr) (n c : Nat) (l : List G) (width : Int) (w : World) (hn : n ≤ maxLen) (hl : l.length = n) (h : Rd w 4 A n (cellsG l)) :
    Calls Try.prog 32 #[.slice A n c, .int .i64 width] w (SGPost l width w) := by
  cases hg : glues60 l with
  | false =>
    have e := sg_no (l := l) (width := width) (by rw [hg]; rfl)
    unfold SGPost
    rw [e]
    clear e
    go_enter Try.func32, Try.ntmps32
    go_wp2_with fail
    refine (gluesValid_any A n c l _ hn hl h).mono ?_
    rintro e w1 ⟨rfl, hb1⟩
    have hb := hide hb1
    rw [hg]
    clear hb1
    go_wp2
    go_ret2
    exact ⟨_, rfl, World.ownsRow_nil _ _ _ _, hb.out⟩
  | true =>
    cases hi : inB width 0 60000 with
    | false =>
      have e := sg_no (l := l) (width := width) (by rw [hg, hi]; rfl)
      unfold SGPost
      rw [e]
      clear e
      go_enter Try.func32, Try.ntmps32
      go_wp2_with fail
      refine (gluesValid_any A n c l _ hn hl h).mono ?_
      rintro e w1 ⟨rfl, hb1⟩
      have hb := hide hb1
      rw [hg]
      clear hb1
      go_wp2_with (go_at_call 50; refine (in_any _ _ _ _).mono ?_; rintro e w' ⟨rfl, rfl⟩)
      go_ret2
      exact ⟨_, rfl, World.ownsRow_nil _ _ _ _, hb.out⟩
    | true =>
      go_enter Try.func32, Try.ntmps32
      go_wp2_with fail
      refine (gluesValid_any A n c l _ hn hl h).mono ?_
      rintro e w1 ⟨rfl, hb1⟩
      have hb := hide hb1
      have hr := h.below hb1
      rw [hg]
      clear hb1
      go_wp2_with (go_at_call 50; refine (in_any _ _ _ _).mono ?_; rintro e w' ⟨rfl, rfl⟩)
      refine (set_any A n c l width _ hl hr hg hi).mono ?_
      intro e w2 hp
      have hq := sg_of_set hg hi hl hp
      obtain ⟨v, he, ho, hb2⟩ := hq
      rw [he]
      have ho' := hide ho
      have hb3 := hide (hb.out.trans (hb2.mono hb.out.size))
      have hsz := hb.out.size
      clear hp he ho hb2
      go_wp2
      unfold SGPost
      go_ret2
      exact ⟨_, rfl, own_mono ho'.out hsz, hb3.out⟩

set_option maxRecDepth 100000 in
theorem specSG (A : Option Addr) (n c : Nat) (l : List G) (width : Int) (w : World) (hn : n ≤ maxLen) (hl : l.length = n) (h : Rd w 4 A n (cellsG l)) :
    Calls Try.prog 31 #[.slice A n c, .int .i64 width] w (SGPost l width w) := by
  cases hg : glues60 l with
  | true =>
    cases hi : inB width 0 60000 with
    | true => exact (specSet_in A n c l width w hl h hg hi).mono fun e w' hp => sg_of_set hg hi hl hp
    | false =>
      have e := sg_no (l := l) (width := width) (by rw [hg, hi]; rfl)
      unfold SGPost
      rw [e]
      have hr := h.alloc (.cells #[] 3)
      have hb0 := Blk.new w 3 #[]
      clear e
      go_enter Try.func31, Try.ntmps31
      go_wp2_with fail
      refine (l1Valid_any A n c l _ hn hl hr).mono ?_
      rintro e w1 ⟨rfl, hb1⟩
      have hb := hide ((((Below.refl w.heap.size w).alloc (Nat.le_refl _) (.cells #[] 3))).trans (hb1.mono (by simp)))
      have hbb := hide (hb0.below' hb1)
      rw [hg]
      clear hb1 hb0
      go_wp2_with (go_at_call 49; refine (l1In_any _ _ _ _).mono ?_; rintro e w' ⟨rfl, rfl⟩)
      go_ret2
      exact ⟨_, rfl, own_empty hbb.out, hb.out⟩
  | false =>
    have e := sg_no (l := l) (width := width) (by rw [hg]; rfl)
    unfold SGPost
    rw [e]
    have hr := h.alloc (.cells #[] 3)
    have hb0 := Blk.new w 3 #[]
    clear e
    go_enter Try.func31, Try.ntmps31
    go_wp2_with fail
    refine (l1Valid_any A n c l _ hn hl hr).mono ?_
    rintro e w1 ⟨rfl, hb1⟩
    have hb := hide ((((Below.refl w.heap.size w).alloc (Nat.le_refl _) (.cells #[] 3))).trans (hb1.mono (by simp)))
    have hbb := hide (hb0.below' hb1)
    rw [hg]
    clear hb1 hb0
    go_wp2
    go_ret2
    exact ⟨_, rfl, own_empty hbb.out, hb.out⟩
end Go.Proofs.Ytoiacijjbehioaa
