/- The walks through GlueTotal of the program and of the reference: both compute 'GT'. Condition: the slice reads as the list. -/
import Derived.Test.YtoiacijjbehioaaTotal
import Derived.Test.YtoiacijjbehioaaAdd
import Derived.StillTailTactics
namespace Go.Proofs.Ytoiacijjbehioaa
open Go.RowKit
set_option linter.unusedVariables false
set_option linter.unusedSimpArgs false

def GT (l : List G) : G := if glues60 l = true then totG l else ⟨0, 0, 0, 0⟩
theorem glues60_ok {l : List G} (h : glues60 l = true) : okA l ∧ l.length ≤ 60 := by
  simp only [glues60, Bool.and_eq_true, decide_eq_true_eq] at h
  exact ⟨okA_of_all h.1, h.2⟩
def GPost (g : G) (w : World) (e : Ending) (w' : World) : Prop := e = .returned (.agg #[.int .i64 g.w, .int .i64 g.st, .int .i64 g.sh, .int .i64 g.o]) ∧ Below w.heap.size w w'

theorem implGT (A : Option Addr) (n c : Nat) (l : List G) (w : World) (hn : n ≤ maxLen) (hl : l.length = n) (h : Rd w 4 A n (cellsG l)) :
    Calls Try.prog 27 #[.slice A n c] w (GPost (GT l) w) := by
  have h1 : Rd (w.alloc (.cells #[.int .i64 0, .int .i64 0, .int .i64 0, .int .i64 0] 26)) 4 A n (cellsG l) := h.alloc _
  cases hv : glues60 l with
  | false =>
    have e : GT l = ⟨0, 0, 0, 0⟩ := by unfold GT; rw [hv]; rfl
    rw [e]; clear e
    go_enter Try.func27, Try.ntmps27
    go_wp2_with fail
    refine (gluesValid_any A n c l _ hn hl h1).mono ?_
    rintro e w1 ⟨rfl, hb1⟩
    have hb := hide hb1
    have b1 := (Blk.new w 26 #[.int .i64 0, .int .i64 0, .int .i64 0, .int .i64 0]).below' hb1
    obtain ⟨c0, c1, c2, c3, z0, z1, z2, z3⟩ := b1.c4
    have hs := hb1.size
    rw [World.size_alloc] at hs
    rw [hv]
    clear hb1
    have hw := hide (show Below w.heap.size w w1 from ((Below.refl _ _).alloc (Nat.le_refl _) _).trans (hb.out.mono (by simp)))
    go_wp2
    refine bodyPost_ret (v := .agg #[.int .i64 0, .int .i64 0, .int .i64 0, .int .i64 0]) (by simp [results, Try.results27, go_sem, z0, z1, z2, z3, c0, c1, c2, c3]) rfl ⟨rfl, ?_⟩
    have hw := hw.out
    (repeat (first | exact Below.refl _ _ | assumption | refine Below.alloc ?_ (by first | assumption | omega | (simp; done) | (simp; omega)) _ | refine Below.setCell ?_ (by first | assumption | omega | (simp; done) | (simp; omega)) _ | refine below_drewN ?_ _ | refine Below.drew ?_))
  | true =>
    obtain ⟨hok, h60⟩ := glues60_ok hv
    have e : GT l = totG l := by unfold GT; rw [hv]; rfl
    rw [e]; clear e
    have hn60 : n ≤ 1000 := by omega
    go_enter Try.func27, Try.ntmps27
    go_wp2_with fail
    refine (gluesValid_any A n c l _ hn hl h1).mono ?_
    rintro e w1 ⟨rfl, hb1⟩
    rw [hv]
    go_wp2_with fail
    refine (total_any A n c l _ hn60 hl hok (h1.below hb1)).mono ?_
    rintro e w2 ⟨rfl, hb2⟩
    have b1 := ((Blk.new w 26 #[.int .i64 0, .int .i64 0, .int .i64 0, .int .i64 0]).below' hb1).below' hb2
    obtain ⟨c0, c1, c2, c3, z0, z1, z2, z3⟩ := b1.c4
    have hs := hb2.size
    have hs1 := hb1.size
    rw [World.size_alloc] at hs1
    have hs2 : w.heap.size < w2.heap.size := by omega
    have hw := hide (show Below w.heap.size w w2 from (((Below.refl _ _).alloc (Nat.le_refl _) _).trans (hb1.mono (by simp))).trans (hb2.mono (by omega)))
    clear hb1 hb2 hs hs1
    go_wp2
    refine bodyPost_ret (v := .agg #[.int .i64 (totG l).w, .int .i64 (totG l).st, .int .i64 (totG l).sh, .int .i64 (totG l).o]) (by simp [results, Try.results27, go_sem, z0, z1, z2, z3, c0, c1, c2, c3]) rfl ⟨rfl, ?_⟩
    have hw := hw.out
    (repeat (first | exact Below.refl _ _ | assumption | refine Below.alloc ?_ (by first | assumption | omega | (simp; done) | (simp; omega)) _ | refine Below.setCell ?_ (by first | assumption | omega | (simp; done) | (simp; omega)) _ | refine below_drewN ?_ _ | refine Below.drew ?_))

theorem totG_step {l : List G} {k : Nat} {g : G} (hok : okA l) (hg : l[k]? = some g) : totG (l.take (k + 1)) = addG (totG (l.take k)) g := by
  rw [take_snoc' _ _ _ hg]
  refine totG_snoc _ _ fun x hx => hok x ?_
  rw [← take_snoc' _ _ _ hg] at hx
  exact List.mem_of_mem_take hx
theorem totG_small {l : List G} (hok : okA l) (h : l.length ≤ 1000) (k : Nat) : smallG (totG (l.take k)) := by
  have hb := totG_bd (l := l.take k) (fun g hg => hok g (List.mem_of_mem_take hg))
  have hl : (l.take k).length ≤ 1000 := by rw [List.length_take]; omega
  refine ⟨by omega, by omega, by omega, ?_⟩
  have := hb.2.2.2
  omega
theorem glueOk_small {g : G} (h : glueOk g = true) : smallG g := by
  have := glueOk_true h
  exact ⟨by omega, by omega, by omega, by omega⟩

def GRel (l : List G) (w : World) (k : Nat) (wr : World) : Prop :=
  Blk wr (w.heap.size + 1) 26 #[.int .i64 (totG (l.take k)).w, .int .i64 (totG (l.take k)).st, .int .i64 (totG (l.take k)).sh, .int .i64 (totG (l.take k)).o] ∧ Blk wr w.heap.size 26 #[.int .i64 0, .int .i64 0, .int .i64 0, .int .i64 0] ∧ Below w.heap.size w wr

set_option maxHeartbeats 800000 in
theorem specGT (A : Option Addr) (n c : Nat) (l : List G) (w : World) (hn : n ≤ maxLen) (hl : l.length = n) (h : Rd w 4 A n (cellsG l)) :
    Calls Try.prog 25 #[.slice A n c] w (GPost (GT l) w) := by
  have h1 : Rd ((w.alloc (.cells #[.int .i64 0, .int .i64 0, .int .i64 0, .int .i64 0] 26)).alloc (.cells #[.int .i64 0, .int .i64 0, .int .i64 0, .int .i64 0] 26)) 4 A n (cellsG l) := (h.alloc _).alloc _
  have bA := (Blk.new w 26 #[.int .i64 0, .int .i64 0, .int .i64 0, .int .i64 0]).alloc (.cells #[.int .i64 0, .int .i64 0, .int .i64 0, .int .i64 0] 26)
  have bB := Blk.new (w.alloc (.cells #[.int .i64 0, .int .i64 0, .int .i64 0, .int .i64 0] 26)) 26 #[.int .i64 0, .int .i64 0, .int .i64 0, .int .i64 0]
  rw [World.size_alloc] at bB
  have bA' := hide bA
  have bB' := hide bB
  clear bA bB
  cases hv : glues60 l with
  | false =>
    have e : GT l = ⟨0, 0, 0, 0⟩ := by unfold GT; rw [hv]; rfl
    rw [e]; clear e
    go_enter Try.func25, Try.ntmps25
    go_wp2_with fail
    refine (l1Valid_any A n c l _ hn hl h1).mono ?_
    rintro e w1 ⟨rfl, hb1⟩
    obtain ⟨c0, c1, c2, c3, z0, z1, z2, z3⟩ := (bA'.out.below' hb1).c4
    obtain ⟨d0, d1, d2, d3, y0, y1, y2, y3⟩ := (bB'.out.below' hb1).c4
    have hs := hb1.size
    simp only [World.size_alloc] at hs
    rw [hv]
    have hw := hide (show Below w.heap.size w w1 from (((Below.refl _ _).alloc (Nat.le_refl _) _).alloc (by simp) _).trans (hb1.mono (by simp; omega)))
    clear hb1
    go_wp2
    refine bodyPost_ret (v := .agg #[.int .i64 0, .int .i64 0, .int .i64 0, .int .i64 0]) (by simp [results, Try.results25, go_sem, z0, z1, z2, z3, c0, c1, c2, c3]) rfl ⟨rfl, ?_⟩
    have hw := hw.out
    (repeat (first | exact Below.refl _ _ | assumption | refine Below.alloc ?_ (by first | assumption | omega | (simp; done) | (simp; omega)) _ | refine Below.setCell ?_ (by first | assumption | omega | (simp; done) | (simp; omega)) _ | refine below_drewN ?_ _ | refine Below.drew ?_))
  | true =>
    obtain ⟨hok, h60⟩ := glues60_ok hv
    have e : GT l = totG l := by unfold GT; rw [hv]; rfl
    rw [e]; clear e
    have hn60 : n ≤ 1000 := by omega
    go_enter Try.func25, Try.ntmps25
    go_wp2_with fail
    refine (l1Valid_any A n c l _ hn hl h1).mono ?_
    rintro e w1 ⟨rfl, hb1⟩
    have r0 : GRel l w 0 w1 := ⟨bB'.out.below' hb1, bA'.out.below' hb1, (((Below.refl _ _).alloc (Nat.le_refl _) _).alloc (by simp) _).trans (hb1.mono (by simp; omega))⟩
    have R0 := hide r0
    have hl' := hide hl
    have hok' := hide hok
    rw [hv]
    clear hb1 r0 h1 hl hok hv
    go_wp2
    go_loopw [4] (fun i wr => ∃ k : Nat, k ≤ n ∧ i = .int .i64 k ∧ GRel l w k wr) (fun i _ => n - (intOf i).toNat)
    case atStart => exact ⟨0, Nat.zero_le _, rfl, R0.out⟩
    case round =>
      obtain ⟨k, hk, rfl, r⟩ := hrel
      obtain ⟨d0, d1, d2, d3, y0, y1, y2, y3⟩ := r.1.c4
      obtain ⟨f0, f1, f2, f3, z0, z1, z2, z3⟩ := r.2.1.c4
      have hb := hide r.2.2
      have hsz := r.1.lt
      by_cases hlt : k < n
      · obtain ⟨b, off, g, rfl, hbs, hg, c0, c1, c2, c3⟩ := (h.below r.2.2).glue hl'.out hlt
        have hsm := hide (totG_small hok'.out (by have := hl'.out; omega) k)
        have hgs := hide (glueOk_small (hok'.out g (List.mem_of_getElem? hg)))
        have hst := hide (totG_step hok'.out hg)
        have R := hide r
        clear r hg
        go_wp2
        go_still_tail 5, (by kernel_rfl)
        go_wp2_with fail
        refine (l1Add_any (totG (l.take k)) g _ hsm.out hgs.out).mono ?_
        rintro e w2 ⟨rfl, hb2⟩
        have q1 := (Blk.drew R.out.1).below' hb2
        have q2 := (Blk.drew R.out.2.1).below' hb2
        obtain ⟨x0, x1, x2, x3, v0, v1, v2, v3⟩ := q1.c4
        have q1' := hide q1
        have q2' := hide q2
        have hs2 := hb2.size
        have hb3 := hide (show Below w.heap.size w w2 from hb.out.drew.trans (hb2.mono hb.out.size))
        clear hb2 q1 q2
        go_wp2
        go_roundw
        case rel =>
          refine ⟨k + 1, by omega, by go_num, ?_⟩
          unfold GRel
          rw [hst.out]
          refine ⟨?_, (((q2'.out.far (by simp) _).far (by simp) _).far (by simp) _).far (by simp) _, ?_⟩
          · exact (((q1'.out.set_ 0 _).set_ 1 _).set_ 2 _).set_ 3 _
          · have := hb3.out
            (repeat (first | exact Below.refl _ _ | assumption | refine Below.alloc ?_ (by first | assumption | omega | (simp; done) | (simp; omega)) _ | refine Below.setCell ?_ (by first | assumption | omega | (simp; done) | (simp; omega)) _ | refine below_drewN ?_ _ | refine Below.drew ?_))
        case measure => simp [intOf]; omega
      · have et : l.take k = l := List.take_of_length_le (by have := hl'.out; omega)
        rw [et] at d0 d1 d2 d3
        have hb' := hb.out
        clear et r
        go_wp2
        refine bodyPost_ret (v := .agg #[.int .i64 (totG l).w, .int .i64 (totG l).st, .int .i64 (totG l).sh, .int .i64 (totG l).o]) (by simp [results, Try.results25, go_sem, z0, z1, z2, z3, f0, f1, f2, f3]) rfl ⟨rfl, ?_⟩
        (repeat (first | exact Below.refl _ _ | assumption | refine Below.alloc ?_ (by first | assumption | omega | (simp; done) | (simp; omega)) _ | refine Below.setCell ?_ (by first | assumption | omega | (simp; done) | (simp; omega)) _ | refine below_drewN ?_ _ | refine Below.drew ?_))
end Go.Proofs.Ytoiacijjbehioaa
