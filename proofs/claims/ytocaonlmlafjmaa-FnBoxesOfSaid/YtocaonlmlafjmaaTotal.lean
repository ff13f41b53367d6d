/- The walk through the total of glues. Condition: the glues are valid, and not more than a thousand. -/
import Derived.Test.YtocaonlmlafjmaaGlue
import Derived.Test.YtocaonlmlafjmaaKCore
namespace Go.Proofs.Ytocaonlmlafjmaa
open Go.RowKit
set_option linter.unusedVariables false
set_option linter.unusedSimpArgs false

theorem Blk.c4 {w : World} {g : Nat} {t : TypeId} {a b c d : Value} (h : Blk w g t #[a, b, c, d]) : w.cell? ⟨g, 0, none⟩ = some a ∧ w.cell? ⟨g, 1, none⟩ = some b ∧ w.cell? ⟨g, 2, none⟩ = some c ∧ w.cell? ⟨g, 3, none⟩ = some d ∧
    w.frozen? ⟨g, 0, none⟩ = false ∧ w.frozen? ⟨g, 1, none⟩ = false ∧ w.frozen? ⟨g, 2, none⟩ = false ∧ w.frozen? ⟨g, 3, none⟩ = false :=
  ⟨by rw [h.cell]; rfl, by rw [h.cell]; rfl, by rw [h.cell]; rfl, by rw [h.cell]; rfl, h.frozen 0, h.frozen 1, h.frozen 2, h.frozen 3⟩

theorem ordOf_step {l : List G} {k : Nat} {g : G} (hg : Hid (l[k]? = some g)) : ordOf (l.take (k + 1)) = if ordB g = true then 1 else ordOf (l.take k) := by
  rw [take_snoc' _ _ _ hg.out, ordOf_snoc]
theorem sum_step (f : G → Int) {l : List G} {k : Nat} {g : G} (hg : Hid (l[k]? = some g)) : sumOf f (l.take (k + 1)) = sumOf f (l.take k) + f g := by
  rw [take_snoc' _ _ _ hg.out, sumOf_snoc]
theorem sum_take_bd (f : G → Int) {l : List G} {n : Nat} (k : Nat) (hl : l.length = n) (hn : n ≤ 1000) (hf : ∀ g ∈ l, 0 ≤ f g ∧ f g ≤ 1000) : 0 ≤ sumOf f (l.take k) ∧ sumOf f (l.take k) ≤ 1000000 := by
  have h := sumOf_bd f 1000 (l.take k) (fun g hg => hf g (List.mem_of_mem_take hg))
  have : (l.take k).length ≤ n := by rw [List.length_take]; omega
  omega

def TotPost (l : List G) (w : World) (e : Ending) (w' : World) : Prop := e = .returned (.agg #[.int .i64 (totG l).w, .int .i64 (totG l).st, .int .i64 (totG l).sh, .int .i64 (totG l).o]) ∧ Below w.heap.size w w'

def Tot1 (l : List G) (w : World) (k : Nat) (wr : World) : Prop :=
  Blk wr (w.heap.size + 1) 27 #[.int .i64 0, .int .i64 0, .int .i64 0, .int .i64 (ordOf (l.take k))] ∧ Blk wr w.heap.size 27 #[.int .i64 0, .int .i64 0, .int .i64 0, .int .i64 0] ∧ Below w.heap.size w wr
def Tot2 (l : List G) (o : Int) (w : World) (k : Nat) (wr : World) : Prop :=
  Blk wr (w.heap.size + 1) 27 #[.int .i64 (sumOf G.w (l.take k)), .int .i64 (sumOf (stAt o) (l.take k)), .int .i64 (sumOf G.sh (l.take k)), .int .i64 o] ∧ Blk wr w.heap.size 27 #[.int .i64 0, .int .i64 0, .int .i64 0, .int .i64 0] ∧ Below w.heap.size w wr

theorem tot1_keep {l : List G} {w wr : World} {k : Nat} {g : G} {o : Obj} (hg : Hid (l[k]? = some g)) (h : ordB g = false) (r : Tot1 l w k wr) : Tot1 l w (k + 1) (wr.alloc o) := by
  obtain ⟨r1, r2, r3⟩ := r
  refine ⟨?_, r2.alloc _, r3.alloc r3.size _⟩
  rw [ordOf_step hg, h]
  exact r1.alloc _
theorem tot1_turn {l : List G} {w wr : World} {k : Nat} {g : G} {o : Obj} (hg : Hid (l[k]? = some g)) (h : ordB g = true) (r : Tot1 l w k wr) : Tot1 l w (k + 1) ((wr.setCell ⟨w.heap.size + 1, 3, none⟩ (.int .i64 1)).alloc o) := by
  obtain ⟨r1, r2, r3⟩ := r
  refine ⟨?_, (r2.far (by simp) _).alloc _, (r3.setCell (by simp) _).alloc (by simp [World.setCell]; exact r3.size) _⟩
  have := (r1.set_ 3 (.int .i64 1)).alloc o
  rw [ordOf_step hg, h]
  exact this
theorem tot2_step {l : List G} {o : Int} {w wr : World} {k : Nat} {g : G} {ob : Obj} (hg : Hid (l[k]? = some g)) (r : Tot2 l o w k wr) :
    Tot2 l o w (k + 1) ((((wr.setCell ⟨w.heap.size + 1, 0, none⟩ (.int .i64 (sumOf G.w (l.take k) + g.w))).setCell ⟨w.heap.size + 1, 2, none⟩ (.int .i64 (sumOf G.sh (l.take k) + g.sh))).setCell ⟨w.heap.size + 1, 1, none⟩ (.int .i64 (sumOf (stAt o) (l.take k) + stAt o g))).alloc ob) := by
  obtain ⟨r1, r2, r3⟩ := r
  refine ⟨?_, (((r2.far (by simp) _).far (by simp) _).far (by simp) _).alloc _, (((r3.setCell (by simp) _).setCell (by simp) _).setCell (by simp) _).alloc (by simp [World.setCell]; exact r3.size) _⟩
  have := ((((r1.set_ 0 (.int .i64 (sumOf G.w (l.take k) + g.w))).set_ 2 (.int .i64 (sumOf G.sh (l.take k) + g.sh))).set_ 1 (.int .i64 (sumOf (stAt o) (l.take k) + stAt o g))).alloc ob)
  rw [sum_step _ hg, sum_step _ hg, sum_step _ hg]
  exact this
theorem tot2_step' {l : List G} {o : Int} {w wr : World} {k : Nat} {g : G} {ob : Obj} (hg : Hid (l[k]? = some g)) (ho : g.o ≠ o) (r : Tot2 l o w k wr) :
    Tot2 l o w (k + 1) (((wr.setCell ⟨w.heap.size + 1, 0, none⟩ (.int .i64 (sumOf G.w (l.take k) + g.w))).setCell ⟨w.heap.size + 1, 2, none⟩ (.int .i64 (sumOf G.sh (l.take k) + g.sh))).alloc ob) := by
  obtain ⟨r1, r2, r3⟩ := r
  refine ⟨?_, ((r2.far (by simp) _).far (by simp) _).alloc _, ((r3.setCell (by simp) _).setCell (by simp) _).alloc (by simp [World.setCell]; exact r3.size) _⟩
  have := ((r1.set_ 0 (.int .i64 (sumOf G.w (l.take k) + g.w))).set_ 2 (.int .i64 (sumOf G.sh (l.take k) + g.sh))).alloc ob
  have e : stAt o g = 0 := if_neg ho
  rw [sum_step _ hg, sum_step _ hg, sum_step _ hg, e, Int.add_zero]
  exact this

set_option maxHeartbeats 1000000 in
theorem total_any (A : Option Addr) (n c : Nat) (l : List G) (w : World) (hn : n ≤ 1000) (hl : l.length = n) (hok : okA l) (h : Rd w 4 A n (cellsG l)) :
    Calls Try.prog 97 #[.slice A n c] w (TotPost l w) := by
  have hl' := hide hl
  have hok' := hide hok
  clear hl hok
  go_enter Try.func97, Try.ntmps97
  go_wp2
  go_loopw [10] (fun i wr => ∃ k : Nat, k ≤ n ∧ i = .int .i64 k ∧ Tot1 l w k wr) (fun i _ => n - (intOf i).toNat)
  case atStart => exact ⟨0, Nat.zero_le _, rfl, by have := (Blk.new (w.alloc (.cells #[.int .i64 0, .int .i64 0, .int .i64 0, .int .i64 0] 27)) 27 #[.int .i64 0, .int .i64 0, .int .i64 0, .int .i64 0]); rw [show (w.alloc (.cells #[.int .i64 0, .int .i64 0, .int .i64 0, .int .i64 0] 27)).heap.size = w.heap.size + 1 from by simp] at this; exact this, (Blk.new w 27 #[.int .i64 0, .int .i64 0, .int .i64 0, .int .i64 0]).alloc _, by (repeat (first | exact Below.refl _ _ | assumption | refine Below.alloc ?_ (by first | assumption | omega | (simp; done) | (simp; omega)) _ | refine Below.setCell ?_ (by first | assumption | omega | (simp; done) | (simp; omega)) _ | refine below_drewN ?_ _ | refine Below.drew ?_))⟩
  case round =>
    obtain ⟨k, hk, rfl, r⟩ := hrel
    obtain ⟨f0, f1, f2, f3, z0, z1, z2, z3⟩ := r.1.c4
    have hsz := r.1.lt
    by_cases hlt : k < n
    · obtain ⟨b, off, g, rfl, hbs, hg, c0, c1, c2, c3⟩ := (h.below r.2.2).glue hl'.out hlt
      have hg' := hide hg
      clear hg
      have R := hide r
      clear r
      by_cases ho : g.o = 1
      · by_cases hs : 0 < g.st
        · have hq : ordB g = true := by simp [ordB, ho, hs]
          have st := hide (tot1_turn (o := .cells #[.int .i64 g.w, .int .i64 g.st, .int .i64 g.sh, .int .i64 g.o] 27) hg' hq R.out)
          have ho' : (g.o == 1) = true := by simpa using ho
          clear ho hq
          go_wp2
          go_roundw
          case rel => exact ⟨k + 1, by omega, by go_num, st.out⟩
          case measure => simp [intOf]; omega
        · have hq : ordB g = false := by simp [ordB]; omega
          have st := hide (tot1_keep (o := .cells #[.int .i64 g.w, .int .i64 g.st, .int .i64 g.sh, .int .i64 g.o] 27) hg' hq R.out)
          have ho' : (g.o == 1) = true := by simpa using ho
          clear ho hq
          go_wp2
          go_roundw
          case rel => exact ⟨k + 1, by omega, by go_num, st.out⟩
          case measure => simp [intOf]; omega
      · have hq : ordB g = false := by simp [ordB]; omega
        have st := hide (tot1_keep (o := .cells #[.int .i64 g.w, .int .i64 g.st, .int .i64 g.sh, .int .i64 g.o] 27) hg' hq R.out)
        have ho' : (g.o == 1) = false := by simpa using ho
        clear ho hq
        go_wp2
        go_roundw
        case rel => exact ⟨k + 1, by omega, by go_num, st.out⟩
        case measure => simp [intOf]; omega
    · have hord : ordOf (l.take k) = ordOf l := by rw [List.take_of_length_le (by have := hl'.out; omega)]
      have r2 : Tot2 l (ordOf l) w 0 wr := by
        obtain ⟨q1, q2, q3⟩ := r
        rw [hord] at q1
        exact ⟨q1, q2, q3⟩
      have R2 := hide r2
      obtain ⟨wo, rfl⟩ : ∃ wo : World, wo = wr := ⟨_, rfl⟩
      clear r r2 f0 f1 f2 f3 z0 z1 z2 z3 hord
      generalize hoo : ordOf l = oo at R2
      have hoo' := hide hoo
      clear hoo
      go_wp2
      go_loopw [26] (fun i wr => ∃ k : Nat, k ≤ n ∧ i = .int .i64 k ∧ Tot2 l oo w k wr) (fun i _ => n - (intOf i).toNat)
      case atStart => exact ⟨0, Nat.zero_le _, rfl, R2.out⟩
      case round =>
        obtain ⟨j, hj, rfl, r⟩ := hrel
        obtain ⟨f0, f1, f2, f3, z0, z1, z2, z3⟩ := r.1.c4
        have hsz2 := r.1.lt
        by_cases hlt2 : j < n
        · obtain ⟨b, off, g, rfl, hbs, hg, c0, c1, c2, c3⟩ := (h.below r.2.2).glue hl'.out hlt2
          have hg' := hide hg
          have hgo := glueOk_true (hok'.out g (List.mem_of_getElem? hg))
          clear hg
          obtain ⟨⟨g1, g2⟩, ⟨g3, g4⟩, ⟨g5, g6⟩, g7, g8⟩ := hgo
          have b1 := sum_take_bd G.w j hl'.out hn (fun x hx => by have := glueOk_true (hok'.out x hx); omega)
          have b2 := sum_take_bd G.sh j hl'.out hn (fun x hx => by have := glueOk_true (hok'.out x hx); omega)
          have b3 := sum_take_bd (stAt oo) j hl'.out hn (fun x hx => by have := glueOk_true (hok'.out x hx); unfold stAt; split <;> omega)
          obtain ⟨b11, b12⟩ := b1
          obtain ⟨b21, b22⟩ := b2
          obtain ⟨b31, b32⟩ := b3
          have R := hide r
          clear r
          by_cases ho : g.o = oo
          · have st := hide (tot2_step (ob := .cells #[.int .i64 g.w, .int .i64 g.st, .int .i64 g.sh, .int .i64 g.o] 27) hg' R.out)
            have es := hide (show stAt oo g = g.st from if_pos ho)
            have ho' : (g.o == oo) = true := by simpa using ho
            clear ho
            go_wp2
            go_roundw
            case rel => exact ⟨j + 1, by omega, by go_num, by have q := st.out; rw [es.out] at q; exact q⟩
            case measure => simp [intOf]; omega
          · have st := hide (tot2_step' (ob := .cells #[.int .i64 g.w, .int .i64 g.st, .int .i64 g.sh, .int .i64 g.o] 27) hg' ho R.out)
            have ho' : (g.o == oo) = false := by simpa using ho
            clear ho
            go_wp2
            go_roundw
            case rel => exact ⟨j + 1, by omega, by go_num, st.out⟩
            case measure => simp [intOf]; omega
        · obtain ⟨d0, d1, d2, d3, y0, y1, y2, y3⟩ := r.2.1.c4
          have hbb := r.2.2
          have hbs2 := r.2.1.lt
          have etake : l.take j = l := List.take_of_length_le (by have := hl'.out; omega)
          have efin := hide (show (totG l).w = sumOf G.w (l.take j) ∧ (totG l).st = sumOf (stAt oo) (l.take j) ∧ (totG l).sh = sumOf G.sh (l.take j) ∧ (totG l).o = oo from by
            rw [etake, ← hoo'.out]; exact ⟨rfl, rfl, rfl, rfl⟩)
          clear etake r
          go_wp2
          unfold TotPost
          refine bodyPost_ret (v := .agg #[.int .i64 (totG l).w, .int .i64 (totG l).st, .int .i64 (totG l).sh, .int .i64 (totG l).o]) (by rw [efin.out.1, efin.out.2.1, efin.out.2.2.1, efin.out.2.2.2]; simp [results, Try.results97, go_sem, y0, y1, y2, y3, d0, d1, d2, d3]) rfl ⟨rfl, ?_⟩
          (repeat (first | exact Below.refl _ _ | assumption | refine Below.alloc ?_ (by first | assumption | omega | (simp; done) | (simp; omega)) _ | refine Below.setCell ?_ (by first | assumption | omega | (simp; done) | (simp; omega)) _ | refine below_drewN ?_ _ | refine Below.drew ?_))
end Go.Proofs.Ytocaonlmlafjmaa
