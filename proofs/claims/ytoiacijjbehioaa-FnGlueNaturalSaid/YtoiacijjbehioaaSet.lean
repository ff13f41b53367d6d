/- The walk through the program's set glues. Condition: the glues are valid and not more than sixty, the width at most 60000. -/
import Derived.Test.YtoiacijjbehioaaTotal
import Derived.Test.YtoiacijjbehioaaSetMath
import Derived.Test.YtoiacijjbehioaaSetPost
import Derived.Test.YtoiacijjbehioaaMade
import Derived.StillTailTactics
import Derived.Deep.AppendLies
import Derived.Deep.RegionLaw
import Derived.Laws.EntriesVeiled
namespace Go.Proofs.Ytoiacijjbehioaa
open Go.RowKit
set_option linter.unusedVariables false
set_option linter.unusedSimpArgs false

theorem Blk.c1 {w : World} {g : Nat} {t : TypeId} {a : Value} (h : Blk w g t #[a]) : w.cell? ⟨g, 0, none⟩ = some a ∧ w.frozen? ⟨g, 0, none⟩ = false := ⟨by rw [h.cell]; rfl, h.frozen 0⟩

/-- The closure 'of': by how much a glue takes part. -/
theorem of_neg (g : G) (p q : Nat) (w : World) (t : G) (hp : Blk w p 4 #[.bool false]) (hq : Blk w q 26 #[.int .i64 t.w, .int .i64 t.st, .int .i64 t.sh, .int .i64 t.o]) :
    Calls Try.prog 64 #[.agg #[.int .i64 g.w, .int .i64 g.st, .int .i64 g.sh, .int .i64 g.o], .pointer (some ⟨p, 0, none⟩), .pointer (some ⟨q, 0, none⟩)] w fun e w' => e = .returned (.int .i64 g.sh) ∧ Below w.heap.size w w' := by
  obtain ⟨c0, z0⟩ := hp.c1
  have hs := hp.lt
  go_enter Try.func64, Try.ntmps64
  go_wp2
  go_ret
  exact ⟨rfl, by (repeat (first | exact Below.refl _ _ | assumption | refine Below.alloc ?_ (by first | assumption | omega | (simp; done) | (simp; omega)) _ | refine Below.setCell ?_ (by first | assumption | omega | (simp; done) | (simp; omega)) _ | refine below_drewN ?_ _ | refine Below.drew ?_))⟩
theorem of_pos (g : G) (p q : Nat) (w : World) (t : G) (hp : Blk w p 4 #[.bool true]) (hq : Blk w q 26 #[.int .i64 t.w, .int .i64 t.st, .int .i64 t.sh, .int .i64 t.o]) :
    Calls Try.prog 64 #[.agg #[.int .i64 g.w, .int .i64 g.st, .int .i64 g.sh, .int .i64 g.o], .pointer (some ⟨p, 0, none⟩), .pointer (some ⟨q, 0, none⟩)] w fun e w' => e = .returned (.int .i64 (stAt t.o g)) ∧ Below w.heap.size w w' := by
  obtain ⟨c0, z0⟩ := hp.c1
  obtain ⟨d0, d1, d2, d3, y0, y1, y2, y3⟩ := hq.c4
  have hs := hp.lt
  have hs2 := hq.lt
  by_cases h : g.o = t.o
  · have e : stAt t.o g = g.st := if_pos h
    rw [e]; clear e
    have h' : (g.o == t.o) = true := by simpa using h
    clear h
    go_enter Try.func64, Try.ntmps64
    go_wp2
    go_ret
    exact ⟨rfl, by (repeat (first | exact Below.refl _ _ | assumption | refine Below.alloc ?_ (by first | assumption | omega | (simp; done) | (simp; omega)) _ | refine Below.setCell ?_ (by first | assumption | omega | (simp; done) | (simp; omega)) _ | refine below_drewN ?_ _ | refine Below.drew ?_))⟩
  · have e : stAt t.o g = 0 := if_neg h
    rw [e]; clear e
    have h' : (g.o == t.o) = false := by simpa using h
    clear h
    go_enter Try.func64, Try.ntmps64
    go_wp2
    go_ret
    exact ⟨rfl, by (repeat (first | exact Below.refl _ _ | assumption | refine Below.alloc ?_ (by first | assumption | omega | (simp; done) | (simp; omega)) _ | refine Below.setCell ?_ (by first | assumption | omega | (simp; done) | (simp; omega)) _ | refine below_drewN ?_ _ | refine Below.drew ?_))⟩


theorem cell_one {w : World} {x : Int} {j : Nat} {u : Value} {t : TypeId} (hj : ([Value.int .i64 x])[j]? = some u) : (w.alloc (.cells #[.int .i64 x] t)).cell? ((⟨w.heap.size, 0, none⟩ : Addr).add j) = some u := by
  match j, hj with
  | 0, hj => simp at hj; subst hj; simp [Addr.add]
def SRel (l : List G) (width : Int) (w w1 : World) (st : Bool) (k : Nat) (v b : Value) (wr : World) : Prop :=
  b = .int .i64 (sumOf (fOf l (share l width).neg) (l.take k)) ∧ wr.ownsRow (w1.heap.size + 2) 3 1 v k (cellsN (setTo l width k)) ∧
  Blk wr w1.heap.size 26 #[.int .i64 (totG l).w, .int .i64 (totG l).st, .int .i64 (totG l).sh, .int .i64 (totG l).o] ∧ Blk wr (w1.heap.size + 1) 4 #[.bool st] ∧ Below w.heap.size w wr ∧ w1.heap.size + 2 ≤ wr.heap.size

set_option maxHeartbeats 1000000 in
theorem setA (A : Option Addr) (n c : Nat) (l : List G) (width : Int) (w : World) (hn : n ≤ 60) (hl : l.length = n) (hok : okA l) (h : Rd w 4 A n (cellsG l)) (h0 : 0 ≤ width) (h1 : width ≤ 60000) (hm : 0 ≤ width - (totG l).w) (hs : (totG l).st = 0) (h9 : width - (totG l).w = 0) :
    Calls Try.prog 58 #[.slice A n c, .int .i64 width] w (SetPost l width n w) := by
  have hbd := totG_bd hok
  obtain ⟨⟨t1, t2⟩, ⟨t3, t4⟩, ⟨t5, t6⟩, t7, t8⟩ := hbd
  have hsh := hide (share1 hm hs)
  have hl' := hide hl
  have hok' := hide hok
  have hmf : ∀ (fn : Fn) (first cap : Array Value) (w : World), (Instr.makeFunc fn first cap).run Try.prog w = .ok (.func fn first cap) w := fun _ _ _ _ => rfl
  have hln : (1000 : Int) * l.length ≤ 60000 := by omega
  have hs' : ((totG l).st == 0) = true := by simpa using hs
  have hd : decide ((totG l).w ≤ width) = true := by simp; omega
  have hq9 : (width - (totG l).w == 0) = true := by simpa using h9
  have hq8 := hide (show decide (width - (totG l).w = 0) = true by simpa using h9)
  obtain ⟨i0, hi, hz0, hz1, hz2⟩ := info_parts int_info
  clear hl hok hs h9
  go_enter Try.func58, Try.ntmps58
  go_wp2_with fail
  refine (total_any A n c l _ (by omega) hl'.out hok'.out h).mono ?_
  rintro e w1 ⟨rfl, hb1⟩
  have hb1' := hide hb1
  have hz1s := hb1.size
  clear hb1
  go_wp2
  go_loopw [13, 14, 48] (fun v b i wr => ∃ k : Nat, k ≤ n ∧ i = .int .i64 k ∧ SRel l width w w1 true k v b wr) (fun _ _ i _ => n - (intOf i).toNat)
  case atStart =>
    refine ⟨0, Nat.zero_le _, rfl, rfl, World.ownsRow_nil _ _ _ _, (Blk.new _ _ _).alloc _, ?_, ?_, by simp⟩
    · have := Blk.new (w1.alloc (.cells #[.int .i64 (totG l).w, .int .i64 (totG l).st, .int .i64 (totG l).sh, .int .i64 (totG l).o] 26)) 4 #[.bool true]
      rw [World.size_alloc] at this
      exact this
    · have := hb1'.out
      (repeat (first | exact Below.refl _ _ | assumption | refine Below.alloc ?_ (by first | assumption | omega | (simp; done) | (simp; omega)) _ | refine Below.setCell ?_ (by first | assumption | omega | (simp; done) | (simp; omega)) _ | refine below_drewN ?_ _ | refine Below.drew ?_))
  case round =>
    obtain ⟨k, hk, rfl, rfl, hown, hq, hp, hb, hsz⟩ := hrel
    by_cases hlt : k < n
    · obtain ⟨b, off, g, rfl, hbs, hg, c0, c1, c2, c3⟩ := (h.below hb).glue hl'.out hlt
      have hgo := glueOk_true (hok'.out g (List.mem_of_getElem? hg))
      obtain ⟨⟨g1, g2⟩, ⟨g3, g4⟩, ⟨g5, g6⟩, g7, g8⟩ := hgo
      have hfb := f_bd (l := l) (share l width).neg (hok'.out g (List.mem_of_getElem? hg))
      have hSb := sum_take_bd (fOf l (share l width).neg) k hl'.out (by omega) (fun x hx => f_bd _ (hok'.out x hx))
      have hSc : sumOf (fOf l (share l width).neg) (l.take k) ≤ 60000 := by
        have hh := sumOf_bd (fOf l (share l width).neg) 1000 (l.take k) (fun x hx => f_bd _ (hok'.out x (List.mem_of_mem_take hx)))
        have : (l.take k).length ≤ n := by rw [List.length_take]; omega
        omega
      have hqb := share_bd (width := width) hok'.out (by have := hl'.out; omega) h0 h1
      have hst := hide (setTo_step l width k g hg)
      have hsm := hide (sum_step (fOf l (share l width).neg) (hide hg))
      have hq' := hide hq
      have hp' := hide hp
      have hb' := hide hb
      have hown' := hide hown
      have hfg := hide (show stAt (totG l).o g = fOf l (share l width).neg g by rw [hsh.out]; rfl)
      have hx := hide (show setAt (fOf l (share l width).neg) (share l width).q (share l width).all (sgnOf (share l width).neg) l k g = g.w + 1 * (0 * (sumOf (fOf l (share l width).neg) (l.take k) + fOf l (share l width).neg g) / 1 - 0 * sumOf (fOf l (share l width).neg) (l.take k) / 1) by
        rw [hsh.out]; rfl)
      clear hg hq hp hb hown
      go_wp2_with fail
      refine (of_pos g (w1.heap.size + 1) w1.heap.size _ (totG l) (hp'.out.alloc _) (hq'.out.alloc _)).mono ?_
      rintro e w2 ⟨rfl, hb2⟩
      rw [hfg.out]
      generalize hS : sumOf (fOf l (share l width).neg) (l.take k) = S at hSb hSc hx hsm ⊢
      generalize hF : fOf l (share l width).neg g = F at hfb hx hsm ⊢
      have q2 := hide (hq'.out.alloc (.cells #[.int .i64 g.w, .int .i64 g.st, .int .i64 g.sh, .int .i64 g.o] 26) |>.below' hb2)
      have p2 := hide (hp'.out.alloc (.cells #[.int .i64 g.w, .int .i64 g.st, .int .i64 g.sh, .int .i64 g.o] 26) |>.below' hb2)
      have own2 := hide (own_below (hown'.out.alloc (.cells #[.int .i64 g.w, .int .i64 g.st, .int .i64 g.sh, .int .i64 g.o] 26)) hb2)
      have hb3 := hide (show Below w.heap.size w w2 from (hb'.out.alloc hb'.out.size _).trans (hb2.mono (by have := hb'.out.size; simp; omega)))
      have hsz2 := hb2.size
      rw [World.size_alloc] at hsz2
      obtain ⟨e0, e1, e2, e3, z0, z1, z2, z3⟩ := ((Blk.new wr 26 #[.int .i64 g.w, .int .i64 g.st, .int .i64 g.sh, .int .i64 g.o]).below' hb2).c4
      rw [hsh.out] at hqb
      dsimp only at hqb
      obtain ⟨q1, qq2, al1, al2⟩ := hqb
      have pa := prod_bd (q := 0) (s := S + F) q1 qq2 (by omega) (by omega)
      have pb := prod_bd (q := 0) (s := S) q1 qq2 (by omega) (by omega)
      obtain ⟨pa1, pa2⟩ := pa
      obtain ⟨pb1, pb2⟩ := pb
      have ra := quot_bd (b := 1) pa1 pa2 al1
      have rb := quot_bd (b := 1) pb1 pb2 al1
      obtain ⟨ra1, ra2⟩ := ra
      obtain ⟨rb1, rb2⟩ := rb
      have hS' := hide hS
      have hF' := hide hF
      clear hS hF hb2
      go_wp2
      have hw1 : IntKind.i64.wrap 0 = 0 := IntWalk.i64_in _ (by omega)
      have hw2 : IntKind.i64.wrap g.w = g.w := IntWalk.i64_in _ (by omega)
      go_region_law (refine step_append_lies _ rfl _ _ 41 rfl (w1.heap.size + 2) 3 i0 (.int .i64 0) 1 8 Try.underlying41 hi hz0 hz1 hz2 rfl (by decide) _ _ _ rfl (World.ownsRow.drew (own2.out.alloc _)) ⟨w2.heap.size, 0, none⟩ 1 1 [.int .i64 (g.w)] rfl rfl (fun j u hj => cell_one hj) (one_cells _) (by omega) (by unfold maxLen; omega) (by omega) (by simp; omega) _ rfl (fun g3 cap3 w3 hown3 hg3 hat3 hlt3 => ?_))
      clear hw1 hw2
      have hX := hide (show g.w = setAt (fOf l (share l width).neg) (share l width).q (share l width).all (sgnOf (share l width).neg) l k g by rw [hx.out]; simp)
      rw [hX.out] at hown3
      have hown4 := hide hown3
      have hvb := hide (fun kk hkk => (own2.out.lt kk hkk))
      have q3 := hide (Blk.grown (Blk.drew (q2.out.alloc (.cells #[.int .i64 (g.w)] 3))) hg3 (fun e => by have := hvb.out _ e.symm; omega))
      have p3 := hide (Blk.grown (Blk.drew (p2.out.alloc (.cells #[.int .i64 (g.w)] 3))) hg3 (fun e => by have := hvb.out _ e.symm; omega))
      have hb4 := hide (((hb3.out.alloc hb3.out.size (.cells #[.int .i64 (g.w)] 3)).drew).grown hg3 (by have := hb3.out.size; simp; omega) (fun kk hkk => by have := hvb.out kk hkk; omega))
      have hs3 := hg3.size
      simp only [World.size_drew, World.size_alloc] at hs3
      clear hown3 hg3
      go_wp2
      go_roundw
      case rel =>
        refine ⟨k + 1, by omega, by go_num, ?_, ?_, q3.out, p3.out, hb4.out, by omega⟩
        · rw [hsm.out]
        · have := hown4.out
          rw [hst.out]
          simpa [cellsN] using this
      case measure => simp [intOf]; omega
    · have hf := setTo_full l width k n hl'.out hlt
      obtain rfl : k = n := by omega
      rw [hf] at hown
      have hown' := hide hown
      have hb' := hide hb
      have hok2 := hide (show (share l width).ok = true by rw [hsh.out]; exact hq8.out)
      clear hf hq hp hb hown
      go_wp2
      unfold SetPost
      go_ret2
      refine ⟨_, by rw [hok2.out]; rfl, own_mono hown'.out (by omega), hb'.out⟩

set_option maxHeartbeats 1000000 in
theorem setB (A : Option Addr) (n c : Nat) (l : List G) (width : Int) (w : World) (hn : n ≤ 60) (hl : l.length = n) (hok : okA l) (h : Rd w 4 A n (cellsG l)) (h0 : 0 ≤ width) (h1 : width ≤ 60000) (hm : 0 ≤ width - (totG l).w) (hs : (totG l).st = 0) (h9 : ¬ width - (totG l).w = 0) :
    Calls Try.prog 58 #[.slice A n c, .int .i64 width] w (SetPost l width n w) := by
  have hbd := totG_bd hok
  obtain ⟨⟨t1, t2⟩, ⟨t3, t4⟩, ⟨t5, t6⟩, t7, t8⟩ := hbd
  have hsh := hide (share1 hm hs)
  have hl' := hide hl
  have hok' := hide hok
  have hmf : ∀ (fn : Fn) (first cap : Array Value) (w : World), (Instr.makeFunc fn first cap).run Try.prog w = .ok (.func fn first cap) w := fun _ _ _ _ => rfl
  have hln : (1000 : Int) * l.length ≤ 60000 := by omega
  have hs' : ((totG l).st == 0) = true := by simpa using hs
  have hd : decide ((totG l).w ≤ width) = true := by simp; omega
  have hq9 : (width - (totG l).w == 0) = false := by simpa using h9
  have hq8 := hide (show decide (width - (totG l).w = 0) = false by simpa using h9)
  obtain ⟨i0, hi, hz0, hz1, hz2⟩ := info_parts int_info
  clear hl hok hs h9
  go_enter Try.func58, Try.ntmps58
  go_wp2_with fail
  refine (total_any A n c l _ (by omega) hl'.out hok'.out h).mono ?_
  rintro e w1 ⟨rfl, hb1⟩
  have hb1' := hide hb1
  have hz1s := hb1.size
  clear hb1
  go_wp2
  go_loopw [13, 14, 48] (fun v b i wr => ∃ k : Nat, k ≤ n ∧ i = .int .i64 k ∧ SRel l width w w1 true k v b wr) (fun _ _ i _ => n - (intOf i).toNat)
  case atStart =>
    refine ⟨0, Nat.zero_le _, rfl, rfl, World.ownsRow_nil _ _ _ _, (Blk.new _ _ _).alloc _, ?_, ?_, by simp⟩
    · have := Blk.new (w1.alloc (.cells #[.int .i64 (totG l).w, .int .i64 (totG l).st, .int .i64 (totG l).sh, .int .i64 (totG l).o] 26)) 4 #[.bool true]
      rw [World.size_alloc] at this
      exact this
    · have := hb1'.out
      (repeat (first | exact Below.refl _ _ | assumption | refine Below.alloc ?_ (by first | assumption | omega | (simp; done) | (simp; omega)) _ | refine Below.setCell ?_ (by first | assumption | omega | (simp; done) | (simp; omega)) _ | refine below_drewN ?_ _ | refine Below.drew ?_))
  case round =>
    obtain ⟨k, hk, rfl, rfl, hown, hq, hp, hb, hsz⟩ := hrel
    by_cases hlt : k < n
    · obtain ⟨b, off, g, rfl, hbs, hg, c0, c1, c2, c3⟩ := (h.below hb).glue hl'.out hlt
      have hgo := glueOk_true (hok'.out g (List.mem_of_getElem? hg))
      obtain ⟨⟨g1, g2⟩, ⟨g3, g4⟩, ⟨g5, g6⟩, g7, g8⟩ := hgo
      have hfb := f_bd (l := l) (share l width).neg (hok'.out g (List.mem_of_getElem? hg))
      have hSb := sum_take_bd (fOf l (share l width).neg) k hl'.out (by omega) (fun x hx => f_bd _ (hok'.out x hx))
      have hSc : sumOf (fOf l (share l width).neg) (l.take k) ≤ 60000 := by
        have hh := sumOf_bd (fOf l (share l width).neg) 1000 (l.take k) (fun x hx => f_bd _ (hok'.out x (List.mem_of_mem_take hx)))
        have : (l.take k).length ≤ n := by rw [List.length_take]; omega
        omega
      have hqb := share_bd (width := width) hok'.out (by have := hl'.out; omega) h0 h1
      have hst := hide (setTo_step l width k g hg)
      have hsm := hide (sum_step (fOf l (share l width).neg) (hide hg))
      have hq' := hide hq
      have hp' := hide hp
      have hb' := hide hb
      have hown' := hide hown
      have hfg := hide (show stAt (totG l).o g = fOf l (share l width).neg g by rw [hsh.out]; rfl)
      have hx := hide (show setAt (fOf l (share l width).neg) (share l width).q (share l width).all (sgnOf (share l width).neg) l k g = g.w + 1 * (0 * (sumOf (fOf l (share l width).neg) (l.take k) + fOf l (share l width).neg g) / 1 - 0 * sumOf (fOf l (share l width).neg) (l.take k) / 1) by
        rw [hsh.out]; rfl)
      clear hg hq hp hb hown
      go_wp2_with fail
      refine (of_pos g (w1.heap.size + 1) w1.heap.size _ (totG l) (hp'.out.alloc _) (hq'.out.alloc _)).mono ?_
      rintro e w2 ⟨rfl, hb2⟩
      rw [hfg.out]
      generalize hS : sumOf (fOf l (share l width).neg) (l.take k) = S at hSb hSc hx hsm ⊢
      generalize hF : fOf l (share l width).neg g = F at hfb hx hsm ⊢
      have q2 := hide (hq'.out.alloc (.cells #[.int .i64 g.w, .int .i64 g.st, .int .i64 g.sh, .int .i64 g.o] 26) |>.below' hb2)
      have p2 := hide (hp'.out.alloc (.cells #[.int .i64 g.w, .int .i64 g.st, .int .i64 g.sh, .int .i64 g.o] 26) |>.below' hb2)
      have own2 := hide (own_below (hown'.out.alloc (.cells #[.int .i64 g.w, .int .i64 g.st, .int .i64 g.sh, .int .i64 g.o] 26)) hb2)
      have hb3 := hide (show Below w.heap.size w w2 from (hb'.out.alloc hb'.out.size _).trans (hb2.mono (by have := hb'.out.size; simp; omega)))
      have hsz2 := hb2.size
      rw [World.size_alloc] at hsz2
      obtain ⟨e0, e1, e2, e3, z0, z1, z2, z3⟩ := ((Blk.new wr 26 #[.int .i64 g.w, .int .i64 g.st, .int .i64 g.sh, .int .i64 g.o]).below' hb2).c4
      rw [hsh.out] at hqb
      dsimp only at hqb
      obtain ⟨q1, qq2, al1, al2⟩ := hqb
      have pa := prod_bd (q := 0) (s := S + F) q1 qq2 (by omega) (by omega)
      have pb := prod_bd (q := 0) (s := S) q1 qq2 (by omega) (by omega)
      obtain ⟨pa1, pa2⟩ := pa
      obtain ⟨pb1, pb2⟩ := pb
      have ra := quot_bd (b := 1) pa1 pa2 al1
      have rb := quot_bd (b := 1) pb1 pb2 al1
      obtain ⟨ra1, ra2⟩ := ra
      obtain ⟨rb1, rb2⟩ := rb
      have hS' := hide hS
      have hF' := hide hF
      clear hS hF hb2
      go_wp2
      have hw1 : IntKind.i64.wrap 0 = 0 := IntWalk.i64_in _ (by omega)
      have hw2 : IntKind.i64.wrap g.w = g.w := IntWalk.i64_in _ (by omega)
      go_region_law (refine step_append_lies _ rfl _ _ 41 rfl (w1.heap.size + 2) 3 i0 (.int .i64 0) 1 8 Try.underlying41 hi hz0 hz1 hz2 rfl (by decide) _ _ _ rfl (World.ownsRow.drew (own2.out.alloc _)) ⟨w2.heap.size, 0, none⟩ 1 1 [.int .i64 (g.w)] rfl rfl (fun j u hj => cell_one hj) (one_cells _) (by omega) (by unfold maxLen; omega) (by omega) (by simp; omega) _ rfl (fun g3 cap3 w3 hown3 hg3 hat3 hlt3 => ?_))
      clear hw1 hw2
      have hX := hide (show g.w = setAt (fOf l (share l width).neg) (share l width).q (share l width).all (sgnOf (share l width).neg) l k g by rw [hx.out]; simp)
      rw [hX.out] at hown3
      have hown4 := hide hown3
      have hvb := hide (fun kk hkk => (own2.out.lt kk hkk))
      have q3 := hide (Blk.grown (Blk.drew (q2.out.alloc (.cells #[.int .i64 (g.w)] 3))) hg3 (fun e => by have := hvb.out _ e.symm; omega))
      have p3 := hide (Blk.grown (Blk.drew (p2.out.alloc (.cells #[.int .i64 (g.w)] 3))) hg3 (fun e => by have := hvb.out _ e.symm; omega))
      have hb4 := hide (((hb3.out.alloc hb3.out.size (.cells #[.int .i64 (g.w)] 3)).drew).grown hg3 (by have := hb3.out.size; simp; omega) (fun kk hkk => by have := hvb.out kk hkk; omega))
      have hs3 := hg3.size
      simp only [World.size_drew, World.size_alloc] at hs3
      clear hown3 hg3
      go_wp2
      go_roundw
      case rel =>
        refine ⟨k + 1, by omega, by go_num, ?_, ?_, q3.out, p3.out, hb4.out, by omega⟩
        · rw [hsm.out]
        · have := hown4.out
          rw [hst.out]
          simpa [cellsN] using this
      case measure => simp [intOf]; omega
    · have hf := setTo_full l width k n hl'.out hlt
      obtain rfl : k = n := by omega
      rw [hf] at hown
      have hown' := hide hown
      have hb' := hide hb
      have hok2 := hide (show (share l width).ok = false by rw [hsh.out]; exact hq8.out)
      clear hf hq hp hb hown
      go_wp2
      unfold SetPost
      go_ret2
      refine ⟨_, by rw [hok2.out]; rfl, own_mono hown'.out (by omega), hb'.out⟩

set_option maxHeartbeats 1000000 in
theorem setC (A : Option Addr) (n c : Nat) (l : List G) (width : Int) (w : World) (hn : n ≤ 60) (hl : l.length = n) (hok : okA l) (h : Rd w 4 A n (cellsG l)) (h0 : 0 ≤ width) (h1 : width ≤ 60000) (hm : 0 ≤ width - (totG l).w) (hs : ¬ (totG l).st = 0) :
    Calls Try.prog 58 #[.slice A n c, .int .i64 width] w (SetPost l width n w) := by
  have hbd := totG_bd hok
  obtain ⟨⟨t1, t2⟩, ⟨t3, t4⟩, ⟨t5, t6⟩, t7, t8⟩ := hbd
  have hsh := hide (share2 hm hs)
  have hl' := hide hl
  have hok' := hide hok
  have hmf : ∀ (fn : Fn) (first cap : Array Value) (w : World), (Instr.makeFunc fn first cap).run Try.prog w = .ok (.func fn first cap) w := fun _ _ _ _ => rfl
  have hln : (1000 : Int) * l.length ≤ 60000 := by omega
  have hs' : ((totG l).st == 0) = false := by simpa using hs
  have hd : decide ((totG l).w ≤ width) = true := by simp; omega
  obtain ⟨i0, hi, hz0, hz1, hz2⟩ := info_parts int_info
  clear hl hok
  go_enter Try.func58, Try.ntmps58
  go_wp2_with fail
  refine (total_any A n c l _ (by omega) hl'.out hok'.out h).mono ?_
  rintro e w1 ⟨rfl, hb1⟩
  have hb1' := hide hb1
  have hz1s := hb1.size
  clear hb1
  go_wp2
  go_loopw [13, 14, 48] (fun v b i wr => ∃ k : Nat, k ≤ n ∧ i = .int .i64 k ∧ SRel l width w w1 true k v b wr) (fun _ _ i _ => n - (intOf i).toNat)
  case atStart =>
    refine ⟨0, Nat.zero_le _, rfl, rfl, World.ownsRow_nil _ _ _ _, (Blk.new _ _ _).alloc _, ?_, ?_, by simp⟩
    · have := Blk.new (w1.alloc (.cells #[.int .i64 (totG l).w, .int .i64 (totG l).st, .int .i64 (totG l).sh, .int .i64 (totG l).o] 26)) 4 #[.bool true]
      rw [World.size_alloc] at this
      exact this
    · have := hb1'.out
      (repeat (first | exact Below.refl _ _ | assumption | refine Below.alloc ?_ (by first | assumption | omega | (simp; done) | (simp; omega)) _ | refine Below.setCell ?_ (by first | assumption | omega | (simp; done) | (simp; omega)) _ | refine below_drewN ?_ _ | refine Below.drew ?_))
  case round =>
    obtain ⟨k, hk, rfl, rfl, hown, hq, hp, hb, hsz⟩ := hrel
    by_cases hlt : k < n
    · obtain ⟨b, off, g, rfl, hbs, hg, c0, c1, c2, c3⟩ := (h.below hb).glue hl'.out hlt
      have hgo := glueOk_true (hok'.out g (List.mem_of_getElem? hg))
      obtain ⟨⟨g1, g2⟩, ⟨g3, g4⟩, ⟨g5, g6⟩, g7, g8⟩ := hgo
      have hfb := f_bd (l := l) (share l width).neg (hok'.out g (List.mem_of_getElem? hg))
      have hSb := sum_take_bd (fOf l (share l width).neg) k hl'.out (by omega) (fun x hx => f_bd _ (hok'.out x hx))
      have hSc : sumOf (fOf l (share l width).neg) (l.take k) ≤ 60000 := by
        have hh := sumOf_bd (fOf l (share l width).neg) 1000 (l.take k) (fun x hx => f_bd _ (hok'.out x (List.mem_of_mem_take hx)))
        have : (l.take k).length ≤ n := by rw [List.length_take]; omega
        omega
      have hqb := share_bd (width := width) hok'.out (by have := hl'.out; omega) h0 h1
      have hst := hide (setTo_step l width k g hg)
      have hsm := hide (sum_step (fOf l (share l width).neg) (hide hg))
      have hq' := hide hq
      have hp' := hide hp
      have hb' := hide hb
      have hown' := hide hown
      have hfg := hide (show stAt (totG l).o g = fOf l (share l width).neg g by rw [hsh.out]; rfl)
      have hx := hide (show setAt (fOf l (share l width).neg) (share l width).q (share l width).all (sgnOf (share l width).neg) l k g = g.w + 1 * ((width - (totG l).w) * (sumOf (fOf l (share l width).neg) (l.take k) + fOf l (share l width).neg g) / (totG l).st - (width - (totG l).w) * sumOf (fOf l (share l width).neg) (l.take k) / (totG l).st) by
        rw [hsh.out]; rfl)
      clear hg hq hp hb hown
      go_wp2_with fail
      refine (of_pos g (w1.heap.size + 1) w1.heap.size _ (totG l) (hp'.out.alloc _) (hq'.out.alloc _)).mono ?_
      rintro e w2 ⟨rfl, hb2⟩
      rw [hfg.out]
      generalize hS : sumOf (fOf l (share l width).neg) (l.take k) = S at hSb hSc hx hsm ⊢
      generalize hF : fOf l (share l width).neg g = F at hfb hx hsm ⊢
      have q2 := hide (hq'.out.alloc (.cells #[.int .i64 g.w, .int .i64 g.st, .int .i64 g.sh, .int .i64 g.o] 26) |>.below' hb2)
      have p2 := hide (hp'.out.alloc (.cells #[.int .i64 g.w, .int .i64 g.st, .int .i64 g.sh, .int .i64 g.o] 26) |>.below' hb2)
      have own2 := hide (own_below (hown'.out.alloc (.cells #[.int .i64 g.w, .int .i64 g.st, .int .i64 g.sh, .int .i64 g.o] 26)) hb2)
      have hb3 := hide (show Below w.heap.size w w2 from (hb'.out.alloc hb'.out.size _).trans (hb2.mono (by have := hb'.out.size; simp; omega)))
      have hsz2 := hb2.size
      rw [World.size_alloc] at hsz2
      obtain ⟨e0, e1, e2, e3, z0, z1, z2, z3⟩ := ((Blk.new wr 26 #[.int .i64 g.w, .int .i64 g.st, .int .i64 g.sh, .int .i64 g.o]).below' hb2).c4
      rw [hsh.out] at hqb
      dsimp only at hqb
      obtain ⟨q1, qq2, al1, al2⟩ := hqb
      have pa := prod_bd (q := (width - (totG l).w)) (s := S + F) q1 qq2 (by omega) (by omega)
      have pb := prod_bd (q := (width - (totG l).w)) (s := S) q1 qq2 (by omega) (by omega)
      obtain ⟨pa1, pa2⟩ := pa
      obtain ⟨pb1, pb2⟩ := pb
      have ra := quot_bd (b := (totG l).st) pa1 pa2 al1
      have rb := quot_bd (b := (totG l).st) pb1 pb2 al1
      obtain ⟨ra1, ra2⟩ := ra
      obtain ⟨rb1, rb2⟩ := rb
      have hS' := hide hS
      have hF' := hide hF
      clear hS hF hb2
      go_wp2
      have hw1 : IntKind.i64.wrap ((width - (totG l).w) * (S + F)) = (width - (totG l).w) * (S + F) := IntWalk.i64_in _ (by omega)
      have hw2 : IntKind.i64.wrap ((width - (totG l).w) * S) = (width - (totG l).w) * S := IntWalk.i64_in _ (by omega)
      have ht1 : ((width - (totG l).w) * (S + F)).tdiv (totG l).st = (width - (totG l).w) * (S + F) / (totG l).st := Int.tdiv_eq_ediv_of_nonneg pa1
      have ht2 : ((width - (totG l).w) * S).tdiv (totG l).st = (width - (totG l).w) * S / (totG l).st := Int.tdiv_eq_ediv_of_nonneg pb1
      have hw3 : IntKind.i64.wrap ((width - (totG l).w) * (S + F) / (totG l).st) = (width - (totG l).w) * (S + F) / (totG l).st := IntWalk.i64_in _ (by omega)
      have hw4 : IntKind.i64.wrap ((width - (totG l).w) * S / (totG l).st) = (width - (totG l).w) * S / (totG l).st := IntWalk.i64_in _ (by omega)
      have hw5 : IntKind.i64.wrap ((width - (totG l).w) * (S + F) / (totG l).st - (width - (totG l).w) * S / (totG l).st) = (width - (totG l).w) * (S + F) / (totG l).st - (width - (totG l).w) * S / (totG l).st := IntWalk.i64_in _ (by omega)
      have hw6 : IntKind.i64.wrap (-((width - (totG l).w) * (S + F) / (totG l).st - (width - (totG l).w) * S / (totG l).st)) = -((width - (totG l).w) * (S + F) / (totG l).st - (width - (totG l).w) * S / (totG l).st) := IntWalk.i64_in _ (by omega)
      have hw7 : IntKind.i64.wrap (g.w + ((width - (totG l).w) * (S + F) / (totG l).st - (width - (totG l).w) * S / (totG l).st)) = g.w + ((width - (totG l).w) * (S + F) / (totG l).st - (width - (totG l).w) * S / (totG l).st) := IntWalk.i64_in _ (by omega)
      go_region_law (refine step_append_lies _ rfl _ _ 41 rfl (w1.heap.size + 2) 3 i0 (.int .i64 0) 1 8 Try.underlying41 hi hz0 hz1 hz2 rfl (by decide) _ _ _ rfl (World.ownsRow.drew (own2.out.alloc _)) ⟨w2.heap.size, 0, none⟩ 1 1 [.int .i64 (g.w + ((width - (totG l).w) * (S + F) / (totG l).st - (width - (totG l).w) * S / (totG l).st))] rfl rfl (fun j u hj => cell_one hj) (one_cells _) (by omega) (by unfold maxLen; omega) (by omega) (by simp; omega) _ rfl (fun g3 cap3 w3 hown3 hg3 hat3 hlt3 => ?_))
      clear hw1 hw2 ht1 ht2 hw3 hw4 hw5 hw6 hw7
      have hX := hide (show g.w + ((width - (totG l).w) * (S + F) / (totG l).st - (width - (totG l).w) * S / (totG l).st) = setAt (fOf l (share l width).neg) (share l width).q (share l width).all (sgnOf (share l width).neg) l k g by rw [hx.out]; omega)
      rw [hX.out] at hown3
      have hown4 := hide hown3
      have hvb := hide (fun kk hkk => (own2.out.lt kk hkk))
      have q3 := hide (Blk.grown (Blk.drew (q2.out.alloc (.cells #[.int .i64 (g.w + ((width - (totG l).w) * (S + F) / (totG l).st - (width - (totG l).w) * S / (totG l).st))] 3))) hg3 (fun e => by have := hvb.out _ e.symm; omega))
      have p3 := hide (Blk.grown (Blk.drew (p2.out.alloc (.cells #[.int .i64 (g.w + ((width - (totG l).w) * (S + F) / (totG l).st - (width - (totG l).w) * S / (totG l).st))] 3))) hg3 (fun e => by have := hvb.out _ e.symm; omega))
      have hb4 := hide (((hb3.out.alloc hb3.out.size (.cells #[.int .i64 (g.w + ((width - (totG l).w) * (S + F) / (totG l).st - (width - (totG l).w) * S / (totG l).st))] 3)).drew).grown hg3 (by have := hb3.out.size; simp; omega) (fun kk hkk => by have := hvb.out kk hkk; omega))
      have hs3 := hg3.size
      simp only [World.size_drew, World.size_alloc] at hs3
      clear hown3 hg3
      go_wp2
      go_roundw
      case rel =>
        refine ⟨k + 1, by omega, by go_num, ?_, ?_, q3.out, p3.out, hb4.out, by omega⟩
        · rw [hsm.out]
        · have := hown4.out
          rw [hst.out]
          simpa [cellsN] using this
      case measure => simp [intOf]; omega
    · have hf := setTo_full l width k n hl'.out hlt
      obtain rfl : k = n := by omega
      rw [hf] at hown
      have hown' := hide hown
      have hb' := hide hb
      have hok2 := hide (show (share l width).ok = true by rw [hsh.out])
      clear hf hq hp hb hown
      go_wp2
      unfold SetPost
      go_ret2
      refine ⟨_, by rw [hok2.out]; rfl, own_mono hown'.out (by omega), hb'.out⟩

set_option maxHeartbeats 1000000 in
theorem setD (A : Option Addr) (n c : Nat) (l : List G) (width : Int) (w : World) (hn : n ≤ 60) (hl : l.length = n) (hok : okA l) (h : Rd w 4 A n (cellsG l)) (h0 : 0 ≤ width) (h1 : width ≤ 60000) (hm : width - (totG l).w < 0) (hs : -(width - (totG l).w) ≤ (totG l).sh) :
    Calls Try.prog 58 #[.slice A n c, .int .i64 width] w (SetPost l width n w) := by
  have hbd := totG_bd hok
  obtain ⟨⟨t1, t2⟩, ⟨t3, t4⟩, ⟨t5, t6⟩, t7, t8⟩ := hbd
  have hsh := hide (share3 hm hs)
  have hl' := hide hl
  have hok' := hide hok
  have hmf : ∀ (fn : Fn) (first cap : Array Value) (w : World), (Instr.makeFunc fn first cap).run Try.prog w = .ok (.func fn first cap) w := fun _ _ _ _ => rfl
  have hln : (1000 : Int) * l.length ≤ 60000 := by omega
  have hz : ¬ (totG l).sh = 0 := by omega
  have hs' : ((totG l).sh == 0) = false := by simpa using hz
  have hd : decide ((totG l).w ≤ width) = false := by simp; omega
  obtain ⟨i0, hi, hz0, hz1, hz2⟩ := info_parts int_info
  clear hl hok
  go_enter Try.func58, Try.ntmps58
  go_wp2_with fail
  refine (total_any A n c l _ (by omega) hl'.out hok'.out h).mono ?_
  rintro e w1 ⟨rfl, hb1⟩
  have hb1' := hide hb1
  have hz1s := hb1.size
  clear hb1
  go_wp2
  go_quiet (fail)
  go_wp2
  go_loopw [13, 14, 48] (fun v b i wr => ∃ k : Nat, k ≤ n ∧ i = .int .i64 k ∧ SRel l width w w1 false k v b wr) (fun _ _ i _ => n - (intOf i).toNat)
  case atStart =>
    refine ⟨0, Nat.zero_le _, rfl, rfl, World.ownsRow_nil _ _ _ _, (Blk.new _ _ _).alloc _, ?_, ?_, by simp⟩
    · have := Blk.new (w1.alloc (.cells #[.int .i64 (totG l).w, .int .i64 (totG l).st, .int .i64 (totG l).sh, .int .i64 (totG l).o] 26)) 4 #[.bool false]
      rw [World.size_alloc] at this
      exact this
    · have := hb1'.out
      (repeat (first | exact Below.refl _ _ | assumption | refine Below.alloc ?_ (by first | assumption | omega | (simp; done) | (simp; omega)) _ | refine Below.setCell ?_ (by first | assumption | omega | (simp; done) | (simp; omega)) _ | refine below_drewN ?_ _ | refine Below.drew ?_))
  case round =>
    obtain ⟨k, hk, rfl, rfl, hown, hq, hp, hb, hsz⟩ := hrel
    by_cases hlt : k < n
    · obtain ⟨b, off, g, rfl, hbs, hg, c0, c1, c2, c3⟩ := (h.below hb).glue hl'.out hlt
      have hgo := glueOk_true (hok'.out g (List.mem_of_getElem? hg))
      obtain ⟨⟨g1, g2⟩, ⟨g3, g4⟩, ⟨g5, g6⟩, g7, g8⟩ := hgo
      have hfb := f_bd (l := l) (share l width).neg (hok'.out g (List.mem_of_getElem? hg))
      have hSb := sum_take_bd (fOf l (share l width).neg) k hl'.out (by omega) (fun x hx => f_bd _ (hok'.out x hx))
      have hSc : sumOf (fOf l (share l width).neg) (l.take k) ≤ 60000 := by
        have hh := sumOf_bd (fOf l (share l width).neg) 1000 (l.take k) (fun x hx => f_bd _ (hok'.out x (List.mem_of_mem_take hx)))
        have : (l.take k).length ≤ n := by rw [List.length_take]; omega
        omega
      have hqb := share_bd (width := width) hok'.out (by have := hl'.out; omega) h0 h1
      have hst := hide (setTo_step l width k g hg)
      have hsm := hide (sum_step (fOf l (share l width).neg) (hide hg))
      have hq' := hide hq
      have hp' := hide hp
      have hb' := hide hb
      have hown' := hide hown
      have hfg := hide (show g.sh = fOf l (share l width).neg g by rw [hsh.out]; rfl)
      have hx := hide (show setAt (fOf l (share l width).neg) (share l width).q (share l width).all (sgnOf (share l width).neg) l k g = g.w + (-1) * ((-(width - (totG l).w)) * (sumOf (fOf l (share l width).neg) (l.take k) + fOf l (share l width).neg g) / (totG l).sh - (-(width - (totG l).w)) * sumOf (fOf l (share l width).neg) (l.take k) / (totG l).sh) by
        rw [hsh.out]; rfl)
      clear hg hq hp hb hown
      go_wp2_with fail
      refine (of_neg g (w1.heap.size + 1) w1.heap.size _ (totG l) (hp'.out.alloc _) (hq'.out.alloc _)).mono ?_
      rintro e w2 ⟨rfl, hb2⟩
      rw [hfg.out]
      generalize hS : sumOf (fOf l (share l width).neg) (l.take k) = S at hSb hSc hx hsm ⊢
      generalize hF : fOf l (share l width).neg g = F at hfb hx hsm ⊢
      have q2 := hide (hq'.out.alloc (.cells #[.int .i64 g.w, .int .i64 g.st, .int .i64 g.sh, .int .i64 g.o] 26) |>.below' hb2)
      have p2 := hide (hp'.out.alloc (.cells #[.int .i64 g.w, .int .i64 g.st, .int .i64 g.sh, .int .i64 g.o] 26) |>.below' hb2)
      have own2 := hide (own_below (hown'.out.alloc (.cells #[.int .i64 g.w, .int .i64 g.st, .int .i64 g.sh, .int .i64 g.o] 26)) hb2)
      have hb3 := hide (show Below w.heap.size w w2 from (hb'.out.alloc hb'.out.size _).trans (hb2.mono (by have := hb'.out.size; simp; omega)))
      have hsz2 := hb2.size
      rw [World.size_alloc] at hsz2
      obtain ⟨e0, e1, e2, e3, z0, z1, z2, z3⟩ := ((Blk.new wr 26 #[.int .i64 g.w, .int .i64 g.st, .int .i64 g.sh, .int .i64 g.o]).below' hb2).c4
      rw [hsh.out] at hqb
      dsimp only at hqb
      obtain ⟨q1, qq2, al1, al2⟩ := hqb
      have pa := prod_bd (q := (-(width - (totG l).w))) (s := S + F) q1 qq2 (by omega) (by omega)
      have pb := prod_bd (q := (-(width - (totG l).w))) (s := S) q1 qq2 (by omega) (by omega)
      obtain ⟨pa1, pa2⟩ := pa
      obtain ⟨pb1, pb2⟩ := pb
      have ra := quot_bd (b := (totG l).sh) pa1 pa2 al1
      have rb := quot_bd (b := (totG l).sh) pb1 pb2 al1
      obtain ⟨ra1, ra2⟩ := ra
      obtain ⟨rb1, rb2⟩ := rb
      have hS' := hide hS
      have hF' := hide hF
      clear hS hF hb2
      go_wp2
      have hw1 : IntKind.i64.wrap ((-(width - (totG l).w)) * (S + F)) = (-(width - (totG l).w)) * (S + F) := IntWalk.i64_in _ (by omega)
      have hw2 : IntKind.i64.wrap ((-(width - (totG l).w)) * S) = (-(width - (totG l).w)) * S := IntWalk.i64_in _ (by omega)
      have ht1 : ((-(width - (totG l).w)) * (S + F)).tdiv (totG l).sh = (-(width - (totG l).w)) * (S + F) / (totG l).sh := Int.tdiv_eq_ediv_of_nonneg pa1
      have ht2 : ((-(width - (totG l).w)) * S).tdiv (totG l).sh = (-(width - (totG l).w)) * S / (totG l).sh := Int.tdiv_eq_ediv_of_nonneg pb1
      have hw3 : IntKind.i64.wrap ((-(width - (totG l).w)) * (S + F) / (totG l).sh) = (-(width - (totG l).w)) * (S + F) / (totG l).sh := IntWalk.i64_in _ (by omega)
      have hw4 : IntKind.i64.wrap ((-(width - (totG l).w)) * S / (totG l).sh) = (-(width - (totG l).w)) * S / (totG l).sh := IntWalk.i64_in _ (by omega)
      have hw5 : IntKind.i64.wrap ((-(width - (totG l).w)) * (S + F) / (totG l).sh - (-(width - (totG l).w)) * S / (totG l).sh) = (-(width - (totG l).w)) * (S + F) / (totG l).sh - (-(width - (totG l).w)) * S / (totG l).sh := IntWalk.i64_in _ (by omega)
      have hw6 : IntKind.i64.wrap (-((-(width - (totG l).w)) * (S + F) / (totG l).sh - (-(width - (totG l).w)) * S / (totG l).sh)) = -((-(width - (totG l).w)) * (S + F) / (totG l).sh - (-(width - (totG l).w)) * S / (totG l).sh) := IntWalk.i64_in _ (by omega)
      have hw7 : IntKind.i64.wrap (g.w + -((-(width - (totG l).w)) * (S + F) / (totG l).sh - (-(width - (totG l).w)) * S / (totG l).sh)) = g.w + -((-(width - (totG l).w)) * (S + F) / (totG l).sh - (-(width - (totG l).w)) * S / (totG l).sh) := IntWalk.i64_in _ (by omega)
      go_region_law (refine step_append_lies _ rfl _ _ 41 rfl (w1.heap.size + 2) 3 i0 (.int .i64 0) 1 8 Try.underlying41 hi hz0 hz1 hz2 rfl (by decide) _ _ _ rfl (World.ownsRow.drew (own2.out.alloc _)) ⟨w2.heap.size, 0, none⟩ 1 1 [.int .i64 (g.w + -((-(width - (totG l).w)) * (S + F) / (totG l).sh - (-(width - (totG l).w)) * S / (totG l).sh))] rfl rfl (fun j u hj => cell_one hj) (one_cells _) (by omega) (by unfold maxLen; omega) (by omega) (by simp; omega) _ rfl (fun g3 cap3 w3 hown3 hg3 hat3 hlt3 => ?_))
      clear hw1 hw2 ht1 ht2 hw3 hw4 hw5 hw6 hw7
      have hX := hide (show g.w + -((-(width - (totG l).w)) * (S + F) / (totG l).sh - (-(width - (totG l).w)) * S / (totG l).sh) = setAt (fOf l (share l width).neg) (share l width).q (share l width).all (sgnOf (share l width).neg) l k g by rw [hx.out]; omega)
      rw [hX.out] at hown3
      have hown4 := hide hown3
      have hvb := hide (fun kk hkk => (own2.out.lt kk hkk))
      have q3 := hide (Blk.grown (Blk.drew (q2.out.alloc (.cells #[.int .i64 (g.w + -((-(width - (totG l).w)) * (S + F) / (totG l).sh - (-(width - (totG l).w)) * S / (totG l).sh))] 3))) hg3 (fun e => by have := hvb.out _ e.symm; omega))
      have p3 := hide (Blk.grown (Blk.drew (p2.out.alloc (.cells #[.int .i64 (g.w + -((-(width - (totG l).w)) * (S + F) / (totG l).sh - (-(width - (totG l).w)) * S / (totG l).sh))] 3))) hg3 (fun e => by have := hvb.out _ e.symm; omega))
      have hb4 := hide (((hb3.out.alloc hb3.out.size (.cells #[.int .i64 (g.w + -((-(width - (totG l).w)) * (S + F) / (totG l).sh - (-(width - (totG l).w)) * S / (totG l).sh))] 3)).drew).grown hg3 (by have := hb3.out.size; simp; omega) (fun kk hkk => by have := hvb.out kk hkk; omega))
      have hs3 := hg3.size
      simp only [World.size_drew, World.size_alloc] at hs3
      clear hown3 hg3
      go_wp2
      go_roundw
      case rel =>
        refine ⟨k + 1, by omega, by go_num, ?_, ?_, q3.out, p3.out, hb4.out, by omega⟩
        · rw [hsm.out]
        · have := hown4.out
          rw [hst.out]
          simpa [cellsN] using this
      case measure => simp [intOf]; omega
    · have hf := setTo_full l width k n hl'.out hlt
      obtain rfl : k = n := by omega
      rw [hf] at hown
      have hown' := hide hown
      have hb' := hide hb
      have hok2 := hide (show (share l width).ok = true by rw [hsh.out])
      clear hf hq hp hb hown
      go_wp2
      unfold SetPost
      go_ret2
      refine ⟨_, by rw [hok2.out]; rfl, own_mono hown'.out (by omega), hb'.out⟩

set_option maxHeartbeats 1000000 in
theorem setE (A : Option Addr) (n c : Nat) (l : List G) (width : Int) (w : World) (hn : n ≤ 60) (hl : l.length = n) (hok : okA l) (h : Rd w 4 A n (cellsG l)) (h0 : 0 ≤ width) (h1 : width ≤ 60000) (hm : width - (totG l).w < 0) (hs : (totG l).sh < -(width - (totG l).w)) (hz : ¬ (totG l).sh = 0) :
    Calls Try.prog 58 #[.slice A n c, .int .i64 width] w (SetPost l width n w) := by
  have hbd := totG_bd hok
  obtain ⟨⟨t1, t2⟩, ⟨t3, t4⟩, ⟨t5, t6⟩, t7, t8⟩ := hbd
  have hsh := hide (share4 hm hs hz)
  have hl' := hide hl
  have hok' := hide hok
  have hmf : ∀ (fn : Fn) (first cap : Array Value) (w : World), (Instr.makeFunc fn first cap).run Try.prog w = .ok (.func fn first cap) w := fun _ _ _ _ => rfl
  have hln : (1000 : Int) * l.length ≤ 60000 := by omega
  have hs' : ((totG l).sh == 0) = false := by simpa using hz
  have hd : decide ((totG l).w ≤ width) = false := by simp; omega
  obtain ⟨i0, hi, hz0, hz1, hz2⟩ := info_parts int_info
  clear hl hok
  go_enter Try.func58, Try.ntmps58
  go_wp2_with fail
  refine (total_any A n c l _ (by omega) hl'.out hok'.out h).mono ?_
  rintro e w1 ⟨rfl, hb1⟩
  have hb1' := hide hb1
  have hz1s := hb1.size
  clear hb1
  go_wp2
  go_quiet (fail)
  go_wp2
  go_loopw [13, 14, 48] (fun v b i wr => ∃ k : Nat, k ≤ n ∧ i = .int .i64 k ∧ SRel l width w w1 false k v b wr) (fun _ _ i _ => n - (intOf i).toNat)
  case atStart =>
    refine ⟨0, Nat.zero_le _, rfl, rfl, World.ownsRow_nil _ _ _ _, (Blk.new _ _ _).alloc _, ?_, ?_, by simp⟩
    · have := Blk.new (w1.alloc (.cells #[.int .i64 (totG l).w, .int .i64 (totG l).st, .int .i64 (totG l).sh, .int .i64 (totG l).o] 26)) 4 #[.bool false]
      rw [World.size_alloc] at this
      exact this
    · have := hb1'.out
      (repeat (first | exact Below.refl _ _ | assumption | refine Below.alloc ?_ (by first | assumption | omega | (simp; done) | (simp; omega)) _ | refine Below.setCell ?_ (by first | assumption | omega | (simp; done) | (simp; omega)) _ | refine below_drewN ?_ _ | refine Below.drew ?_))
  case round =>
    obtain ⟨k, hk, rfl, rfl, hown, hq, hp, hb, hsz⟩ := hrel
    by_cases hlt : k < n
    · obtain ⟨b, off, g, rfl, hbs, hg, c0, c1, c2, c3⟩ := (h.below hb).glue hl'.out hlt
      have hgo := glueOk_true (hok'.out g (List.mem_of_getElem? hg))
      obtain ⟨⟨g1, g2⟩, ⟨g3, g4⟩, ⟨g5, g6⟩, g7, g8⟩ := hgo
      have hfb := f_bd (l := l) (share l width).neg (hok'.out g (List.mem_of_getElem? hg))
      have hSb := sum_take_bd (fOf l (share l width).neg) k hl'.out (by omega) (fun x hx => f_bd _ (hok'.out x hx))
      have hSc : sumOf (fOf l (share l width).neg) (l.take k) ≤ 60000 := by
        have hh := sumOf_bd (fOf l (share l width).neg) 1000 (l.take k) (fun x hx => f_bd _ (hok'.out x (List.mem_of_mem_take hx)))
        have : (l.take k).length ≤ n := by rw [List.length_take]; omega
        omega
      have hqb := share_bd (width := width) hok'.out (by have := hl'.out; omega) h0 h1
      have hst := hide (setTo_step l width k g hg)
      have hsm := hide (sum_step (fOf l (share l width).neg) (hide hg))
      have hq' := hide hq
      have hp' := hide hp
      have hb' := hide hb
      have hown' := hide hown
      have hfg := hide (show g.sh = fOf l (share l width).neg g by rw [hsh.out]; rfl)
      have hx := hide (show setAt (fOf l (share l width).neg) (share l width).q (share l width).all (sgnOf (share l width).neg) l k g = g.w + (-1) * ((totG l).sh * (sumOf (fOf l (share l width).neg) (l.take k) + fOf l (share l width).neg g) / (totG l).sh - (totG l).sh * sumOf (fOf l (share l width).neg) (l.take k) / (totG l).sh) by
        rw [hsh.out]; rfl)
      clear hg hq hp hb hown
      go_wp2_with fail
      refine (of_neg g (w1.heap.size + 1) w1.heap.size _ (totG l) (hp'.out.alloc _) (hq'.out.alloc _)).mono ?_
      rintro e w2 ⟨rfl, hb2⟩
      rw [hfg.out]
      generalize hS : sumOf (fOf l (share l width).neg) (l.take k) = S at hSb hSc hx hsm ⊢
      generalize hF : fOf l (share l width).neg g = F at hfb hx hsm ⊢
      have q2 := hide (hq'.out.alloc (.cells #[.int .i64 g.w, .int .i64 g.st, .int .i64 g.sh, .int .i64 g.o] 26) |>.below' hb2)
      have p2 := hide (hp'.out.alloc (.cells #[.int .i64 g.w, .int .i64 g.st, .int .i64 g.sh, .int .i64 g.o] 26) |>.below' hb2)
      have own2 := hide (own_below (hown'.out.alloc (.cells #[.int .i64 g.w, .int .i64 g.st, .int .i64 g.sh, .int .i64 g.o] 26)) hb2)
      have hb3 := hide (show Below w.heap.size w w2 from (hb'.out.alloc hb'.out.size _).trans (hb2.mono (by have := hb'.out.size; simp; omega)))
      have hsz2 := hb2.size
      rw [World.size_alloc] at hsz2
      obtain ⟨e0, e1, e2, e3, z0, z1, z2, z3⟩ := ((Blk.new wr 26 #[.int .i64 g.w, .int .i64 g.st, .int .i64 g.sh, .int .i64 g.o]).below' hb2).c4
      rw [hsh.out] at hqb
      dsimp only at hqb
      obtain ⟨q1, qq2, al1, al2⟩ := hqb
      have pa := prod_bd (q := (totG l).sh) (s := S + F) q1 qq2 (by omega) (by omega)
      have pb := prod_bd (q := (totG l).sh) (s := S) q1 qq2 (by omega) (by omega)
      obtain ⟨pa1, pa2⟩ := pa
      obtain ⟨pb1, pb2⟩ := pb
      have ra := quot_bd (b := (totG l).sh) pa1 pa2 al1
      have rb := quot_bd (b := (totG l).sh) pb1 pb2 al1
      obtain ⟨ra1, ra2⟩ := ra
      obtain ⟨rb1, rb2⟩ := rb
      have hS' := hide hS
      have hF' := hide hF
      clear hS hF hb2
      go_wp2
      have hw0 : IntKind.i64.wrap ((totG l).sh * (S + F)) = (totG l).sh * (S + F) := IntWalk.i64_in _ (by omega)
      have hw1 : IntKind.i64.wrap ((totG l).sh * S) = (totG l).sh * S := IntWalk.i64_in _ (by omega)
      have hw2 : IntKind.i64.wrap (S + F) = S + F := IntWalk.i64_in _ (by omega)
      have hw3 : IntKind.i64.wrap (S) = S := IntWalk.i64_in _ (by omega)
      have hw4 : IntKind.i64.wrap (S + F - S) = S + F - S := IntWalk.i64_in _ (by omega)
      have hw5 : IntKind.i64.wrap (F) = F := IntWalk.i64_in _ (by omega)
      have hw6 : IntKind.i64.wrap (-F) = -F := IntWalk.i64_in _ (by omega)
      have hw7 : IntKind.i64.wrap (-(S + F - S)) = -(S + F - S) := IntWalk.i64_in _ (by omega)
      have hw8 : IntKind.i64.wrap (g.w + -(S + F - S)) = g.w + -(S + F - S) := IntWalk.i64_in _ (by omega)
      go_region_law (refine step_append_lies _ rfl _ _ 41 rfl (w1.heap.size + 2) 3 i0 (.int .i64 0) 1 8 Try.underlying41 hi hz0 hz1 hz2 rfl (by decide) _ _ _ rfl (World.ownsRow.drew (own2.out.alloc _)) ⟨w2.heap.size, 0, none⟩ 1 1 [.int .i64 (g.w + -(S + F - S))] rfl rfl (fun j u hj => cell_one hj) (one_cells _) (by omega) (by unfold maxLen; omega) (by omega) (by simp; omega) _ rfl (fun g3 cap3 w3 hown3 hg3 hat3 hlt3 => ?_))
      clear hw0 hw1 hw2 hw3 hw4 hw5 hw6 hw7 hw8
      have hX := hide (show g.w + -(S + F - S) = setAt (fOf l (share l width).neg) (share l width).q (share l width).all (sgnOf (share l width).neg) l k g by rw [hx.out]; rw [Int.mul_ediv_cancel_left _ hz, Int.mul_ediv_cancel_left _ hz]; omega)
      rw [hX.out] at hown3
      have hown4 := hide hown3
      have hvb := hide (fun kk hkk => (own2.out.lt kk hkk))
      have q3 := hide (Blk.grown (Blk.drew (q2.out.alloc (.cells #[.int .i64 (g.w + -(S + F - S))] 3))) hg3 (fun e => by have := hvb.out _ e.symm; omega))
      have p3 := hide (Blk.grown (Blk.drew (p2.out.alloc (.cells #[.int .i64 (g.w + -(S + F - S))] 3))) hg3 (fun e => by have := hvb.out _ e.symm; omega))
      have hb4 := hide (((hb3.out.alloc hb3.out.size (.cells #[.int .i64 (g.w + -(S + F - S))] 3)).drew).grown hg3 (by have := hb3.out.size; simp; omega) (fun kk hkk => by have := hvb.out kk hkk; omega))
      have hs3 := hg3.size
      simp only [World.size_drew, World.size_alloc] at hs3
      clear hown3 hg3
      go_wp2
      go_roundw
      case rel =>
        refine ⟨k + 1, by omega, by go_num, ?_, ?_, q3.out, p3.out, hb4.out, by omega⟩
        · rw [hsm.out]
        · have := hown4.out
          rw [hst.out]
          simpa [cellsN] using this
      case measure => simp [intOf]; omega
    · have hf := setTo_full l width k n hl'.out hlt
      obtain rfl : k = n := by omega
      rw [hf] at hown
      have hown' := hide hown
      have hb' := hide hb
      have hok2 := hide (show (share l width).ok = false by rw [hsh.out])
      clear hf hq hp hb hown
      go_wp2
      unfold SetPost
      go_ret2
      refine ⟨_, by rw [hok2.out]; rfl, own_mono hown'.out (by omega), hb'.out⟩

set_option maxHeartbeats 1000000 in
theorem setF (A : Option Addr) (n c : Nat) (l : List G) (width : Int) (w : World) (hn : n ≤ 60) (hl : l.length = n) (hok : okA l) (h : Rd w 4 A n (cellsG l)) (h0 : 0 ≤ width) (h1 : width ≤ 60000) (hm : width - (totG l).w < 0) (hz : (totG l).sh = 0) :
    Calls Try.prog 58 #[.slice A n c, .int .i64 width] w (SetPost l width n w) := by
  have hbd := totG_bd hok
  obtain ⟨⟨t1, t2⟩, ⟨t3, t4⟩, ⟨t5, t6⟩, t7, t8⟩ := hbd
  have hsh := hide (share5 hm hz)
  have hl' := hide hl
  have hok' := hide hok
  have hmf : ∀ (fn : Fn) (first cap : Array Value) (w : World), (Instr.makeFunc fn first cap).run Try.prog w = .ok (.func fn first cap) w := fun _ _ _ _ => rfl
  have hln : (1000 : Int) * l.length ≤ 60000 := by omega
  have hs' : ((totG l).sh == 0) = true := by simpa using hz
  have hs : (totG l).sh < -(width - (totG l).w) := by omega
  have hd : decide ((totG l).w ≤ width) = false := by simp; omega
  obtain ⟨i0, hi, hz0, hz1, hz2⟩ := info_parts int_info
  clear hl hok hz
  go_enter Try.func58, Try.ntmps58
  go_wp2_with fail
  refine (total_any A n c l _ (by omega) hl'.out hok'.out h).mono ?_
  rintro e w1 ⟨rfl, hb1⟩
  have hb1' := hide hb1
  have hz1s := hb1.size
  clear hb1
  go_wp2
  go_quiet (fail)
  go_wp2
  go_loopw [13, 14, 48] (fun v b i wr => ∃ k : Nat, k ≤ n ∧ i = .int .i64 k ∧ SRel l width w w1 false k v b wr) (fun _ _ i _ => n - (intOf i).toNat)
  case atStart =>
    refine ⟨0, Nat.zero_le _, rfl, rfl, World.ownsRow_nil _ _ _ _, (Blk.new _ _ _).alloc _, ?_, ?_, by simp⟩
    · have := Blk.new (w1.alloc (.cells #[.int .i64 (totG l).w, .int .i64 (totG l).st, .int .i64 (totG l).sh, .int .i64 (totG l).o] 26)) 4 #[.bool false]
      rw [World.size_alloc] at this
      exact this
    · have := hb1'.out
      (repeat (first | exact Below.refl _ _ | assumption | refine Below.alloc ?_ (by first | assumption | omega | (simp; done) | (simp; omega)) _ | refine Below.setCell ?_ (by first | assumption | omega | (simp; done) | (simp; omega)) _ | refine below_drewN ?_ _ | refine Below.drew ?_))
  case round =>
    obtain ⟨k, hk, rfl, rfl, hown, hq, hp, hb, hsz⟩ := hrel
    by_cases hlt : k < n
    · obtain ⟨b, off, g, rfl, hbs, hg, c0, c1, c2, c3⟩ := (h.below hb).glue hl'.out hlt
      have hgo := glueOk_true (hok'.out g (List.mem_of_getElem? hg))
      obtain ⟨⟨g1, g2⟩, ⟨g3, g4⟩, ⟨g5, g6⟩, g7, g8⟩ := hgo
      have hfb := f_bd (l := l) (share l width).neg (hok'.out g (List.mem_of_getElem? hg))
      have hSb := sum_take_bd (fOf l (share l width).neg) k hl'.out (by omega) (fun x hx => f_bd _ (hok'.out x hx))
      have hSc : sumOf (fOf l (share l width).neg) (l.take k) ≤ 60000 := by
        have hh := sumOf_bd (fOf l (share l width).neg) 1000 (l.take k) (fun x hx => f_bd _ (hok'.out x (List.mem_of_mem_take hx)))
        have : (l.take k).length ≤ n := by rw [List.length_take]; omega
        omega
      have hqb := share_bd (width := width) hok'.out (by have := hl'.out; omega) h0 h1
      have hst := hide (setTo_step l width k g hg)
      have hsm := hide (sum_step (fOf l (share l width).neg) (hide hg))
      have hq' := hide hq
      have hp' := hide hp
      have hb' := hide hb
      have hown' := hide hown
      have hfg := hide (show g.sh = fOf l (share l width).neg g by rw [hsh.out]; rfl)
      have hx := hide (show setAt (fOf l (share l width).neg) (share l width).q (share l width).all (sgnOf (share l width).neg) l k g = g.w + (-1) * (0 * (sumOf (fOf l (share l width).neg) (l.take k) + fOf l (share l width).neg g) / 1 - 0 * sumOf (fOf l (share l width).neg) (l.take k) / 1) by
        rw [hsh.out]; rfl)
      clear hg hq hp hb hown
      go_wp2_with fail
      refine (of_neg g (w1.heap.size + 1) w1.heap.size _ (totG l) (hp'.out.alloc _) (hq'.out.alloc _)).mono ?_
      rintro e w2 ⟨rfl, hb2⟩
      rw [hfg.out]
      generalize hS : sumOf (fOf l (share l width).neg) (l.take k) = S at hSb hSc hx hsm ⊢
      generalize hF : fOf l (share l width).neg g = F at hfb hx hsm ⊢
      have q2 := hide (hq'.out.alloc (.cells #[.int .i64 g.w, .int .i64 g.st, .int .i64 g.sh, .int .i64 g.o] 26) |>.below' hb2)
      have p2 := hide (hp'.out.alloc (.cells #[.int .i64 g.w, .int .i64 g.st, .int .i64 g.sh, .int .i64 g.o] 26) |>.below' hb2)
      have own2 := hide (own_below (hown'.out.alloc (.cells #[.int .i64 g.w, .int .i64 g.st, .int .i64 g.sh, .int .i64 g.o] 26)) hb2)
      have hb3 := hide (show Below w.heap.size w w2 from (hb'.out.alloc hb'.out.size _).trans (hb2.mono (by have := hb'.out.size; simp; omega)))
      have hsz2 := hb2.size
      rw [World.size_alloc] at hsz2
      obtain ⟨e0, e1, e2, e3, z0, z1, z2, z3⟩ := ((Blk.new wr 26 #[.int .i64 g.w, .int .i64 g.st, .int .i64 g.sh, .int .i64 g.o]).below' hb2).c4
      rw [hsh.out] at hqb
      dsimp only at hqb
      obtain ⟨q1, qq2, al1, al2⟩ := hqb
      have pa := prod_bd (q := 0) (s := S + F) q1 qq2 (by omega) (by omega)
      have pb := prod_bd (q := 0) (s := S) q1 qq2 (by omega) (by omega)
      obtain ⟨pa1, pa2⟩ := pa
      obtain ⟨pb1, pb2⟩ := pb
      have ra := quot_bd (b := 1) pa1 pa2 al1
      have rb := quot_bd (b := 1) pb1 pb2 al1
      obtain ⟨ra1, ra2⟩ := ra
      obtain ⟨rb1, rb2⟩ := rb
      have hS' := hide hS
      have hF' := hide hF
      clear hS hF hb2
      go_wp2
      have hw1 : IntKind.i64.wrap 0 = 0 := IntWalk.i64_in _ (by omega)
      have hw2 : IntKind.i64.wrap g.w = g.w := IntWalk.i64_in _ (by omega)
      go_region_law (refine step_append_lies _ rfl _ _ 41 rfl (w1.heap.size + 2) 3 i0 (.int .i64 0) 1 8 Try.underlying41 hi hz0 hz1 hz2 rfl (by decide) _ _ _ rfl (World.ownsRow.drew (own2.out.alloc _)) ⟨w2.heap.size, 0, none⟩ 1 1 [.int .i64 (g.w)] rfl rfl (fun j u hj => cell_one hj) (one_cells _) (by omega) (by unfold maxLen; omega) (by omega) (by simp; omega) _ rfl (fun g3 cap3 w3 hown3 hg3 hat3 hlt3 => ?_))
      clear hw1 hw2
      have hX := hide (show g.w = setAt (fOf l (share l width).neg) (share l width).q (share l width).all (sgnOf (share l width).neg) l k g by rw [hx.out]; simp)
      rw [hX.out] at hown3
      have hown4 := hide hown3
      have hvb := hide (fun kk hkk => (own2.out.lt kk hkk))
      have q3 := hide (Blk.grown (Blk.drew (q2.out.alloc (.cells #[.int .i64 (g.w)] 3))) hg3 (fun e => by have := hvb.out _ e.symm; omega))
      have p3 := hide (Blk.grown (Blk.drew (p2.out.alloc (.cells #[.int .i64 (g.w)] 3))) hg3 (fun e => by have := hvb.out _ e.symm; omega))
      have hb4 := hide (((hb3.out.alloc hb3.out.size (.cells #[.int .i64 (g.w)] 3)).drew).grown hg3 (by have := hb3.out.size; simp; omega) (fun kk hkk => by have := hvb.out kk hkk; omega))
      have hs3 := hg3.size
      simp only [World.size_drew, World.size_alloc] at hs3
      clear hown3 hg3
      go_wp2
      go_roundw
      case rel =>
        refine ⟨k + 1, by omega, by go_num, ?_, ?_, q3.out, p3.out, hb4.out, by omega⟩
        · rw [hsm.out]
        · have := hown4.out
          rw [hst.out]
          simpa [cellsN] using this
      case measure => simp [intOf]; omega
    · have hf := setTo_full l width k n hl'.out hlt
      obtain rfl : k = n := by omega
      rw [hf] at hown
      have hown' := hide hown
      have hb' := hide hb
      have hok2 := hide (show (share l width).ok = false by rw [hsh.out])
      clear hf hq hp hb hown
      go_wp2
      unfold SetPost
      go_ret2
      refine ⟨_, by rw [hok2.out]; rfl, own_mono hown'.out (by omega), hb'.out⟩

end Go.Proofs.Ytoiacijjbehioaa
