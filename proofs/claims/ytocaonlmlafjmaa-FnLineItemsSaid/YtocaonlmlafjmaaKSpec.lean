/- Several of my texts in one: LSpec1, LSpec2, LSpec3. Their conditions stand at each. -/
import Derived.Test.YtocaonlmlafjmaaKLines
import Derived.Test.YtocaonlmlafjmaaKPlain
import Derived.Test.YtocaonlmlafjmaaAdd
import Derived.Test.YtocaonlmlafjmaaTotal
import Derived.StillTailTactics
import Derived.Test.YtocaonlmlafjmaaKItems
/- The walks through the reference's tests of a line. Condition: the slice reads as the list of items. -/
namespace Go.Proofs.Ytocaonlmlafjmaa
open Go.RowKit
set_option linter.unusedVariables false
set_option linter.unusedSimpArgs false
set_option maxRecDepth 100000

theorem noForced_last {l : List I} {q k r : Nat} (h : noForced l q k = true) (hk : ¬ k < r) (hk2 : k ≤ r) : noForced l q r = true := by
  obtain rfl : k = r := by omega
  exact h
set_option maxHeartbeats 1000000 in
theorem specForced (A : Option Addr) (n c q r : Nat) (l : List I) (w : World) (hn : n ≤ maxLen) (hl : l.length = n) (h : Rd w 7 A n (cellsI l)) (hq : q ≤ r) (hr : r < n) :
    Calls Try.prog 114 #[.slice A n c, .int .i64 ((q : Int) - 1), .int .i64 (r : Int)] w fun e w' => e = .returned (.bool (noForced l q r)) ∧ w = w' := by
  have hl' := hide hl
  have g0 : (q : Int) - 1 + 1 = (q : Int) := by omega
  have hn2 : n ≤ 2 ^ 63 - 1 := hn
  clear hl hn
  go_enter Try.func114, Try.ntmps114
  go_wp2
  go_loop [7] (fun i => ∃ k : Nat, q ≤ k ∧ k ≤ r ∧ i = .int .i64 k ∧ Hid (noForced l q k = true)) (fun i => r - (intOf i).toNat)
  case atStart => exact ⟨q, Nat.le_refl _, hq, by first | rfl | (congr 1), noForced_zero l q⟩
  case round =>
    obtain ⟨k, hqk, hk, rfl, hnf⟩ := hrel
    clear g0
    by_cases hlt : k < r
    · obtain ⟨b, off, x, rfl, hbk, hx, c0, c1, c2, c3, c4', c5', c6⟩ := h.item hl'.out (show k < n by omega)
      have hx' := hide hx
      clear hx
      cases k3 : (x.k == 3) with
      | false =>
        have hst := hide (noForced_step hx'.out (show forcedB x = false by unfold forcedB; rw [k3]; rfl) hnf.out)
        go_wp2
        go_round
        case rel => exact ⟨k + 1, by omega, by omega, by go_num, hst.out⟩
        case measure => simp [intOf]; omega
      | true =>
        cases kc : (x.c == -10000) with
        | false =>
          have hst := hide (noForced_step hx'.out (show forcedB x = false by unfold forcedB; rw [k3, kc]; rfl) hnf.out)
          go_wp2
          go_round
          case rel => exact ⟨k + 1, by omega, by omega, by go_num, hst.out⟩
          case measure => simp [intOf]; omega
        | true =>
          have hno := hide (noForced_no hx'.out (show forcedB x = true by unfold forcedB; rw [k3, kc]; rfl) hqk hlt)
          go_wp2
          go_ret
          exact ⟨by rw [hno.out]; rfl, rfl⟩
    · have e := hide (noForced_last hnf.out hlt hk)
      go_wp2
      go_ret
      exact ⟨by rw [e.out]; rfl, rfl⟩
theorem lineOk_no1 {l : List I} {t u : Int} (h : inB t (-1) (u - 1) = false) : lineOk l t u = false := by unfold lineOk; rw [h]; simp
theorem lineB_from {l : List I} {q r a : Nat} (ha : stA l q = a) (hq : q ≤ r) : lineB l q r = (decide ((a : Int) ≤ (r : Int)) && noForced l q r) := by
  unfold lineB
  rw [ha, decide_eq_true hq, Bool.true_and, show decide ((a : Int) ≤ (r : Int)) = decide (a ≤ r) from decide_eq_decide.2 (by omega)]
set_option maxHeartbeats 2000000 in
theorem specLine7 (A : Option Addr) (n c : Nat) (l : List I) (t u : Int) (w : World) (hn : n ≤ maxLen) (hl : l.length = n) (h : Rd w 7 A n (cellsI l)) (hok : items60 l = true) :
    Calls Try.prog 94 #[.slice A n c, .int .i64 t, .int .i64 u] w fun e w' => e = .returned (.bool (lineOk l t u)) ∧ w = w' := by
  have hn2 : n ≤ 2 ^ 63 - 1 := hn
  have hbk := hide (fun (q : Nat) (hq : q < n) => specBreak A n c q l w hn hl h hq)
  cases hu : inB u 0 ((n : Int) - 1) with
  | false =>
    have e1 := lineOk_no3 (t := t) (mayI_no hl hu)
    rw [e1]
    clear e1 hl hn h hok hbk
    cases hz : inB t (-1) (wrap64 (u - 1)) with
    | false =>
      go_enter Try.func94, Try.ntmps94
      go_wp2_with fail
      go_at_call 70
      refine (l1In_any _ _ _ _).mono ?_
      rintro e w' ⟨rfl, rfl⟩
      rw [hz]
      go_wp2
      go_ret
      exact ⟨rfl, rfl⟩
    | true =>
      go_enter Try.func94, Try.ntmps94
      go_wp2_with fail
      go_at_call 70
      refine (l1In_any _ _ _ _).mono ?_
      rintro e w' ⟨rfl, rfl⟩
      rw [hz]
      go_wp2_with fail
      go_at_call 70
      refine (l1In_any _ _ _ _).mono ?_
      rintro e w' ⟨rfl, rfl⟩
      rw [hu]
      go_wp2
      go_ret
      exact ⟨rfl, rfl⟩
  | true =>
    have hub := inB_true hu
    obtain ⟨r, rfl⟩ := Int.eq_ofNat_of_zero_le hub.1
    have hrn : r < n := by omega
    have g1 : IntKind.i64.wrap ((r : Int) - 1) = (r : Int) - 1 := IntWalk.i64_in _ (by omega)
    cases hz : inB t (-1) ((r : Int) - 1) with
    | false =>
      rw [lineOk_no1 hz]
      clear hl hn h hok hbk hub
      go_enter Try.func94, Try.ntmps94
      go_wp2_with fail
      go_at_call 70
      refine (l1In_any _ _ _ _).mono ?_
      rintro e w' ⟨rfl, rfl⟩
      rw [hz]
      go_wp2
      go_ret
      exact ⟨rfl, rfl⟩
    | true =>
      have hzb := inB_true hz
      obtain ⟨q, hq⟩ := Int.eq_ofNat_of_zero_le (show 0 ≤ t + 1 by omega)
      obtain rfl : t = (q : Int) - 1 := by omega
      have hqr : q ≤ r := by omega
      cases h3 : mayB l r with
      | false =>
        rw [lineOk_no3 (by rw [mayI_nat hl hrn, h3])]
        clear hl hn h hok hub hzb hq
        go_enter Try.func94, Try.ntmps94
        go_wp2_with fail
        go_at_call 70
        refine (l1In_any _ _ _ _).mono ?_
        rintro e w' ⟨rfl, rfl⟩
        rw [hz]
        go_wp2_with fail
        go_at_call 70
        refine (l1In_any _ _ _ _).mono ?_
        rintro e w' ⟨rfl, rfl⟩
        rw [hu]
        go_wp2_with fail
        go_at_call 78
        refine (hbk.out _ hrn).mono ?_
        rintro e w' ⟨rfl, rfl⟩
        rw [h3]
        go_wp2
        go_ret
        exact ⟨rfl, rfl⟩
      | true =>
        have h3' : mayI l (r : Int) = true := by rw [mayI_nat hl hrn, h3]
        have hst := hide (specStart A n c q l w hn hl h (by omega))
        have hfo := hide (specForced A n c q r l w hn hl h hqr hrn)
        obtain ⟨a, ha⟩ : ∃ a, stA l q = a := ⟨_, rfl⟩
        have ha' := hide ha
        have hfin0 := hide (lineB_from ha hqr)
        by_cases q0 : q = 0
        · subst q0
          have h2 : (((0 : Nat) : Int) - 1 == -1 || mayI l (((0 : Nat) : Int) - 1)) = true := by simp
          have hfin := hide (show lineOk l (((0 : Nat) : Int) - 1) (r : Int) = _ from (lineOk_at hok h2 h3').trans hfin0.out)
          have em : ((0 : Nat) : Int) - 1 = -1 := by omega
          clear hl hn h hok hub hzb hq ha h2 h3' hfin0
          rw [em] at hz hst hfo hfin ⊢
          go_enter Try.func94, Try.ntmps94
          go_wp2_with fail
          go_at_call 70
          refine (l1In_any _ _ _ _).mono ?_
          rintro e w' ⟨rfl, rfl⟩
          rw [hz]
          go_wp2_with fail
          go_at_call 70
          refine (l1In_any _ _ _ _).mono ?_
          rintro e w' ⟨rfl, rfl⟩
          rw [hu]
          go_wp2_with fail
          go_at_call 78
          refine (hbk.out _ hrn).mono ?_
          rintro e w' ⟨rfl, rfl⟩
          rw [h3]
          go_wp2_with fail
          go_at_call 81
          refine hst.out.mono ?_
          rintro e w' ⟨rfl, rfl⟩
          rw [ha'.out]
          cases d5 : decide ((a : Int) ≤ (r : Int)) with
          | false =>
            have hd5 := hide (show _ = false from hfin.out.trans (by rw [d5, Bool.false_and]))
            have d6 : decide (a ≤ r) = false := by rw [← d5]; exact decide_eq_decide.2 (by omega)
            go_wp2
            go_ret
            exact ⟨by rw [hd5.out] <;> rfl, rfl⟩
          | true =>
            have hd5 := hide (show _ = noForced l _ r from hfin.out.trans (by rw [d5, Bool.true_and]))
            have d6 : decide (a ≤ r) = true := by rw [← d5]; exact decide_eq_decide.2 (by omega)
            go_wp2_with fail
            go_at_call 114
            refine hfo.out.mono ?_
            rintro e w' ⟨rfl, rfl⟩
            go_wp2
            go_ret
            exact ⟨by rw [hd5.out] <;> rfl, rfl⟩
        · have t0 : ¬ ((q : Int) - 1 < 0) := by omega
          have t0d : decide ((q : Int) - 1 < 0) = false := decide_eq_false t0
          have e1 : (q : Int) - 1 = ((q - 1 : Nat) : Int) := by omega
          have hq1 : q - 1 < n := by omega
          cases h2 : mayB l (q - 1) with
          | false =>
            have h2' : ((q : Int) - 1 == -1 || mayI l ((q : Int) - 1)) = false := by
              rw [e1, mayI_nat hl hq1, h2, Bool.or_false]
              simp <;> omega
            rw [lineOk_no2 h2']
            clear hl hn h hok hub hzb hq ha h2' h3' hfin0 hst hfo
            rw [e1] at hz t0d ⊢
            go_enter Try.func94, Try.ntmps94
            go_wp2_with fail
            go_at_call 70
            refine (l1In_any _ _ _ _).mono ?_
            rintro e w' ⟨rfl, rfl⟩
            rw [hz]
            go_wp2_with fail
            go_at_call 70
            refine (l1In_any _ _ _ _).mono ?_
            rintro e w' ⟨rfl, rfl⟩
            rw [hu]
            go_wp2_with fail
            go_at_call 78
            refine (hbk.out _ hrn).mono ?_
            rintro e w' ⟨rfl, rfl⟩
            rw [h3]
            go_wp2_with fail
            go_at_call 78
            refine (hbk.out _ hq1).mono ?_
            rintro e w' ⟨rfl, rfl⟩
            rw [h2]
            go_wp2
            go_ret
            exact ⟨rfl, rfl⟩
          | true =>
            have h2' : ((q : Int) - 1 == -1 || mayI l ((q : Int) - 1)) = true := by
              rw [e1, mayI_nat hl hq1, h2, Bool.or_true]
            have hfin := hide (show lineOk l ((q : Int) - 1) (r : Int) = _ from (lineOk_at hok h2' h3').trans hfin0.out)
            clear hl hn h hok hub hzb hq ha h2' h3' hfin0 t0
            rw [e1] at hz t0d hst hfo hfin ⊢
            go_enter Try.func94, Try.ntmps94
            go_wp2_with fail
            go_at_call 70
            refine (l1In_any _ _ _ _).mono ?_
            rintro e w' ⟨rfl, rfl⟩
            rw [hz]
            go_wp2_with fail
            go_at_call 70
            refine (l1In_any _ _ _ _).mono ?_
            rintro e w' ⟨rfl, rfl⟩
            rw [hu]
            go_wp2_with fail
            go_at_call 78
            refine (hbk.out _ hrn).mono ?_
            rintro e w' ⟨rfl, rfl⟩
            rw [h3]
            go_wp2_with fail
            go_at_call 78
            refine (hbk.out _ hq1).mono ?_
            rintro e w' ⟨rfl, rfl⟩
            rw [h2]
            go_wp2_with fail
            go_at_call 81
            refine hst.out.mono ?_
            rintro e w' ⟨rfl, rfl⟩
            rw [ha'.out]
            cases d5 : decide ((a : Int) ≤ (r : Int)) with
            | false =>
              have hd5 := hide (show _ = false from hfin.out.trans (by rw [d5, Bool.false_and]))
              have d6 : decide (a ≤ r) = false := by rw [← d5]; exact decide_eq_decide.2 (by omega)
              go_wp2
              go_ret
              exact ⟨by rw [hd5.out] <;> rfl, rfl⟩
            | true =>
              have hd5 := hide (show _ = noForced l _ r from hfin.out.trans (by rw [d5, Bool.true_and]))
              have d6 : decide (a ≤ r) = true := by rw [← d5]; exact decide_eq_decide.2 (by omega)
              go_wp2_with fail
              go_at_call 114
              refine hfo.out.mono ?_
              rintro e w' ⟨rfl, rfl⟩
              go_wp2
              go_ret
              exact ⟨by rw [hd5.out] <;> rfl, rfl⟩
end Go.Proofs.Ytocaonlmlafjmaa

/- The walks through the reference's glue and items of a line. Condition: the slice reads as the list of items. -/
namespace Go.Proofs.Ytocaonlmlafjmaa
open Go.RowKit
set_option linter.unusedVariables false
set_option linter.unusedSimpArgs false
set_option maxRecDepth 100000

def LgP (g : G) (b : Bool) (w : World) (e : Ending) (w' : World) : Prop := e = .returned (.tuple #[.agg #[.int .i64 g.w, .int .i64 g.st, .int .i64 g.sh, .int .i64 g.o], .bool b]) ∧ Below w.heap.size w w'
def GaP (g : G) (w : World) (e : Ending) (w' : World) : Prop := e = .returned (.agg #[.int .i64 g.w, .int .i64 g.st, .int .i64 g.sh, .int .i64 g.o]) ∧ Below w.heap.size w w'
theorem totG_small2 {L : List G} (hok : okA L) (h : L.length ≤ 1000) : smallG (totG L) := by
  have hb := totG_bd hok
  exact ⟨by omega, by omega, by omega, by have := hb.2.2.2; omega⟩
theorem glueOk_small2 {g : G} (h : glueOk g = true) : smallG g := by
  have := glueOk_true h
  exact ⟨by omega, by omega, by omega, by omega⟩
theorem glTo_yes {l : List I} {a k : Nat} {x : I} (ha : a ≤ k) (hx : l[k]? = some x) (h3 : (x.k == 3) = false) : glTo l a (k + 1) = glTo l a k ++ [x.g] := by
  unfold glTo
  rw [liTo_yes ha (by rw [notBr_at hx, h3]; rfl), List.map_append]
  simp [gAt_of hx]
theorem glTo_no {l : List I} {a k : Nat} {x : I} (hx : l[k]? = some x) (h3 : (x.k == 3) = true) : glTo l a (k + 1) = glTo l a k := by
  unfold glTo
  rw [liTo_no (by rw [notBr_at hx, h3]; rfl)]
theorem glTo_start (l : List I) (a : Nat) : glTo l a a = [] := by unfold glTo; rw [liTo_zero l a a (Nat.le_refl _)]; rfl
def SmRel (w : World) (L : List G) (wr : World) : Prop :=
  Blk wr (w.heap.size + 1) 27 #[.int .i64 (totG L).w, .int .i64 (totG L).st, .int .i64 (totG L).sh, .int .i64 (totG L).o] ∧ Blk wr w.heap.size 27 #[.int .i64 0, .int .i64 0, .int .i64 0, .int .i64 0] ∧ Below w.heap.size w wr
def sumL (l : List I) (a r : Nat) : List G := glTo l a r ++ (if isBr l r = true then [gAt l r] else [])
set_option maxHeartbeats 2000000 in
theorem specSum (A : Option Addr) (n c a r : Nat) (l : List I) (w : World) (hn : n ≤ maxLen) (hl : l.length = n) (h : Rd w 7 A n (cellsI l)) (hok : items60 l = true) (har : a ≤ r) (hr : r < n) :
    Calls Try.prog 95 #[.slice A n c, .int .i64 (a : Int), .int .i64 (r : Int)] w (GaP (totG (sumL l a r)) w) := by
  have hl' := hide hl
  have hn2 : n ≤ 2 ^ 63 - 1 := hn
  have h60 := (items60_true hok).2
  have hgk := hide (fun k (hk : k ≤ n) => glTo_ok hok a k (by omega))
  have hio := hide (fun x (hx : x ∈ l) => glueOk_small2 (itemOk_bd ((items60_true hok).1 x hx)).1)
  have hio2 := hide (fun x (hx : x ∈ l) => (itemOk_bd ((items60_true hok).1 x hx)).1)
  have bA := (Blk.new w 27 #[.int .i64 0, .int .i64 0, .int .i64 0, .int .i64 0]).alloc (.cells #[.int .i64 0, .int .i64 0, .int .i64 0, .int .i64 0] 27)
  have bB := Blk.new (w.alloc (.cells #[.int .i64 0, .int .i64 0, .int .i64 0, .int .i64 0] 27)) 27 #[.int .i64 0, .int .i64 0, .int .i64 0, .int .i64 0]
  rw [World.size_alloc] at bB
  have R0 := hide (show SmRel w (glTo l a a) ((w.alloc (.cells #[.int .i64 0, .int .i64 0, .int .i64 0, .int .i64 0] 27)).alloc (.cells #[.int .i64 0, .int .i64 0, .int .i64 0, .int .i64 0] 27)) from by
    unfold SmRel
    rw [glTo_start, totG_nil]
    exact ⟨bB, bA, ((Below.refl _ _).alloc (Nat.le_refl _) _).alloc (by simp) _⟩)
  rw [hl] at h60
  have h' := hide h
  clear bA bB hok hl hn h
  go_enter Try.func95, Try.ntmps95
  go_wp2
  go_loopw [8] (fun i wr => ∃ k : Nat, a ≤ k ∧ k ≤ r ∧ i = .int .i64 k ∧ SmRel w (glTo l a k) wr) (fun i _ => r - (intOf i).toNat)
  case atStart => exact ⟨a, Nat.le_refl _, har, rfl, R0.out⟩
  case round =>
    clear R0
    obtain ⟨k, hak, hk, rfl, R⟩ := hrel
    obtain ⟨d0, d1, d2, d3, y0, y1, y2, y3⟩ := R.1.c4
    obtain ⟨f0, f1, f2, f3, z0, z1, z2, z3⟩ := R.2.1.c4
    have hb := hide R.2.2
    have hsz := R.1.lt
    have hok1 := hide (hgk.out k (by omega))
    have hgl := glTo_len l a k
    obtain ⟨b, off, x, rfl, hbk, hx, c0, c1, c2, c3, c4', c5', c6⟩ := (h'.out.below R.2.2).item hl'.out (show k < n by omega)
    have hxm := List.mem_of_getElem? hx
    have hsm := hide (totG_small2 hok1.out (by omega))
    have hgs := hide (hio.out x hxm)
    have hxok := hide (hio2.out x hxm)
    have hx' := hide hx
    have R' := hide R
    have hkn : k < n := by omega
    have hkni : (k : Int) < (n : Int) := by omega
    clear R hx hxm
    by_cases hlt : k < r
    · cases k3 : (x.k == 3) with
      | true =>
        have b3 := bne_of k3
        have hfin := hide (show SmRel w (glTo l a (k + 1)) wr from by rw [glTo_no hx'.out k3]; exact R'.out)
        go_wp2
        go_roundw
        case rel => exact ⟨k + 1, by omega, by omega, by go_num, hfin.out⟩
        case measure => simp [intOf]; omega
      | false =>
        have b3 := bne_of k3
        have eG := hide (glTo_yes hak hx'.out k3)
        have hst := hide (show totG (glTo l a k ++ [x.g]) = addG (totG (glTo l a k)) x.g from totG_snoc _ _ (fun g hg => by
          rcases List.mem_append.1 hg with hg | hg
          · exact hok1.out g hg
          · simp at hg; subst hg; exact hxok.out))
        go_wp2
        go_still_tail 6, (by kernel_rfl)
        go_wp2_with fail
        refine (l1Add_any (totG (glTo l a k)) x.g _ hsm.out hgs.out).mono ?_
        rintro e w2 ⟨rfl, hb2⟩
        have q1 := (Blk.drew R'.out.1).below' hb2
        have q2 := (Blk.drew R'.out.2.1).below' hb2
        obtain ⟨x0, x1, x2, x3, v0, v1, v2, v3⟩ := q1.c4
        have q1' := hide q1
        have q2' := hide q2
        have hs2 := hb2.size
        have hb3 := hide (show Below w.heap.size w w2 from hb.out.drew.trans (hb2.mono hb.out.size))
        clear hb2 q1 q2
        go_wp2
        go_roundw
        case rel =>
          refine ⟨k + 1, by omega, by omega, by go_num, ?_⟩
          unfold SmRel
          rw [eG.out, hst.out]
          refine ⟨?_, (((q2'.out.far (by simp) _).far (by simp) _).far (by simp) _).far (by simp) _, ?_⟩
          · exact (((q1'.out.set_ 0 _).set_ 1 _).set_ 2 _).set_ 3 _
          · have := hb3.out
            (repeat (first | exact Below.refl _ _ | assumption | refine Below.alloc ?_ (by first | assumption | omega | (simp; done) | (simp; omega)) _ | refine Below.setCell ?_ (by first | assumption | omega | (simp; done) | (simp; omega)) _ | refine below_drewN ?_ _ | refine Below.drew ?_))
        case measure => simp [intOf]; omega
    · obtain rfl : k = r := by omega
      have hrn : decide ((k : Int) < (n : Int)) = true := decide_eq_true (by omega)
      have hrn2 : decide (k < n) = true := decide_eq_true (by omega)
      cases k3 : (x.k == 3) with
      | false =>
        have eS := hide (show sumL l a k = glTo l a k from by unfold sumL; rw [isBr_of hx'.out, k3]; simp)
        go_wp2
        refine bodyPost_ret (v := .agg #[.int .i64 (totG (glTo l a k)).w, .int .i64 (totG (glTo l a k)).st, .int .i64 (totG (glTo l a k)).sh, .int .i64 (totG (glTo l a k)).o]) (by simp [results, Try.results95, go_sem, z0, z1, z2, z3, f0, f1, f2, f3, d0, d1, d2, d3, y0, y1, y2, y3]) rfl ⟨by rw [eS.out], ?_⟩
        have := hb.out
        (repeat (first | exact Below.refl _ _ | assumption | refine Below.alloc ?_ (by first | assumption | omega | (simp; done) | (simp; omega)) _ | refine Below.setCell ?_ (by first | assumption | omega | (simp; done) | (simp; omega)) _ | refine below_drewN ?_ _ | refine Below.drew ?_))
      | true =>
        have eS := hide (show sumL l a k = glTo l a k ++ [x.g] from by unfold sumL; rw [isBr_of hx'.out, k3, if_pos rfl, gAt_of hx'.out])
        have hst := hide (show totG (glTo l a k ++ [x.g]) = addG (totG (glTo l a k)) x.g from totG_snoc _ _ (fun g hg => by
          rcases List.mem_append.1 hg with hg | hg
          · exact hok1.out g hg
          · simp at hg; subst hg; exact hxok.out))
        go_wp2
        go_still_tail 6, (by kernel_rfl)
        go_wp2_with fail
        refine (l1Add_any (totG (glTo l a k)) x.g _ hsm.out hgs.out).mono ?_
        rintro e w2 ⟨rfl, hb2⟩
        have q1 := (Blk.drew R'.out.1).below' hb2
        have q2 := (Blk.drew R'.out.2.1).below' hb2
        obtain ⟨x0, x1, x2, x3, v0, v1, v2, v3⟩ := q1.c4
        obtain ⟨s0, s1, s2, s3, u0, u1, u2, u3⟩ := q2.c4
        have hs2 := hb2.size
        have hsz2 := q1.lt
        have hb3 := hide (show Below w.heap.size w w2 from hb.out.drew.trans (hb2.mono hb.out.size))
        clear hb2 q1 q2 d0 d1 d2 d3 y0 y1 y2 y3 f0 f1 f2 f3 z0 z1 z2 z3
        generalize addG (totG (glTo l a k)) x.g = S at *
        have hB : w.heap.size ≤ w.heap.size + 1 := Nat.le_succ _
        have hB0 : w.heap.size ≤ w.heap.size := Nat.le_refl _
        have hend := hide ((((((((hb3.out.setCell (p := ⟨w.heap.size + 1, 0, none⟩) hB (.int .i64 S.w)).setCell (p := ⟨w.heap.size + 1, 1, none⟩) hB (.int .i64 S.st)).setCell (p := ⟨w.heap.size + 1, 2, none⟩) hB (.int .i64 S.sh)).setCell (p := ⟨w.heap.size + 1, 3, none⟩) hB (.int .i64 S.o)).setCell (p := ⟨w.heap.size, 0, none⟩) hB0 (.int .i64 S.w)).setCell (p := ⟨w.heap.size, 1, none⟩) hB0 (.int .i64 S.st)).setCell (p := ⟨w.heap.size, 2, none⟩) hB0 (.int .i64 S.sh)).setCell (p := ⟨w.heap.size, 3, none⟩) hB0 (.int .i64 S.o))
        go_wp2
        refine bodyPost_ret (v := .agg #[.int .i64 (S).w, .int .i64 (S).st, .int .i64 (S).sh, .int .i64 (S).o]) (by simp [results, Try.results95, go_sem, s0, s1, s2, s3, u0, u1, u2, u3, x0, x1, x2, x3, v0, v1, v2, v3]) rfl ⟨by rw [eS.out, hst.out], ?_⟩
        exact hend.out
theorem sumL_line {l : List I} {t u : Int} (h : lineOk l t u = true) : totG (sumL l (stA l (t + 1).toNat) u.toNat) = lineG l t u := by
  rw [lineG_yes h]; rfl
set_option maxHeartbeats 2000000 in
theorem specLG (A : Option Addr) (n c : Nat) (l : List I) (t u : Int) (w : World) (hn : n ≤ maxLen) (hl : l.length = n) (h : Rd w 7 A n (cellsI l)) :
    Calls Try.prog 60 #[.slice A n c, .int .i64 t, .int .i64 u] w (LgP (lineG l t u) (lineOk l t u) w) := by
  have h1 := h.alloc (.cells #[.int .i64 0, .int .i64 0, .int .i64 0, .int .i64 0] 27)
  have hk0 := Blk.new w 27 #[.int .i64 0, .int .i64 0, .int .i64 0, .int .i64 0]
  have hb0 := hide ((Below.refl w.heap.size w).alloc (Nat.le_refl _) (.cells #[.int .i64 0, .int .i64 0, .int .i64 0, .int .i64 0] 27))
  have hv := hide (specItems A n c l (w.alloc (.cells #[.int .i64 0, .int .i64 0, .int .i64 0, .int .i64 0] 27)) hn hl h1)
  cases h60 : items60 l with
  | false =>
    have e1 := lineOk_no60 (t := t) (u := u) h60
    have e1' := hide e1
    rw [h60] at hv
    clear e1 h60 h1 hn hl h
    go_enter Try.func60, Try.ntmps60
    go_wp2_with fail
    refine hv.out.mono ?_
    rintro e w1 ⟨rfl, hb1⟩
    have hk1 := hk0.below' hb1
    obtain ⟨c0, c1, c2, c3, z0, z1, z2, z3⟩ := hk1.c4
    have hbe := hide (hb0.out.trans (hb1.mono (by simp)))
    have hlt := hk1.lt
    clear hb1 hk1 hk0
    go_wp2
    refine bodyPost_ret (v := .tuple #[.agg #[.int .i64 0, .int .i64 0, .int .i64 0, .int .i64 0], .bool false]) (by simp [results, Try.results60, go_sem, c0, c1, c2, c3, z0, z1, z2, z3]) rfl ⟨by rw [lineG_bad e1'.out, e1'.out], ?_⟩
    have := hbe.out
    (repeat (first | exact Below.refl _ _ | assumption | refine Below.alloc ?_ (by first | assumption | omega | (simp; done) | (simp; omega)) _ | refine Below.setCell ?_ (by first | assumption | omega | (simp; done) | (simp; omega)) _ | refine below_drewN ?_ _ | refine Below.drew ?_))
  | true =>
    rw [h60] at hv
    go_enter Try.func60, Try.ntmps60
    go_wp2_with fail
    refine hv.out.mono ?_
    rintro e w1 ⟨rfl, hb1⟩
    have hk1 := hk0.below' hb1
    have hr1 := hide (h1.below (hb1.mono (Nat.le_refl _)))
    obtain ⟨c0, c1, c2, c3, z0, z1, z2, z3⟩ := hk1.c4
    have hbe := hide (hb0.out.trans (hb1.mono (by simp)))
    have hlt := hk1.lt
    have hbs := hbe.out.size
    have h7 := hide (specLine7 A n c l t u w1 hn hl hr1.out h60)
    clear hb1 hk0 h1 h
    go_wp2_with fail
    refine h7.out.mono ?_
    rintro e w' ⟨rfl, rfl⟩
    cases hk : lineOk l t u with
    | false =>
      have hk' := hide hk
      clear hk hn hl hk1 h60
      go_wp2
      refine bodyPost_ret (v := .tuple #[.agg #[.int .i64 0, .int .i64 0, .int .i64 0, .int .i64 0], .bool false]) (by simp [results, Try.results60, go_sem, c0, c1, c2, c3, z0, z1, z2, z3]) rfl ⟨by rw [lineG_bad hk'.out, hk'.out], ?_⟩
      have := hbe.out
      (repeat (first | exact Below.refl _ _ | assumption | refine Below.alloc ?_ (by first | assumption | omega | (simp; done) | (simp; omega)) _ | refine Below.setCell ?_ (by first | assumption | omega | (simp; done) | (simp; omega)) _ | refine below_drewN ?_ _ | refine Below.drew ?_))
    | true =>
      obtain ⟨-, b1, b2, b3, b4, b5⟩ := lineOk_true hk
      have b2' := mayI_bd b2
      obtain ⟨q, hq⟩ := Int.eq_ofNat_of_zero_le (show 0 ≤ t + 1 by omega)
      obtain rfl : t = (q : Int) - 1 := by omega
      obtain ⟨r, rfl⟩ := Int.eq_ofNat_of_zero_le b2'.1
      have eq0 : ((q : Int) - 1 + 1).toNat = q := by omega
      have eS := hide (sumL_line hk)
      rw [eq0] at b4 eS
      rw [Int.toNat_natCast] at eS
      have hs5 := hide (specStart A n c q l w1 hn hl hr1.out (by omega))
      have hs6 := hide (specSum A n c (stA l q) r l w1 hn hl hr1.out h60 (by omega) (by omega))
      have hk1' := hide hk1
      have hk' := hide hk
      clear hk hn hl hk1 h60 b1 b2 b3 b4 b5 b2' hq
      go_wp2_with fail
      refine hs5.out.mono ?_
      rintro e w' ⟨rfl, rfl⟩
      go_wp2_with fail
      refine hs6.out.mono ?_
      rintro e w2 ⟨rfl, hb2⟩
      have hk2 := hk1'.out.below' hb2
      rw [eS.out]
      obtain ⟨j0, j1, j2, j3, i0, i1, i2, i3⟩ := hk2.c4
      have hlt2 := hk2.lt
      have hbe2 := hide (hbe.out.trans (hb2.mono hbs))
      clear hb2 hk2 c0 c1 c2 c3 z0 z1 z2 z3
      go_wp2
      refine bodyPost_ret (v := .tuple #[.agg #[.int .i64 (lineG l ((q : Int) - 1) (r : Int)).w, .int .i64 (lineG l ((q : Int) - 1) (r : Int)).st, .int .i64 (lineG l ((q : Int) - 1) (r : Int)).sh, .int .i64 (lineG l ((q : Int) - 1) (r : Int)).o], .bool true]) (by simp [results, Try.results60, go_sem, j0, j1, j2, j3, i0, i1, i2, i3]) rfl ⟨by rw [hk'.out], ?_⟩
      have := hbe2.out
      (repeat (first | exact Below.refl _ _ | assumption | refine Below.alloc ?_ (by first | assumption | omega | (simp; done) | (simp; omega)) _ | refine Below.setCell ?_ (by first | assumption | omega | (simp; done) | (simp; omega)) _ | refine below_drewN ?_ _ | refine Below.drew ?_))
end Go.Proofs.Ytocaonlmlafjmaa

/- The walk of the reference's LineItems. Condition: the slice reads as the list of items. -/
namespace Go.Proofs.Ytocaonlmlafjmaa
open Go.RowKit
set_option linter.unusedVariables false
set_option linter.unusedSimpArgs false
set_option maxRecDepth 100000

set_option maxHeartbeats 2000000 in
theorem specLineIts (A : Option Addr) (n c : Nat) (l : List I) (t u : Int) (w : World) (hn : n ≤ maxLen) (hl : l.length = n) (h : Rd w 7 A n (cellsI l)) :
    Calls Try.prog 67 #[.slice A n c, .int .i64 t, .int .i64 u] w (RowB (toI (lineI l t u)) w) := by
  obtain ⟨i0, hi, hz0, hz1, hz2⟩ := info_parts int_info
  have h1 := h.alloc (.cells #[] 3)
  have hk0 := Blk.new w 3 #[]
  have hb0 := hide ((Below.refl w.heap.size w).alloc (Nat.le_refl _) (.cells #[] 3))
  have hc := hide (specLG A n c l t u (w.alloc (.cells #[] 3)) hn hl h1)
  have hl' := hide hl
  have hn2 : n ≤ 2 ^ 63 - 1 := hn
  cases hk : lineOk l t u with
  | false =>
    have hk' := hide hk
    rw [hk] at hc
    clear hk h1 hn hl h
    go_enter Try.func67, Try.ntmps67
    go_wp2_with fail
    refine hc.out.mono ?_
    rintro e w1 ⟨rfl, hb1⟩
    have hbe := hide (hb0.out.trans (hb1.mono (by simp)))
    have hown := hide (own_emptyB (base := w.heap.size) (hk0.below' hb1) (Nat.le_refl _))
    have hs := hbe.out.size
    clear hb1 hk0
    go_wp2
    unfold RowB
    go_ret
    rw [lineI_bad hk'.out]
    exact ⟨_, rfl, hown.out.alloc _, hbe.out.alloc hs _⟩
  | true =>
    have hk' := hide hk
    rw [hk] at hc
    obtain ⟨ho, b1, b2, b3, b4, b5⟩ := lineOk_true hk
    have b2' := mayI_bd b2
    obtain ⟨q, hq⟩ := Int.eq_ofNat_of_zero_le (show 0 ≤ t + 1 by omega)
    obtain rfl : t = (q : Int) - 1 := by omega
    obtain ⟨r, rfl⟩ := Int.eq_ofNat_of_zero_le b2'.1
    have hrn : r < n := by omega
    have hst5 := hide (fun W (hW : Rd W 7 A n (cellsI l)) => specStart A n c q l W hn hl hW (by omega))
    have eR := hide (lineI_yes hk)
    have eq0 : ((q : Int) - 1 + 1).toNat = q := by omega
    rw [eq0, Int.toNat_natCast] at eR
    rw [eq0] at b4
    have h60 := (items60_true ho).2
    rw [hl] at h60
    generalize stA l q = a at *
    have har : a ≤ r := by omega
    clear hk hn hl ho b1 b2 b3 b4 b5 b2' hq
    go_enter Try.func67, Try.ntmps67
    go_wp2_with fail
    refine hc.out.mono ?_
    rintro e w1 ⟨rfl, hb1⟩
    have hbe := hide (hb0.out.trans (hb1.mono (by simp)))
    have hown := own_emptyB (base := w.heap.size) (hk0.below' hb1) (Nat.le_refl _)
    have hs := hbe.out.size
    have h2 := hide ((h1.below (hb1.mono (Nat.le_refl _))).alloc (.cells #[.int .i64 (lineG l ((q : Int) - 1) (r : Int)).w, .int .i64 (lineG l ((q : Int) - 1) (r : Int)).st, .int .i64 (lineG l ((q : Int) - 1) (r : Int)).sh, .int .i64 (lineG l ((q : Int) - 1) (r : Int)).o] 27))
    have hst := hide (show LiRel l w a a (.slice (some ⟨w.heap.size, 0, none⟩) 0 0) (w1.alloc (.cells #[.int .i64 (lineG l ((q : Int) - 1) (r : Int)).w, .int .i64 (lineG l ((q : Int) - 1) (r : Int)).st, .int .i64 (lineG l ((q : Int) - 1) (r : Int)).sh, .int .i64 (lineG l ((q : Int) - 1) (r : Int)).o] 27)) from by
      unfold LiRel
      rw [liTo_zero l a a (Nat.le_refl _)]
      exact ⟨hown.alloc _, hbe.out.alloc hs _⟩)
    clear hb1 hk0 hown hc h1 hb0
    go_wp2_with fail
    refine (hst5.out _ h2.out).mono ?_
    rintro e w' ⟨rfl, rfl⟩
    go_wp2
    go_loopw [7, 10] (fun v i wr => ∃ k : Nat, a ≤ k ∧ k ≤ r ∧ i = .int .i64 k ∧ LiRel l w a k v wr) (fun _ i _ => r - (intOf i).toNat)
    case atStart => exact ⟨a, Nat.le_refl _, har, rfl, hst.out⟩
    case round =>
      clear hst
      obtain ⟨k, hak, hk, rfl, hrel⟩ := hrel
      have hrel' := hide hrel
      obtain ⟨hown, hb⟩ := hrel
      have hown' := hide hown
      have hbs := hb.size
      have hlen : (toI (liTo l a k)).length ≤ 60 := by rw [toI_len]; have := liTo_len l a k; omega
      by_cases hlt : k < r
      · obtain ⟨b, off, x, rfl, hbk, hx, c0, c1, c2, c3, c4', c5', c6⟩ := (h.below hb).item hl'.out (show k < n by omega)
        have hnb := hide (notBr_at hx)
        have hkn : k < n := by omega
        have hkni : (k : Int) < (n : Int) := by omega
        clear hx hown hb
        cases k3 : (x.k == 3) with
        | true =>
          have b3 := bne_of k3
          have hfin := hide (li_no (by rw [hnb.out, k3]; rfl) hrel'.out)
          go_wp2
          go_roundw
          case rel => exact ⟨k + 1, by omega, by omega, by go_num, hfin.out⟩
          case measure => simp [intOf]; omega
        | false =>
          have b3 := bne_of k3
          go_wp2_with (at_builtin; refine wpList_append_lies _ rfl _ _ 60 rfl w.heap.size 3 i0 (.int .i64 0) 1 8 Try.underlying60 hi hz0 hz1 hz2 rfl (by decide) _ _ _ rfl (hown'.out.alloc _) ⟨wr.heap.size, 0, none⟩ 1 1 [.int .i64 (k : Int)] rfl rfl (fun j u hj => cell_one_at (by simp) hj) (one_cells _) (by omega) (by unfold maxLen; omega) (by omega) (by simp; omega) _ rfl ?_)
          intro g3 cap3 w3 hown3 hg3 hat3 hlt3
          have hfin := hide (li_yes hak (by rw [hnb.out, k3]; rfl) hrel'.out hown3 hg3)
          clear hown3 hg3 hat3 hlt3
          go_wp2
          go_roundw
          case rel => exact ⟨k + 1, by omega, by omega, by go_num, hfin.out⟩
          case measure => simp [intOf]; omega
      · obtain rfl : r = k := by omega
        have hb' := hide hb
        clear hown hb
        go_wp2
        unfold RowB
        go_ret
        rw [eR.out]
        exact ⟨_, rfl, hown'.out, hb'.out⟩
theorem lineIts_bd (l : List I) (t u : Int) : (toI (lineI l t u)).length ≤ 60 := by rw [toI_len]; exact lineI_len l t u
end Go.Proofs.Ytocaonlmlafjmaa
