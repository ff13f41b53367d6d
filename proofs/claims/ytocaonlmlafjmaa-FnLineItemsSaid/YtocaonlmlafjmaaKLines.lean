/- Several of my texts in one: Lines, Lines2, Lines3. Their conditions stand at each. -/
import Derived.Test.YtocaonlmlafjmaaKItems
import Derived.Test.YtocaonlmlafjmaaKPlain
/- The walks through the items of a line. Condition: the slice reads as the list of items. -/
namespace Go.Proofs.Ytocaonlmlafjmaa
open Go.RowKit
set_option linter.unusedVariables false
set_option linter.unusedSimpArgs false
set_option maxRecDepth 100000

def LineP (R : List Int) (b : Bool) (w : World) (e : Ending) (w' : World) : Prop := ∃ v, e = .returned (.tuple #[v, .bool b]) ∧ w'.ownsRow w.heap.size 3 1 v R.length (cellsN R) ∧ Below w.heap.size w w'
def lineB (l : List I) (q r : Nat) : Bool := decide (q ≤ r) && decide (stA l q ≤ r) && noForced l q r
def lineR (l : List I) (q r : Nat) : List Int := if lineB l q r = true then toI (liTo l (stA l q) r) else []
theorem lineB_no4 {l : List I} {q r : Nat} (h : ¬ q ≤ r) : lineB l q r = false := by simp [lineB, h]
theorem lineB_no5 {l : List I} {q r a : Nat} (ha : stA l q = a) (h : ¬ a ≤ r) : lineB l q r = false := by simp [lineB, ha, h]
theorem noForced_zero (l : List I) (q : Nat) : noForced l q q = true := by
  unfold noForced
  rw [List.all_eq_true]
  intro k hk
  rw [List.mem_range] at hk
  simp [hk]
theorem noForced_step {l : List I} {q k : Nat} {x : I} (hx : l[k]? = some x) (hf : forcedB x = false) (h : noForced l q k = true) : noForced l q (k + 1) = true := by
  unfold noForced at h ⊢
  rw [List.range_succ, List.all_append, h]
  simp [hx, hf]
theorem noForced_no {l : List I} {q k r : Nat} {x : I} (hx : l[k]? = some x) (hf : forcedB x = true) (hq : q ≤ k) (hr : k < r) : noForced l q r = false := by
  unfold noForced
  rw [List.all_eq_false]
  refine ⟨k, List.mem_range.2 hr, ?_⟩
  simp [hx, hf]; omega
theorem lineB_no6 {l : List I} {q r : Nat} (h : noForced l q r = false) : lineB l q r = false := by simp [lineB, h]
theorem lineB_yes {l : List I} {q r a : Nat} (ha : stA l q = a) (h4 : q ≤ r) (h5 : a ≤ r) (h6 : noForced l q r = true) : lineB l q r = true := by simp [lineB, ha, h4, h5, h6]
def LiRel (l : List I) (w : World) (a k : Nat) (v : Value) (wr : World) : Prop :=
  wr.ownsRow w.heap.size 3 1 v (toI (liTo l a k)).length (cellsN (toI (liTo l a k))) ∧ Below w.heap.size w wr
theorem li_yes {l : List I} {w wr w3 : World} {a k g3 cap3 : Nat} {v : Value} (ha : a ≤ k) (hb : notBr l k = true) (h : LiRel l w a k v wr)
    (hown3 : w3.ownsRow w.heap.size 3 1 (.slice (some ⟨g3, 0, none⟩) ((toI (liTo l a k)).length + 1) cap3) ((toI (liTo l a k)).length + 1) (cellsN (toI (liTo l a k)) ++ [.int .i64 (k : Int)]))
    (hg3 : (wr.alloc (.cells #[.int .i64 (k : Int)] 3)).grownBy w3 v.ownBlock) : LiRel l w a (k + 1) (.slice (some ⟨g3, 0, none⟩) ((toI (liTo l a k)).length + 1) cap3) w3 := by
  obtain ⟨h1, h4⟩ := h
  refine ⟨?_, (h4.alloc h4.size _).grown hg3 (by simp; have := h4.size; omega) (fun kk hkk => (h1.lt kk hkk).1)⟩
  rw [liTo_yes ha hb, toI_snoc, List.length_append, List.length_singleton]
  simpa [cellsN] using hown3
theorem li_no {l : List I} {w wr : World} {a k : Nat} {v : Value} (hb : notBr l k = false) (h : LiRel l w a k v wr) : LiRel l w a (k + 1) v wr := by
  unfold LiRel at h ⊢
  rw [liTo_no hb]
  exact h
theorem notBr_at {l : List I} {k : Nat} {x : I} (hx : l[k]? = some x) : notBr l k = !(x.k == 3) := by unfold notBr; rw [hx]
end Go.Proofs.Ytocaonlmlafjmaa

/- The walk of impl.lineItems. Condition: the slice reads as the list of items. -/
namespace Go.Proofs.Ytocaonlmlafjmaa
open Go.RowKit
set_option linter.unusedVariables false
set_option linter.unusedSimpArgs false
set_option maxRecDepth 100000

set_option maxHeartbeats 2000000 in
theorem implLiN (A : Option Addr) (n c q r : Nat) (l : List I) (w : World) (hn : n ≤ maxLen) (hl : l.length = n) (h : Rd w 7 A n (cellsI l)) (hok : items60 l = true) (hq : q ≤ n) (hr : r < n)
    (hb2 : ((q : Int) - 1 == -1 || mayI l ((q : Int) - 1)) = true) (hb3 : mayI l (r : Int) = true) :
    Calls Try.prog 96 #[.slice A n c, .int .i64 ((q : Int) - 1), .int .i64 (r : Int)] w (LineP (lineR l q r) (lineB l q r) w) := by
  obtain ⟨i0, hi, hz0, hz1, hz2⟩ := info_parts int_info
  have hv := hide (implItems A n c l w hn hl h)
  have hm := hide (fun W (hr : Rd W 7 A n (cellsI l)) t => implMay0 A n c l t W hn hl hr)
  have hs := hide (fun W (hr : Rd W 7 A n (cellsI l)) => implStart A n c q l W hn hl hr hq hok)
  have h60 := (items60_true hok).2
  have hl' := hide hl
  have h' := hide h
  have hn2 : n ≤ 2 ^ 63 - 1 := hn
  rw [hl] at h60
  rw [hok] at hv
  have hab := stA_bd l q (by omega)
  obtain ⟨a, ha⟩ : ∃ a, stA l q = a := ⟨_, rfl⟩
  have ha' := hide ha
  rw [ha] at hs hab
  have g0 : (q : Int) - 1 + 1 = (q : Int) := by omega
  have haq := hab.1
  clear ha hok hl h hn hab
  cases bq : ((q : Int) - 1 == -1) with
  | true =>
    have nq := bne_of bq
    go_enter Try.func96, Try.ntmps96
    go_wp2_with fail
    refine hv.out.mono ?_
    rintro e w1 ⟨rfl, hb1⟩
    have hb1' := hide hb1
    have hs1 := hb1.size
    clear hb1
    go_wp2_with fail
    refine (hm.out _ (h'.out.below hb1'.out) _).mono ?_
    rintro e w' ⟨rfl, rfl⟩
    rw [hb3]
    by_cases c4 : q ≤ r
    · have d4 : decide ((r : Int) ≤ (q : Int) - 1) = false := decide_eq_false (by omega)
      go_wp2_with fail
      refine (hs.out _ (h'.out.below hb1'.out)).mono ?_
      rintro e w2 ⟨rfl, hb2⟩
      have bel2 := hide (hb1'.out.trans (hb2.mono hs1))
      have s2 := bel2.out.size
      clear hb2
      by_cases c5 : a ≤ r
      · have d5 : decide ((r : Int) < (a : Int)) = false := decide_eq_false (by omega)
        have d5' : decide (r < a) = false := decide_eq_false (by omega)
        go_wp2
        go_loopw [8] (fun i wr => ∃ k : Nat, q ≤ k ∧ k ≤ r ∧ i = .int .i64 k ∧ Hid (noForced l q k = true) ∧ Below w.heap.size w wr) (fun i _ => r - (intOf i).toNat)
        case atStart => exact ⟨q, Nat.le_refl _, c4, by first | rfl | (congr 1), noForced_zero l q, bel2.out⟩
        case round =>
          obtain ⟨k, hqk, hk, rfl, hnf, hw⟩ := hrel
          have c5h := hide c5
          clear c5 d5 d5'
          have hw' := hide hw
          have hws := hw.size
          by_cases hlt : k < r
          · obtain ⟨b, off, x, rfl, hbk, hx, c0, c1, c2, c3, c4', c5', c6⟩ := (h'.out.below hw).item hl'.out (show k < n by omega)
            have hx' := hide hx
            clear hx hw
            cases kf : forcedB x with
            | true =>
              go_wp2_with fail
              refine (forced_any x _).mono ?_
              rintro e w3 ⟨rfl, hb3⟩
              rw [kf]
              have bel3 := hide (hw'.out.trans (hb3.mono hws))
              clear hb3
              go_wp2
              unfold LineP
              go_ret2
              have eL := lineB_no6 (noForced_no hx'.out kf hqk hlt)
              unfold lineR
              rw [eL]
              exact ⟨_, rfl, World.ownsRow_nil _ _ _ _, bel3.out⟩
            | false =>
              have hst := hide (noForced_step hx'.out kf hnf.out)
              go_wp2_with fail
              refine (forced_any x _).mono ?_
              rintro e w3 ⟨rfl, hb3⟩
              rw [kf]
              have bel3 := hide (hw'.out.trans (hb3.mono hws))
              clear hb3
              go_wp2
              go_roundw
              case rel =>
                exact ⟨k + 1, by omega, by omega, by go_num, hst.out, bel3.out⟩
              case measure => simp [intOf]; omega
          · obtain rfl : r = k := by omega
            have eL := hide (lineB_yes ha'.out c4 c5h.out hnf.out)
            have hst := hide (fun W (hW : Below w.heap.size w W) => show LiRel l w a a (.slice none 0 0) W from by
              unfold LiRel
              rw [liTo_zero l a a (Nat.le_refl _)]
              exact ⟨World.ownsRow_nil _ _ _ _, hW⟩)
            clear hw
            go_wp2_with fail
            refine (hs.out _ (h'.out.below hw'.out)).mono ?_
            rintro e w4 ⟨rfl, hb4⟩
            have bel4 := hide (hw'.out.trans (hb4.mono hws))
            clear hb4
            go_wp2
            go_loopw [9, 10] (fun v i wr => ∃ k : Nat, a ≤ k ∧ k ≤ r ∧ i = .int .i64 k ∧ LiRel l w a k v wr) (fun _ i _ => r - (intOf i).toNat)
            case atStart => exact ⟨a, Nat.le_refl _, c5h.out, rfl, hst.out _ bel4.out⟩
            case round =>
              obtain ⟨k, hak, hk, rfl, hrel⟩ := hrel
              have hrel' := hide hrel
              obtain ⟨hown, hb⟩ := hrel
              have hown' := hide hown
              have hbs := hb.size
              have hlen : (toI (liTo l a k)).length ≤ 60 := by rw [toI_len]; have := liTo_len l a k; omega
              by_cases hlt : k < r
              · obtain ⟨b, off, x, rfl, hbk, hx, c0, c1, c2, c3, c4', c5', c6⟩ := (h'.out.below hb).item hl'.out (show k < n by omega)
                have hnb := hide (notBr_at hx)
                clear hx hown hb hst
                cases k3 : (x.k == 3) with
                | true =>
                  have b3 := bne_of k3
                  have hfin := hide (li_no (by rw [hnb.out, k3]; rfl) hrel'.out)
                  go_wp2
                  go_roundw
                  case rel => exact ⟨k + 1, by omega, by omega, by go_num, hfin.out⟩
                  case measure => simp [intOf]; omega
                | false =>
                  have b3 := bne_of k3
                  go_wp2_with (first | (at_builtin; refine wpList_append_lies _ rfl _ _ 60 rfl w.heap.size 3 i0 (.int .i64 0) 1 8 Try.underlying60 hi hz0 hz1 hz2 rfl (by decide) _ _ _ rfl (hown'.out.alloc _) ⟨wr.heap.size, 0, none⟩ 1 1 [.int .i64 (k : Int)] rfl rfl (fun j u hj => cell_one_at (by simp) hj) (one_cells _) (by omega) (by unfold maxLen; omega) (by omega) (by simp; omega) _ rfl ?_))
                  intro g3 cap3 w3 hown3 hg3 hat3 hlt3
                  have hfin := hide (li_yes hak (by rw [hnb.out, k3]; rfl) hrel'.out hown3 hg3)
                  clear hown3 hg3 hat3 hlt3
                  go_wp2
                  go_roundw
                  case rel => exact ⟨k + 1, by omega, by omega, by go_num, hfin.out⟩
                  case measure => simp [intOf]; omega
              · obtain rfl : r = k := by omega
                have hb' := hide hb
                clear hown hb hst
                go_wp2
                unfold LineP
                go_ret2
                unfold lineR
                rw [eL.out, if_pos rfl, ha'.out]
                exact ⟨_, rfl, hown'.out, hb'.out⟩
      · have d5 : decide ((r : Int) < (a : Int)) = true := decide_eq_true (by omega)
        have d5' : decide (r < a) = true := decide_eq_true (by omega)
        go_wp2
        unfold LineP
        go_ret2
        have eL := lineB_no5 ha'.out c5
        unfold lineR
        rw [eL]
        exact ⟨_, rfl, World.ownsRow_nil _ _ _ _, bel2.out⟩
    · have d4 : decide ((r : Int) ≤ (q : Int) - 1) = true := decide_eq_true (by omega)
      go_wp2
      unfold LineP
      go_ret2
      have eL := lineB_no4 (l := l) c4
      unfold lineR
      rw [eL]
      exact ⟨_, rfl, World.ownsRow_nil _ _ _ _, hb1'.out⟩
  | false =>
    have nq := bne_of bq
    have hb4 : mayI l ((q : Int) - 1) = true := by rw [bq, Bool.false_or] at hb2; exact hb2
    go_enter Try.func96, Try.ntmps96
    go_wp2_with fail
    refine hv.out.mono ?_
    rintro e w1 ⟨rfl, hb1⟩
    have hb1' := hide hb1
    have hs1 := hb1.size
    clear hb1
    go_wp2_with fail
    refine (hm.out _ (h'.out.below hb1'.out) _).mono ?_
    rintro e w' ⟨rfl, rfl⟩
    rw [hb4]
    go_wp2_with fail
    refine (hm.out _ (h'.out.below hb1'.out) _).mono ?_
    rintro e w' ⟨rfl, rfl⟩
    rw [hb3]
    by_cases c4 : q ≤ r
    · have d4 : decide ((r : Int) ≤ (q : Int) - 1) = false := decide_eq_false (by omega)
      go_wp2_with fail
      refine (hs.out _ (h'.out.below hb1'.out)).mono ?_
      rintro e w2 ⟨rfl, hb2⟩
      have bel2 := hide (hb1'.out.trans (hb2.mono hs1))
      have s2 := bel2.out.size
      clear hb2
      by_cases c5 : a ≤ r
      · have d5 : decide ((r : Int) < (a : Int)) = false := decide_eq_false (by omega)
        have d5' : decide (r < a) = false := decide_eq_false (by omega)
        go_wp2
        go_loopw [8] (fun i wr => ∃ k : Nat, q ≤ k ∧ k ≤ r ∧ i = .int .i64 k ∧ Hid (noForced l q k = true) ∧ Below w.heap.size w wr) (fun i _ => r - (intOf i).toNat)
        case atStart => exact ⟨q, Nat.le_refl _, c4, by first | rfl | (congr 1), noForced_zero l q, bel2.out⟩
        case round =>
          obtain ⟨k, hqk, hk, rfl, hnf, hw⟩ := hrel
          have c5h := hide c5
          clear c5 d5 d5'
          have hw' := hide hw
          have hws := hw.size
          by_cases hlt : k < r
          · obtain ⟨b, off, x, rfl, hbk, hx, c0, c1, c2, c3, c4', c5', c6⟩ := (h'.out.below hw).item hl'.out (show k < n by omega)
            have hx' := hide hx
            clear hx hw
            cases kf : forcedB x with
            | true =>
              go_wp2_with fail
              refine (forced_any x _).mono ?_
              rintro e w3 ⟨rfl, hb3⟩
              rw [kf]
              have bel3 := hide (hw'.out.trans (hb3.mono hws))
              clear hb3
              go_wp2
              unfold LineP
              go_ret2
              have eL := lineB_no6 (noForced_no hx'.out kf hqk hlt)
              unfold lineR
              rw [eL]
              exact ⟨_, rfl, World.ownsRow_nil _ _ _ _, bel3.out⟩
            | false =>
              have hst := hide (noForced_step hx'.out kf hnf.out)
              go_wp2_with fail
              refine (forced_any x _).mono ?_
              rintro e w3 ⟨rfl, hb3⟩
              rw [kf]
              have bel3 := hide (hw'.out.trans (hb3.mono hws))
              clear hb3
              go_wp2
              go_roundw
              case rel =>
                exact ⟨k + 1, by omega, by omega, by go_num, hst.out, bel3.out⟩
              case measure => simp [intOf]; omega
          · obtain rfl : r = k := by omega
            have eL := hide (lineB_yes ha'.out c4 c5h.out hnf.out)
            have hst := hide (fun W (hW : Below w.heap.size w W) => show LiRel l w a a (.slice none 0 0) W from by
              unfold LiRel
              rw [liTo_zero l a a (Nat.le_refl _)]
              exact ⟨World.ownsRow_nil _ _ _ _, hW⟩)
            clear hw
            go_wp2_with fail
            refine (hs.out _ (h'.out.below hw'.out)).mono ?_
            rintro e w4 ⟨rfl, hb4⟩
            have bel4 := hide (hw'.out.trans (hb4.mono hws))
            clear hb4
            go_wp2
            go_loopw [9, 10] (fun v i wr => ∃ k : Nat, a ≤ k ∧ k ≤ r ∧ i = .int .i64 k ∧ LiRel l w a k v wr) (fun _ i _ => r - (intOf i).toNat)
            case atStart => exact ⟨a, Nat.le_refl _, c5h.out, rfl, hst.out _ bel4.out⟩
            case round =>
              obtain ⟨k, hak, hk, rfl, hrel⟩ := hrel
              have hrel' := hide hrel
              obtain ⟨hown, hb⟩ := hrel
              have hown' := hide hown
              have hbs := hb.size
              have hlen : (toI (liTo l a k)).length ≤ 60 := by rw [toI_len]; have := liTo_len l a k; omega
              by_cases hlt : k < r
              · obtain ⟨b, off, x, rfl, hbk, hx, c0, c1, c2, c3, c4', c5', c6⟩ := (h'.out.below hb).item hl'.out (show k < n by omega)
                have hnb := hide (notBr_at hx)
                clear hx hown hb hst
                cases k3 : (x.k == 3) with
                | true =>
                  have b3 := bne_of k3
                  have hfin := hide (li_no (by rw [hnb.out, k3]; rfl) hrel'.out)
                  go_wp2
                  go_roundw
                  case rel => exact ⟨k + 1, by omega, by omega, by go_num, hfin.out⟩
                  case measure => simp [intOf]; omega
                | false =>
                  have b3 := bne_of k3
                  go_wp2_with (first | (at_builtin; refine wpList_append_lies _ rfl _ _ 60 rfl w.heap.size 3 i0 (.int .i64 0) 1 8 Try.underlying60 hi hz0 hz1 hz2 rfl (by decide) _ _ _ rfl (hown'.out.alloc _) ⟨wr.heap.size, 0, none⟩ 1 1 [.int .i64 (k : Int)] rfl rfl (fun j u hj => cell_one_at (by simp) hj) (one_cells _) (by omega) (by unfold maxLen; omega) (by omega) (by simp; omega) _ rfl ?_))
                  intro g3 cap3 w3 hown3 hg3 hat3 hlt3
                  have hfin := hide (li_yes hak (by rw [hnb.out, k3]; rfl) hrel'.out hown3 hg3)
                  clear hown3 hg3 hat3 hlt3
                  go_wp2
                  go_roundw
                  case rel => exact ⟨k + 1, by omega, by omega, by go_num, hfin.out⟩
                  case measure => simp [intOf]; omega
              · obtain rfl : r = k := by omega
                have hb' := hide hb
                clear hown hb hst
                go_wp2
                unfold LineP
                go_ret2
                unfold lineR
                rw [eL.out, if_pos rfl, ha'.out]
                exact ⟨_, rfl, hown'.out, hb'.out⟩
      · have d5 : decide ((r : Int) < (a : Int)) = true := decide_eq_true (by omega)
        have d5' : decide (r < a) = true := decide_eq_true (by omega)
        go_wp2
        unfold LineP
        go_ret2
        have eL := lineB_no5 ha'.out c5
        unfold lineR
        rw [eL]
        exact ⟨_, rfl, World.ownsRow_nil _ _ _ _, bel2.out⟩
    · have d4 : decide ((r : Int) ≤ (q : Int) - 1) = true := decide_eq_true (by omega)
      go_wp2
      unfold LineP
      go_ret2
      have eL := lineB_no4 (l := l) c4
      unfold lineR
      rw [eL]
      exact ⟨_, rfl, World.ownsRow_nil _ _ _ _, hb1'.out⟩
end Go.Proofs.Ytocaonlmlafjmaa

/- What impl.lineItems gives at all arguments. Condition: the slice reads as the list of items. -/
namespace Go.Proofs.Ytocaonlmlafjmaa
open Go.RowKit
set_option linter.unusedVariables false
set_option linter.unusedSimpArgs false
set_option maxRecDepth 100000

theorem lineOk_no60 {l : List I} {t u : Int} (h : items60 l = false) : lineOk l t u = false := by unfold lineOk; rw [h]; rfl
theorem lineOk_no3 {l : List I} {t u : Int} (h : mayI l u = false) : lineOk l t u = false := by unfold lineOk; rw [h]; simp
theorem lineOk_no2 {l : List I} {t u : Int} (h : (t == -1 || mayI l t) = false) : lineOk l t u = false := by unfold lineOk; rw [h]; simp
theorem lineI_no {l : List I} {t u : Int} (h : lineOk l t u = false) : lineI l t u = [] := by unfold lineI; rw [h]; rfl
theorem lineOk_at {l : List I} {q r : Nat} (h60 : items60 l = true) (h2 : ((q : Int) - 1 == -1 || mayI l ((q : Int) - 1)) = true) (h3 : mayI l (r : Int) = true) : lineOk l ((q : Int) - 1) (r : Int) = lineB l q r := by
  unfold lineOk lineB
  rw [h60, h2, h3]
  have e : ((q : Int) - 1 + 1).toNat = q := by omega
  rw [e, Int.toNat_natCast]
  have e2 : inB ((q : Int) - 1) (-1) ((r : Int) - 1) = decide (q ≤ r) := by
    by_cases h : q ≤ r
    · rw [inB_mk (by omega)]; simp [h]
    · rw [inB_no (by omega)]; simp [h]
  have e3 : decide ((stA l q : Int) ≤ (r : Int)) = decide (stA l q ≤ r) := decide_eq_decide.2 (by omega)
  rw [e2, e3]
  simp
theorem lineR_eq {l : List I} {q r : Nat} (h60 : items60 l = true) (h2 : ((q : Int) - 1 == -1 || mayI l ((q : Int) - 1)) = true) (h3 : mayI l (r : Int) = true) : lineR l q r = toI (lineI l ((q : Int) - 1) (r : Int)) := by
  unfold lineR lineI
  rw [lineOk_at h60 h2 h3]
  have e : ((q : Int) - 1 + 1).toNat = q := by omega
  rw [e, Int.toNat_natCast]
  cases lineB l q r <;> rfl
theorem mayI_true {l : List I} {t : Int} (h : mayI l t = true) : 0 ≤ t ∧ t < l.length := by
  unfold mayI at h
  rw [Bool.and_eq_true] at h
  have := inB_true h.1
  omega
set_option maxHeartbeats 1000000 in
theorem implLine (A : Option Addr) (n c : Nat) (l : List I) (t u : Int) (w : World) (hn : n ≤ maxLen) (hl : l.length = n) (h : Rd w 7 A n (cellsI l)) :
    Calls Try.prog 96 #[.slice A n c, .int .i64 t, .int .i64 u] w (LineP (toI (lineI l t u)) (lineOk l t u) w) := by
  cases h60 : items60 l with
  | false =>
    have e1 := lineOk_no60 (t := t) (u := u) h60
    rw [lineI_no e1, e1]
    have hv := hide (implItems A n c l w hn hl h)
    rw [h60] at hv
    clear h60 hl hn h e1
    go_enter Try.func96, Try.ntmps96
    go_wp2_with fail
    refine hv.out.mono ?_
    rintro e w1 ⟨rfl, hb1⟩
    have hb1' := hide hb1
    have hs1 := hb1.size
    clear hb1
    go_wp2
    unfold LineP
    go_ret2
    exact ⟨_, rfl, World.ownsRow_nil _ _ _ _, hb1'.out⟩
  | true =>
    have hv := hide (implItems A n c l w hn hl h)
    have hm := hide (fun W (hr : Rd W 7 A n (cellsI l)) => implMay0 A n c l t W hn hl hr)
    have hm2 := hide (fun W (hr : Rd W 7 A n (cellsI l)) => implMay0 A n c l u W hn hl hr)
    rw [h60] at hv
    cases b2 : (t == -1) with
    | false =>
      have nt := bne_of b2
      cases b3 : mayI l t with
      | false =>
        have e1 := lineOk_no2 (l := l) (t := t) (u := u) (by rw [b2, b3]; rfl)
        rw [lineI_no e1, e1]
        have h' := hide h
        clear h60 hl hn h e1
        go_enter Try.func96, Try.ntmps96
        go_wp2_with fail
        refine hv.out.mono ?_
        rintro e w1 ⟨rfl, hb1⟩
        have hb1' := hide hb1
        have hs1 := hb1.size
        clear hb1
        go_wp2_with fail
        refine (hm.out _ (h'.out.below hb1'.out)).mono ?_
        rintro e w' ⟨rfl, rfl⟩
        rw [b3]
        go_wp2
        unfold LineP
        go_ret2
        exact ⟨_, rfl, World.ownsRow_nil _ _ _ _, hb1'.out⟩
      | true =>
        cases b4 : mayI l u with
        | false =>
          have e1 := lineOk_no3 (l := l) (t := t) (u := u) b4
          rw [lineI_no e1, e1]
          have h' := hide h
          clear h60 hl hn h e1
          go_enter Try.func96, Try.ntmps96
          go_wp2_with fail
          refine hv.out.mono ?_
          rintro e w1 ⟨rfl, hb1⟩
          have hb1' := hide hb1
          have hs1 := hb1.size
          clear hb1
          go_wp2_with fail
          refine (hm.out _ (h'.out.below hb1'.out)).mono ?_
          rintro e w' ⟨rfl, rfl⟩
          rw [b3]
          go_wp2_with fail
          refine (hm2.out _ (h'.out.below hb1'.out)).mono ?_
          rintro e w' ⟨rfl, rfl⟩
          rw [b4]
          go_wp2
          unfold LineP
          go_ret2
          exact ⟨_, rfl, World.ownsRow_nil _ _ _ _, hb1'.out⟩
        | true =>
          have k1 := mayI_true b3
          have k2 := mayI_true b4
          obtain ⟨q, hq⟩ := Int.eq_ofNat_of_zero_le (show 0 ≤ t + 1 by omega)
          obtain rfl : t = (q : Int) - 1 := by omega
          obtain ⟨r, rfl⟩ := Int.eq_ofNat_of_zero_le k2.1
          have hb2 : ((q : Int) - 1 == -1 || mayI l ((q : Int) - 1)) = true := by rw [b3, Bool.or_true]
          rw [lineOk_at h60 hb2 b4, ← lineR_eq h60 hb2 b4]
          exact implLiN A n c q r l w hn hl h h60 (by omega) (by omega) hb2 b4
    | true =>
      have nt := bne_of b2
      cases b4 : mayI l u with
      | false =>
        have e1 := lineOk_no3 (l := l) (t := t) (u := u) b4
        rw [lineI_no e1, e1]
        have h' := hide h
        clear h60 hl hn h e1
        go_enter Try.func96, Try.ntmps96
        go_wp2_with fail
        refine hv.out.mono ?_
        rintro e w1 ⟨rfl, hb1⟩
        have hb1' := hide hb1
        have hs1 := hb1.size
        clear hb1
        go_wp2_with fail
        refine (hm2.out _ (h'.out.below hb1'.out)).mono ?_
        rintro e w' ⟨rfl, rfl⟩
        rw [b4]
        go_wp2
        unfold LineP
        go_ret2
        exact ⟨_, rfl, World.ownsRow_nil _ _ _ _, hb1'.out⟩
      | true =>
        have k2 := mayI_true b4
        have b5 : t = -1 := by simpa using b2
        obtain rfl : t = ((0 : Nat) : Int) - 1 := by omega
        obtain ⟨r, rfl⟩ := Int.eq_ofNat_of_zero_le k2.1
        have hb2 : (((0 : Nat) : Int) - 1 == -1 || mayI l (((0 : Nat) : Int) - 1)) = true := by rw [b2, Bool.true_or]
        rw [lineOk_at h60 hb2 b4, ← lineR_eq h60 hb2 b4]
        exact implLiN A n c 0 r l w hn hl h h60 (by omega) (by omega) hb2 b4
theorem implLineIts (A : Option Addr) (n c : Nat) (l : List I) (t u : Int) (w : World) (hn : n ≤ maxLen) (hl : l.length = n) (h : Rd w 7 A n (cellsI l)) :
    Calls Try.prog 64 #[.slice A n c, .int .i64 t, .int .i64 u] w (RowB (toI (lineI l t u)) w) := by
  have hc := hide (implLine A n c l t u w hn hl h)
  clear hl hn h
  go_enter Try.func64, Try.ntmps64
  go_wp2_with fail
  refine hc.out.mono ?_
  rintro e w1 ⟨v, rfl, hown, hb⟩
  have hown' := hide hown
  have hb' := hide hb
  clear hown hb hc
  go_wp2
  unfold RowB
  go_ret
  exact ⟨_, rfl, hown'.out, hb'.out⟩
end Go.Proofs.Ytocaonlmlafjmaa
