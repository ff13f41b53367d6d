/- The walks of LineBadness. Condition: the slice reads as the list of items. -/
import Derived.Test.YtocaonlmlafjmaaLImp
import Derived.Test.YtocaonlmlafjmaaKSpec
import Derived.Test.YtocaonlmlafjmaaBad
namespace Go.Proofs.Ytocaonlmlafjmaa
open Go.RowKit
set_option linter.unusedVariables false
set_option linter.unusedSimpArgs false
set_option maxRecDepth 100000

def lbad (l : List I) (t u wd : Int) : Int × Bool :=
  if (lineOk l t u && inB wd 0 1000) = true then
    (if (lineG l t u).w ≤ wd then (if (lineG l t u).o = 1 then (0, true) else (bad (wd - (lineG l t u).w) (lineG l t u).st, true))
      else if (lineG l t u).w - wd ≤ (lineG l t u).sh then (bad ((lineG l t u).w - wd) (lineG l t u).sh, false) else (-1, false))
  else (-1, false)
def LbP (r : Int × Bool) (w : World) (e : Ending) (w' : World) : Prop := e = .returned (.tuple #[.int .i64 r.1, .bool r.2]) ∧ Below w.heap.size w w'
theorem lbad_no {l : List I} {t u wd : Int} (h : (lineOk l t u && inB wd 0 1000) = false) : lbad l t u wd = (-1, false) := by unfold lbad; rw [h]; rfl
theorem lbad_1 {l : List I} {t u wd : Int} (h : (lineOk l t u && inB wd 0 1000) = true) (h1 : (lineG l t u).w ≤ wd) (h2 : (lineG l t u).o = 1) : lbad l t u wd = (0, true) := by unfold lbad; rw [if_pos h, if_pos h1, if_pos h2]
theorem lbad_2 {l : List I} {t u wd : Int} (h : (lineOk l t u && inB wd 0 1000) = true) (h1 : (lineG l t u).w ≤ wd) (h2 : ¬ (lineG l t u).o = 1) : lbad l t u wd = (bad (wd - (lineG l t u).w) (lineG l t u).st, true) := by unfold lbad; rw [if_pos h, if_pos h1, if_neg h2]
theorem lbad_3 {l : List I} {t u wd : Int} (h : (lineOk l t u && inB wd 0 1000) = true) (h1 : ¬ (lineG l t u).w ≤ wd) (h2 : (lineG l t u).w - wd ≤ (lineG l t u).sh) : lbad l t u wd = (bad ((lineG l t u).w - wd) (lineG l t u).sh, false) := by unfold lbad; rw [if_pos h, if_neg h1, if_pos h2]
theorem lbad_4 {l : List I} {t u wd : Int} (h : (lineOk l t u && inB wd 0 1000) = true) (h1 : ¬ (lineG l t u).w ≤ wd) (h2 : ¬ (lineG l t u).w - wd ≤ (lineG l t u).sh) : lbad l t u wd = (-1, false) := by unfold lbad; rw [if_pos h, if_neg h1, if_neg h2]
set_option maxHeartbeats 4000000 in
theorem implLB (A : Option Addr) (n c : Nat) (l : List I) (t u wd : Int) (w : World) (hn : n ≤ maxLen) (hl : l.length = n) (h : Rd w 7 A n (cellsI l)) :
    Calls Try.prog 66 #[.slice A n c, .int .i64 t, .int .i64 u, .int .i64 wd] w (LbP (lbad l t u wd) w) := by
  have hc := hide (implLG A n c l t u w hn hl h)
  cases hk : lineOk l t u with
  | false =>
    have eV := hide (lbad_no (wd := wd) (show (lineOk l t u && inB wd 0 1000) = false by rw [hk]; rfl))
    rw [hk] at hc
    clear hk hn hl h
    go_enter Try.func66, Try.ntmps66
    go_wp2_with fail
    refine hc.out.mono ?_
    rintro e w1 ⟨rfl, hb1⟩
    have hbe := hide (hb1.alloc hb1.size (.cells #[.int .i64 (lineG l t u).w, .int .i64 (lineG l t u).st, .int .i64 (lineG l t u).sh, .int .i64 (lineG l t u).o] 27))
    clear hb1
    go_wp2
    unfold LbP
    go_ret2
    refine ⟨by rw [eV.out]; rfl, ?_⟩
    first | exact hbe.out | (have hq := eq_of_beq d2; have hx := hbe.out; rw [hq] at hx; exact hx)
  | true =>
    cases hw : inB wd 0 1000 with
    | false =>
      have eV := hide (lbad_no (wd := wd) (show (lineOk l t u && inB wd 0 1000) = false by rw [hk, hw]; rfl))
      rw [hk] at hc
      clear hk hn hl h
      go_enter Try.func66, Try.ntmps66
      go_wp2_with fail
      refine hc.out.mono ?_
      rintro e w1 ⟨rfl, hb1⟩
      have hbe := hide (hb1.alloc hb1.size (.cells #[.int .i64 (lineG l t u).w, .int .i64 (lineG l t u).st, .int .i64 (lineG l t u).sh, .int .i64 (lineG l t u).o] 27))
      clear hb1
      go_wp2_with fail
      go_at_call 82
      refine (in_any _ _ _ _).mono ?_
      rintro e w' ⟨rfl, rfl⟩
      rw [hw]
      go_wp2
      unfold LbP
      go_ret2
      refine ⟨by rw [eV.out]; rfl, ?_⟩
      first | exact hbe.out | (have hq := eq_of_beq d2; have hx := hbe.out; rw [hq] at hx; exact hx)
    | true =>
      have hbd := lineG_bd hk
      have hwb := inB_true hw
      have hkw : (lineOk l t u && inB wd 0 1000) = true := by rw [hk, hw]; rfl
      have hbad := hide (fun n r W h0 h1 h2 h3 => badness_any n r W h0 h1 h2 h3)
      rw [hk] at hc
      by_cases h1 : (lineG l t u).w ≤ wd
      · have d1 : decide ((lineG l t u).w ≤ wd) = true := decide_eq_true h1
        by_cases h2 : (lineG l t u).o = 1
        · have d2 : ((lineG l t u).o == 1) = true := by simpa using h2
          have eV := hide (lbad_1 hkw h1 h2)
          clear h2
          clear hkw hk hn hl h
          generalize lineG l t u = S at *
          go_enter Try.func66, Try.ntmps66
          go_wp2_with fail
          refine hc.out.mono ?_
          rintro e w1 ⟨rfl, hb1⟩
          have hbe := hide (hb1.alloc hb1.size (.cells #[.int .i64 (S).w, .int .i64 (S).st, .int .i64 (S).sh, .int .i64 (S).o] 27))
          clear hb1
          go_wp2_with fail
          go_at_call 82
          refine (in_any _ _ _ _).mono ?_
          rintro e w' ⟨rfl, rfl⟩
          rw [hw]
          go_wp2
          unfold LbP
          go_ret2
          refine ⟨by rw [eV.out]; rfl, ?_⟩
          first | exact hbe.out | (have hq := eq_of_beq d2; have hx := hbe.out; rw [hq] at hx; exact hx)
        · have d2 : ((lineG l t u).o == 1) = false := by simpa using h2
          have eV := hide (lbad_2 hkw h1 h2)
          clear h2
          clear hkw hk hn hl h
          generalize lineG l t u = S at *
          go_enter Try.func66, Try.ntmps66
          go_wp2_with fail
          refine hc.out.mono ?_
          rintro e w1 ⟨rfl, hb1⟩
          have hbe := hide (hb1.alloc hb1.size (.cells #[.int .i64 (S).w, .int .i64 (S).st, .int .i64 (S).sh, .int .i64 (S).o] 27))
          clear hb1
          go_wp2_with fail
          go_at_call 82
          refine (in_any _ _ _ _).mono ?_
          rintro e w' ⟨rfl, rfl⟩
          rw [hw]
          go_wp2_with fail
          go_at_call 100
          refine (hbad.out (wd - S.w) (S.st) _ (by omega) (by omega) (by omega) (by omega)).mono ?_
          rintro e w' ⟨rfl, rfl⟩
          go_wp2
          unfold LbP
          go_ret2
          refine ⟨by rw [eV.out]; rfl, ?_⟩
          first | exact hbe.out | (have hq := eq_of_beq d2; have hx := hbe.out; rw [hq] at hx; exact hx)
      · have d1 : decide ((lineG l t u).w ≤ wd) = false := decide_eq_false h1
        by_cases h2 : (lineG l t u).w - wd ≤ (lineG l t u).sh
        · have d2 : decide ((lineG l t u).w - wd ≤ (lineG l t u).sh) = true := decide_eq_true h2
          have eV := hide (lbad_3 hkw h1 h2)
          clear hkw hk hn hl h
          generalize lineG l t u = S at *
          go_enter Try.func66, Try.ntmps66
          go_wp2_with fail
          refine hc.out.mono ?_
          rintro e w1 ⟨rfl, hb1⟩
          have hbe := hide (hb1.alloc hb1.size (.cells #[.int .i64 (S).w, .int .i64 (S).st, .int .i64 (S).sh, .int .i64 (S).o] 27))
          clear hb1
          go_wp2_with fail
          go_at_call 82
          refine (in_any _ _ _ _).mono ?_
          rintro e w' ⟨rfl, rfl⟩
          rw [hw]
          go_wp2_with fail
          go_at_call 100
          refine (hbad.out (S.w - wd) (S.sh) _ (by omega) (by omega) (by omega) (by omega)).mono ?_
          rintro e w' ⟨rfl, rfl⟩
          go_wp2
          unfold LbP
          go_ret2
          refine ⟨by rw [eV.out]; rfl, ?_⟩
          first | exact hbe.out | (have hq := eq_of_beq d2; have hx := hbe.out; rw [hq] at hx; exact hx)
        · have d2 : decide ((lineG l t u).w - wd ≤ (lineG l t u).sh) = false := decide_eq_false h2
          have eV := hide (lbad_4 hkw h1 h2)
          clear hkw hk hn hl h
          generalize lineG l t u = S at *
          go_enter Try.func66, Try.ntmps66
          go_wp2_with fail
          refine hc.out.mono ?_
          rintro e w1 ⟨rfl, hb1⟩
          have hbe := hide (hb1.alloc hb1.size (.cells #[.int .i64 (S).w, .int .i64 (S).st, .int .i64 (S).sh, .int .i64 (S).o] 27))
          clear hb1
          go_wp2_with fail
          go_at_call 82
          refine (in_any _ _ _ _).mono ?_
          rintro e w' ⟨rfl, rfl⟩
          rw [hw]
          go_wp2
          unfold LbP
          go_ret2
          refine ⟨by rw [eV.out]; rfl, ?_⟩
          first | exact hbe.out | (have hq := eq_of_beq d2; have hx := hbe.out; rw [hq] at hx; exact hx)
set_option maxHeartbeats 4000000 in
theorem specBad7 (A : Option Addr) (n c : Nat) (l : List I) (t u wd : Int) (w : World) (hn : n ≤ maxLen) (hl : l.length = n) (h : Rd w 7 A n (cellsI l)) (hk : lineOk l t u = true) (hw : inB wd 0 1000 = true) :
    Calls Try.prog 99 #[.slice A n c, .int .i64 t, .int .i64 u, .int .i64 wd] w (LbP (lbad l t u wd) w) := by
  have hbd := lineG_bd hk
  have hwb := inB_true hw
  have hkw : (lineOk l t u && inB wd 0 1000) = true := by rw [hk, hw]; rfl
  have hbad := hide (fun n r W h0 h1 h2 h3 => specBad_in n r W h0 h1 h2 h3)
  obtain ⟨h60, b1, b2, b3, b4, b5⟩ := lineOk_true hk
  have b2' := mayI_bd b2
  obtain ⟨q, hq⟩ := Int.eq_ofNat_of_zero_le (show 0 ≤ t + 1 by omega)
  obtain rfl : t = (q : Int) - 1 := by omega
  obtain ⟨r, rfl⟩ := Int.eq_ofNat_of_zero_le b2'.1
  have eq0 : ((q : Int) - 1 + 1).toNat = q := by omega
  have eS := sumL_line hk
  rw [eq0] at b4 eS
  rw [Int.toNat_natCast] at eS
  have hs5 := hide (specStart A n c q l w hn hl h (by omega))
  have hs6 := specSum A n c (stA l q) r l w hn hl h h60 (by omega) (by omega)
  rw [eS] at hs6
  have hs6' := hide hs6
  clear hs6 eS b1 b2 b3 b4 b5 b2' hq hn hl h h60 hk hw eq0
  by_cases h1 : (lineG l ((q : Int) - 1) (r : Int)).w ≤ wd
  · have d1 : decide ((lineG l ((q : Int) - 1) (r : Int)).w ≤ wd) = true := decide_eq_true h1
    by_cases h2 : (lineG l ((q : Int) - 1) (r : Int)).o = 1
    · have d2 : ((lineG l ((q : Int) - 1) (r : Int)).o == 1) = true := by simpa using h2
      have eV := hide (lbad_1 hkw h1 h2)
      clear hkw
      generalize lineG l ((q : Int) - 1) (r : Int) = S at *
      go_enter Try.func99, Try.ntmps99
      go_wp2_with fail
      refine hs5.out.mono ?_
      rintro e w' ⟨rfl, rfl⟩
      go_wp2_with fail
      refine hs6'.out.mono ?_
      rintro e w1 ⟨rfl, hb1⟩
      have hbe := hide (hb1.alloc hb1.size (.cells #[.int .i64 (S).w, .int .i64 (S).st, .int .i64 (S).sh, .int .i64 (S).o] 27))
      clear hb1
      go_wp2
      unfold LbP
      go_ret2
      refine ⟨by rw [eV.out]; rfl, ?_⟩
      first | exact hbe.out | (have hq := eq_of_beq d2; have hx := hbe.out; rw [hq] at hx; exact hx)
    · have d2 : ((lineG l ((q : Int) - 1) (r : Int)).o == 1) = false := by simpa using h2
      have eV := hide (lbad_2 hkw h1 h2)
      clear hkw
      generalize lineG l ((q : Int) - 1) (r : Int) = S at *
      go_enter Try.func99, Try.ntmps99
      go_wp2_with fail
      refine hs5.out.mono ?_
      rintro e w' ⟨rfl, rfl⟩
      go_wp2_with fail
      refine hs6'.out.mono ?_
      rintro e w1 ⟨rfl, hb1⟩
      have hbe := hide (hb1.alloc hb1.size (.cells #[.int .i64 (S).w, .int .i64 (S).st, .int .i64 (S).sh, .int .i64 (S).o] 27))
      clear hb1
      go_wp2_with fail
      go_at_call 116
      refine (hbad.out (wd - S.w) (S.st) _ (by omega) (by omega) (by omega) (by omega)).mono ?_
      rintro e w' ⟨rfl, rfl⟩
      go_wp2
      unfold LbP
      go_ret2
      refine ⟨by rw [eV.out]; rfl, ?_⟩
      first | exact hbe.out | (have hq := eq_of_beq d2; have hx := hbe.out; rw [hq] at hx; exact hx)
  · have d1 : decide ((lineG l ((q : Int) - 1) (r : Int)).w ≤ wd) = false := decide_eq_false h1
    by_cases h2 : (lineG l ((q : Int) - 1) (r : Int)).w - wd ≤ (lineG l ((q : Int) - 1) (r : Int)).sh
    · have d2 : decide (wd < (lineG l ((q : Int) - 1) (r : Int)).w - (lineG l ((q : Int) - 1) (r : Int)).sh) = false := decide_eq_false (by omega)
      have eV := hide (lbad_3 hkw h1 h2)
      clear hkw
      generalize lineG l ((q : Int) - 1) (r : Int) = S at *
      go_enter Try.func99, Try.ntmps99
      go_wp2_with fail
      refine hs5.out.mono ?_
      rintro e w' ⟨rfl, rfl⟩
      go_wp2_with fail
      refine hs6'.out.mono ?_
      rintro e w1 ⟨rfl, hb1⟩
      have hbe := hide (hb1.alloc hb1.size (.cells #[.int .i64 (S).w, .int .i64 (S).st, .int .i64 (S).sh, .int .i64 (S).o] 27))
      clear hb1
      go_wp2_with fail
      go_at_call 116
      refine (hbad.out (S.w - wd) (S.sh) _ (by omega) (by omega) (by omega) (by omega)).mono ?_
      rintro e w' ⟨rfl, rfl⟩
      go_wp2
      unfold LbP
      go_ret2
      refine ⟨by rw [eV.out]; rfl, ?_⟩
      first | exact hbe.out | (have hq := eq_of_beq d2; have hx := hbe.out; rw [hq] at hx; exact hx)
    · have d2 : decide (wd < (lineG l ((q : Int) - 1) (r : Int)).w - (lineG l ((q : Int) - 1) (r : Int)).sh) = true := decide_eq_true (by omega)
      have eV := hide (lbad_4 hkw h1 h2)
      clear hkw
      generalize lineG l ((q : Int) - 1) (r : Int) = S at *
      go_enter Try.func99, Try.ntmps99
      go_wp2_with fail
      refine hs5.out.mono ?_
      rintro e w' ⟨rfl, rfl⟩
      go_wp2_with fail
      refine hs6'.out.mono ?_
      rintro e w1 ⟨rfl, hb1⟩
      have hbe := hide (hb1.alloc hb1.size (.cells #[.int .i64 (S).w, .int .i64 (S).st, .int .i64 (S).sh, .int .i64 (S).o] 27))
      clear hb1
      go_wp2
      unfold LbP
      go_ret2
      refine ⟨by rw [eV.out]; rfl, ?_⟩
      first | exact hbe.out | (have hq := eq_of_beq d2; have hx := hbe.out; rw [hq] at hx; exact hx)
set_option maxHeartbeats 2000000 in
theorem specLB (A : Option Addr) (n c : Nat) (l : List I) (t u wd : Int) (w : World) (hn : n ≤ maxLen) (hl : l.length = n) (h : Rd w 7 A n (cellsI l)) :
    Calls Try.prog 65 #[.slice A n c, .int .i64 t, .int .i64 u, .int .i64 wd] w (LbP (lbad l t u wd) w) := by
  have hc := hide (specLG A n c l t u w hn hl h)
  cases hk : lineOk l t u with
  | false =>
    have eV := hide (lbad_no (wd := wd) (show (lineOk l t u && inB wd 0 1000) = false by rw [hk]; rfl))
    rw [hk] at hc
    clear hk hn hl h
    go_enter Try.func65, Try.ntmps65
    go_wp2_with fail
    refine hc.out.mono ?_
    rintro e w1 ⟨rfl, hb1⟩
    have hbe := hide (hb1.alloc hb1.size (.cells #[.int .i64 (lineG l t u).w, .int .i64 (lineG l t u).st, .int .i64 (lineG l t u).sh, .int .i64 (lineG l t u).o] 27))
    clear hb1
    go_wp2
    unfold LbP
    go_ret2
    refine ⟨by rw [eV.out]; rfl, ?_⟩
    first | exact hbe.out | (have hq := eq_of_beq d2; have hx := hbe.out; rw [hq] at hx; exact hx)
  | true =>
    cases hw : inB wd 0 1000 with
    | false =>
      have eV := hide (lbad_no (wd := wd) (show (lineOk l t u && inB wd 0 1000) = false by rw [hk, hw]; rfl))
      rw [hk] at hc
      clear hk hn hl h
      go_enter Try.func65, Try.ntmps65
      go_wp2_with fail
      refine hc.out.mono ?_
      rintro e w1 ⟨rfl, hb1⟩
      have hbe := hide (hb1.alloc hb1.size (.cells #[.int .i64 (lineG l t u).w, .int .i64 (lineG l t u).st, .int .i64 (lineG l t u).sh, .int .i64 (lineG l t u).o] 27))
      clear hb1
      go_wp2_with fail
      go_at_call 70
      refine (l1In_any _ _ _ _).mono ?_
      rintro e w' ⟨rfl, rfl⟩
      rw [hw]
      go_wp2
      unfold LbP
      go_ret2
      refine ⟨by rw [eV.out]; rfl, ?_⟩
      first | exact hbe.out | (have hq := eq_of_beq d2; have hx := hbe.out; rw [hq] at hx; exact hx)
    | true =>
      have h7 := hide (fun W (hr : Rd W 7 A n (cellsI l)) => specBad7 A n c l t u wd W hn hl hr hk hw)
      rw [hk] at hc
      have h' := hide h
      clear hk hn hl h
      go_enter Try.func65, Try.ntmps65
      go_wp2_with fail
      refine hc.out.mono ?_
      rintro e w1 ⟨rfl, hb1⟩
      have hbe := hide (hb1.alloc hb1.size (.cells #[.int .i64 (lineG l t u).w, .int .i64 (lineG l t u).st, .int .i64 (lineG l t u).sh, .int .i64 (lineG l t u).o] 27))
      have hbs := hbe.out.size
      clear hb1
      go_wp2_with fail
      go_at_call 70
      refine (l1In_any _ _ _ _).mono ?_
      rintro e w' ⟨rfl, rfl⟩
      rw [hw]
      go_wp2_with fail
      refine (h7.out _ (h'.out.below hbe.out)).mono ?_
      rintro e w2 ⟨rfl, hb2⟩
      have hbe2 := hide (hbe.out.trans (hb2.mono hbs))
      clear hb2
      go_wp2
      unfold LbP
      go_ret2
      exact ⟨rfl, hbe2.out⟩
end Go.Proofs.Ytocaonlmlafjmaa
