/- The walk of impl.LineGlue. Condition: the slice reads as the list of items. -/
import Derived.Test.YtocaonlmlafjmaaKSpec
import Derived.Test.YtocaonlmlafjmaaKLines
import Derived.Test.YtocaonlmlafjmaaKCore
namespace Go.Proofs.Ytocaonlmlafjmaa
open Go.RowKit
set_option linter.unusedVariables false
set_option linter.unusedSimpArgs false
set_option maxRecDepth 100000

theorem glueL_info : (Try.prog.info? 27).map (fun i => (i.zero, i.size, i.bytes)) = some (some (.agg #[.int .i64 0, .int .i64 0, .int .i64 0, .int .i64 0]), 4, 32) := by kernel_rfl
theorem one_glue4 (a b c d : Int) : ∀ u ∈ [Value.int .i64 a, .int .i64 b, .int .i64 c, .int .i64 d], u.oneCell' = true := by
  intro u hu
  simp at hu
  rcases hu with rfl | rfl | rfl | rfl <;> rfl
def GlRel (w1 : World) (L : List G) (n : Nat) (v : Value) (wr : World) : Prop :=
  wr.ownsRow w1.heap.size 27 4 v n (cellsG L) ∧ L.length = n ∧ Below w1.heap.size w1 wr
theorem gl_step {w1 wr w3 : World} {L : List G} {n g3 cap3 : Nat} {v : Value} {x : G} (h : GlRel w1 L n v wr)
    (hown3 : w3.ownsRow w1.heap.size 27 4 (.slice (some ⟨g3, 0, none⟩) (n + 1) cap3) (n + 1) (cellsG L ++ [.int .i64 x.w, .int .i64 x.st, .int .i64 x.sh, .int .i64 x.o]))
    (hg3 : (wr.alloc (.cells [.int .i64 x.w, .int .i64 x.st, .int .i64 x.sh, .int .i64 x.o].toArray 27)).grownBy w3 v.ownBlock) : GlRel w1 (L ++ [x]) (n + 1) (.slice (some ⟨g3, 0, none⟩) (n + 1) cap3) w3 := by
  obtain ⟨h1, h2, h4⟩ := h
  refine ⟨?_, by simp [h2], (h4.alloc h4.size _).grown hg3 (by simp; have := h4.size; omega) (fun kk hkk => (h1.lt kk hkk).1)⟩
  have e : cellsG (L ++ [x]) = cellsG L ++ [.int .i64 x.w, .int .i64 x.st, .int .i64 x.sh, .int .i64 x.o] := by simp [cellsG, G.cells]
  rw [e]
  exact hown3
theorem toI_nat {R : List Nat} {k : Nat} {z : Int} (h : (toI R)[k]? = some z) : ∃ j : Nat, z = (j : Int) ∧ R[k]? = some j := by
  unfold toI at h
  rw [List.getElem?_map, Option.map_eq_some_iff] at h
  obtain ⟨j, hj, rfl⟩ := h
  exact ⟨j, rfl, hj⟩
theorem map_take_snoc {R : List Nat} {l : List I} {k j : Nat} {y : I} (hj : R[k]? = some j) (hy : l[j]? = some y) : (R.map (gAt l)).take (k + 1) = (R.map (gAt l)).take k ++ [y.g] := by
  rw [take_snoc' _ _ (gAt l j) (by simp [hj]), gAt_of hy]
set_option maxHeartbeats 4000000 in
theorem implLG (A : Option Addr) (n c : Nat) (l : List I) (t u : Int) (w : World) (hn : n ≤ maxLen) (hl : l.length = n) (h : Rd w 7 A n (cellsI l)) :
    Calls Try.prog 61 #[.slice A n c, .int .i64 t, .int .i64 u] w (LgP (lineG l t u) (lineOk l t u) w) := by
  obtain ⟨i0, hi, hz0, hz1, hz2⟩ := info_parts glueL_info
  have h1 := h.alloc (.cells #[.int .i64 0, .int .i64 0, .int .i64 0, .int .i64 0] 27)
  have hk0 := Blk.new w 27 #[.int .i64 0, .int .i64 0, .int .i64 0, .int .i64 0]
  have hb0 := hide ((Below.refl w.heap.size w).alloc (Nat.le_refl _) (.cells #[.int .i64 0, .int .i64 0, .int .i64 0, .int .i64 0] 27))
  have hc := hide (implLine A n c l t u (w.alloc (.cells #[.int .i64 0, .int .i64 0, .int .i64 0, .int .i64 0] 27)) hn hl h1)
  have hl' := hide hl
  have hn2 : n ≤ 2 ^ 63 - 1 := hn
  cases hk : lineOk l t u with
  | false =>
    have hk' := hide hk
    rw [hk] at hc
    clear hk h1 hn hl h
    go_enter Try.func61, Try.ntmps61
    go_wp2_with fail
    refine hc.out.mono ?_
    rintro e w1 ⟨v, rfl, hown, hb1⟩
    have hk1 := hk0.below' hb1
    obtain ⟨c0, c1, c2, c3, z0, z1, z2, z3⟩ := hk1.c4
    have hbe := hide (hb0.out.trans (hb1.mono (by simp)))
    have hlt := hk1.lt
    clear hb1 hk1 hk0 hown
    go_wp2
    refine bodyPost_ret (v := .tuple #[.agg #[.int .i64 0, .int .i64 0, .int .i64 0, .int .i64 0], .bool false]) (by simp [results, Try.results61, go_sem, c0, c1, c2, c3, z0, z1, z2, z3]) rfl ⟨by first | rw [lineG_bad hk'.out, hk'.out] | rw [lineG_bad hk'.out], ?_⟩
    have := hbe.out
    (repeat (first | exact Below.refl _ _ | assumption | refine Below.alloc ?_ (by first | assumption | omega | (simp; done) | (simp; omega)) _ | refine Below.setCell ?_ (by first | assumption | omega | (simp; done) | (simp; omega)) _ | refine below_drewN ?_ _ | refine Below.drew ?_))
  | true =>
    have hk' := hide hk
    rw [hk] at hc
    have hmem := hide (fun x (hx : x ∈ lineI l t u) => lineI_mem hx)
    have h60 := lineI_len l t u
    obtain ⟨ho, -, b2, -, -, -⟩ := lineOk_true hk
    have b2' := mayI_bd b2
    obtain ⟨r, rfl⟩ := Int.eq_ofNat_of_zero_le b2'.1
    have hrn : r < n := by omega
    have hrni : (r : Int) < (n : Int) := by omega
    have hgs := hide (lineGs_yes hk)
    have hgo := hide (lineGs_ok ho (after := t) b2'.1 b2'.2)
    have hgl := lineGs_len ho (after := t) b2'.1 b2'.2
    have hG := hide (lineG_yes hk)
    rw [Int.toNat_natCast] at hgs
    generalize lineI l t (r : Int) = R at *
    obtain ⟨m, hm⟩ : ∃ m, R.length = m := ⟨_, rfl⟩
    have hm' := hide hm
    rw [hm] at h60
    clear hk hn hl hm ho b2 b2'
    go_enter Try.func61, Try.ntmps61
    go_wp2_with fail
    refine hc.out.mono ?_
    rintro e w1 ⟨v, rfl, hown, hb1⟩
    obtain ⟨A2, c2, rfl, _, hrd2⟩ := own_form hown
    rw [toI_len, hm'.out] at hrd2 ⊢
    have hk1 := hide (hk0.below' hb1)
    have h1' := hide (h1.below (hb1.mono (Nat.le_refl _)))
    have hbe := hide (hb0.out.trans (hb1.mono (by simp)))
    have hbs := hbe.out.size
    have hlt1 := hk1.out.lt
    have hrd' := hide hrd2
    have hst := hide (show GlRel w1 ((R.map (gAt l)).take 0) 0 (.slice none 0 0) w1 from ⟨World.ownsRow_nil _ _ _ _, rfl, Below.refl _ _⟩)
    clear hb1 hk0 hown hrd2 h1 h hc
    go_wp2
    go_loopw [10, 25] (fun v i wr => ∃ k : Nat, k ≤ m ∧ i = .int .i64 k ∧ GlRel w1 ((R.map (gAt l)).take k) k v wr) (fun _ i _ => m - (intOf i).toNat)
    case atStart => exact ⟨0, Nat.zero_le _, rfl, hst.out⟩
    case round =>
      clear hst
      obtain ⟨k, hkm, rfl, hrel⟩ := hrel
      have hrel' := hide hrel
      obtain ⟨hown, hLn, hb⟩ := hrel
      have hown' := hide hown
      have hbs2 := hb.size
      by_cases hlt : k < m
      · obtain ⟨b, off, z, rfl, hbk, hx, c0⟩ := (hrd'.out.below hb).int ((toI_len R).trans hm'.out) hlt
        obtain ⟨j, rfl, hj⟩ := toI_nat hx
        have hjn := (hmem.out j (List.mem_of_getElem? hj)).2.2.1
        rw [hl'.out] at hjn
        obtain ⟨b2, off2, y, rfl, hbk2, hy, d0, d1, d2, d3, d4, d5, d6⟩ := (h1'.out.below hb).item hl'.out hjn
        have eM := hide (map_take_snoc hj hy)
        have hjni : (j : Int) < (n : Int) := by omega
        have hkmi : (k : Int) < (m : Int) := by omega
        clear hown hLn hb hx hj hy
        go_wp2_with (at_builtin; refine wpList_append_lies _ rfl _ _ 95 rfl w1.heap.size 27 i0 (.agg #[.int .i64 0, .int .i64 0, .int .i64 0, .int .i64 0]) 4 32 Try.underlying95 hi hz0 hz1 hz2 rfl (by decide) _ _ _ rfl (hown'.out.alloc _) ⟨wr.heap.size, 0, none⟩ 1 1 [.int .i64 y.g.w, .int .i64 y.g.st, .int .i64 y.g.sh, .int .i64 y.g.o] rfl rfl (news_new wr 27 [.int .i64 y.g.w, .int .i64 y.g.st, .int .i64 y.g.sh, .int .i64 y.g.o]) (one_glue4 _ _ _ _) (by omega) (by unfold maxLen; omega) (by omega) (by simp; omega) _ rfl ?_)
        intro g3 cap3 w3 hown3 hg3 hat3 hlt3
        have hfin := hide (gl_step hrel'.out hown3 hg3)
        rw [← eM.out] at hfin
        clear hown3 hg3 hat3 hlt3
        go_wp2
        go_roundw
        case rel => exact ⟨k + 1, by omega, by go_num, hfin.out⟩
        case measure => simp [intOf]; omega
      · obtain rfl : k = m := by omega
        have eT : (R.map (gAt l)).take k = R.map (gAt l) := List.take_of_length_le (by rw [List.length_map]; have := hm'.out; omega)
        obtain ⟨b2, off2, y, rfl, hbk2, hy, d0, d1, d2, d3, d4, d5, d6⟩ := (h1'.out.below hb).item hl'.out hrn
        have hyg := hide (gAt_of hy)
        have hyb := hide (isBr_of hy)
        have hkr := hide (hk1.out.below hb hlt1)
        have hbw := hide (hbe.out.trans (hb.mono hbs))
        rw [eT] at hrel'
        clear hown hLn hb hy eT hown'
        cases k3 : (y.k == 3) with
        | false =>
          have eL := hide (show lineGs l t (r : Int) = R.map (gAt l) from by rw [hgs.out, hyb.out, k3]; simp)
          obtain ⟨A5, c5, rfl, _, hrd5⟩ := own_form hrel'.out.1
          have htot := hide (total_any A5 k c5 (R.map (gAt l)) wr (by omega) (by have := hrel'.out.2.1; exact this) (by rw [← eL.out]; exact hgo.out) hrd5)
          rw [← eL.out] at htot
          unfold TotPost at htot
          rw [← hG.out] at htot
          clear hrd5 hrel' eL
          go_wp2_with fail
          refine htot.out.mono ?_
          rintro e w7 ⟨rfl, hb7⟩
          have hk7 := hkr.out.below' hb7
          obtain ⟨j0, j1, j2, j3, e0, e1, e2, e3⟩ := hk7.c4
          have hlt7 := hk7.lt
          have hbe7 := hide (hbw.out.trans (hb7.mono hbw.out.size))
          clear hb7 hk7 htot
          go_wp2
          refine bodyPost_ret (v := .tuple #[.agg #[.int .i64 (lineG l t (r : Int)).w, .int .i64 (lineG l t (r : Int)).st, .int .i64 (lineG l t (r : Int)).sh, .int .i64 (lineG l t (r : Int)).o], .bool true]) (by simp [results, Try.results61, go_sem, j0, j1, j2, j3, e0, e1, e2, e3]) rfl ⟨by first | rfl | rw [hk'.out], ?_⟩
          have := hbe7.out
          (repeat (first | exact Below.refl _ _ | assumption | refine Below.alloc ?_ (by first | assumption | omega | (simp; done) | (simp; omega)) _ | refine Below.setCell ?_ (by first | assumption | omega | (simp; done) | (simp; omega)) _ | refine below_drewN ?_ _ | refine Below.drew ?_))
        | true =>
          have eL := hide (show lineGs l t (r : Int) = R.map (gAt l) ++ [y.g] from by rw [hgs.out, hyb.out, k3, if_pos rfl, hyg.out])
          have hown9 := hide hrel'.out.1
          go_wp2_with (at_builtin; refine wpList_append_lies _ rfl _ _ 95 rfl w1.heap.size 27 i0 (.agg #[.int .i64 0, .int .i64 0, .int .i64 0, .int .i64 0]) 4 32 Try.underlying95 hi hz0 hz1 hz2 rfl (by decide) _ _ _ rfl (hown9.out.alloc _) ⟨wr.heap.size, 0, none⟩ 1 1 [.int .i64 y.g.w, .int .i64 y.g.st, .int .i64 y.g.sh, .int .i64 y.g.o] rfl rfl (news_new wr 27 [.int .i64 y.g.w, .int .i64 y.g.st, .int .i64 y.g.sh, .int .i64 y.g.o]) (one_glue4 _ _ _ _) (by omega) (by unfold maxLen; omega) (by omega) (by simp; omega) _ rfl ?_)
          intro g3 cap3 w3 hown3 hg3 hat3 hlt3
          have hfin := gl_step hrel'.out hown3 hg3
          rw [← eL.out] at hfin
          obtain ⟨f1, f2, f3⟩ := hfin
          have hkr3 := hide (hk1.out.below f3 hlt1)
          have hbw3 := hide (hbe.out.trans (f3.mono hbs))
          have htot := hide (total_any _ (k + 1) cap3 (lineGs l t (r : Int)) w3 (by omega) f2 hgo.out (Rd.of_own f1))
          unfold TotPost at htot
          rw [← hG.out] at htot
          clear hown3 hg3 hat3 hlt3 f1 f2 f3 hrel' hown9 eL hkr hbw
          go_wp2_with fail
          refine htot.out.mono ?_
          rintro e w7 ⟨rfl, hb7⟩
          have hk7 := hkr3.out.below' hb7
          obtain ⟨j0, j1, j2, j3, e0, e1, e2, e3⟩ := hk7.c4
          have hlt7 := hk7.lt
          have hbe7 := hide (hbw3.out.trans (hb7.mono hbw3.out.size))
          clear hb7 hk7 htot
          go_wp2
          refine bodyPost_ret (v := .tuple #[.agg #[.int .i64 (lineG l t (r : Int)).w, .int .i64 (lineG l t (r : Int)).st, .int .i64 (lineG l t (r : Int)).sh, .int .i64 (lineG l t (r : Int)).o], .bool true]) (by simp [results, Try.results61, go_sem, j0, j1, j2, j3, e0, e1, e2, e3]) rfl ⟨by first | rfl | rw [hk'.out], ?_⟩
          have := hbe7.out
          (repeat (first | exact Below.refl _ _ | assumption | refine Below.alloc ?_ (by first | assumption | omega | (simp; done) | (simp; omega)) _ | refine Below.setCell ?_ (by first | assumption | omega | (simp; done) | (simp; omega)) _ | refine below_drewN ?_ _ | refine Below.drew ?_))
end Go.Proofs.Ytocaonlmlafjmaa
