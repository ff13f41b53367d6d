/- The walk through the law of totals. No condition. -/
import Derived.Test.YtoiacijjbehioaaArgs
import Derived.Test.YtoiacijjbehioaaDrGl2
import Derived.Test.YtoiacijjbehioaaGlMath
import Derived.Deep.RegionHeld3
namespace Go.Proofs.Ytoiacijjbehioaa
open Go.RowKit
set_option linter.unusedVariables false
set_option linter.unusedSimpArgs false
set_option maxRecDepth 100000

def TuRel (L : List G) (w3 : World) (n k : Nat) (v : Value) (wr : World) : Prop :=
  wr.ownsRow w3.heap.size 26 4 v (n - k) (cellsG (turnTo L k)) ∧ Below w3.heap.size w3 wr
theorem tu_step {L : List G} {w3 wr w5 : World} {n j g5 cap5 : Nat} {v : Value} {x : G} (hj : j < n) (hT : turnTo L j = turnTo L (j + 1) ++ [x]) (h : TuRel L w3 n (j + 1) v wr)
    (hown5 : w5.ownsRow w3.heap.size 26 4 (.slice (some ⟨g5, 0, none⟩) (n - (j + 1) + 1) cap5) (n - (j + 1) + 1) (cellsG (turnTo L (j + 1)) ++ [.int .i64 x.w, .int .i64 x.st, .int .i64 x.sh, .int .i64 x.o]))
    (hg5 : (wr.alloc (.cells [.int .i64 x.w, .int .i64 x.st, .int .i64 x.sh, .int .i64 x.o].toArray 26)).grownBy w5 v.ownBlock) : TuRel L w3 n j (.slice (some ⟨g5, 0, none⟩) (n - (j + 1) + 1) cap5) w5 := by
  obtain ⟨h1, h4⟩ := h
  have e : n - j = n - (j + 1) + 1 := by omega
  refine ⟨?_, (h4.alloc h4.size _).grown hg5 (by simp; have := h4.size; omega) (fun kk hkk => (h1.lt kk hkk).1)⟩
  rw [hT, e, cellsG_snoc]
  exact hown5
theorem tu_below {L : List G} {w3 wr w5 : World} {n k : Nat} {v : Value} (h : TuRel L w3 n k v wr) (hb : Below wr.heap.size wr w5) : TuRel L w3 n k v w5 :=
  ⟨own_below h.1 hb, h.2.trans (hb.mono h.2.size)⟩
set_option maxHeartbeats 8000000 in
theorem walkFnGlueTotal (A0 : Option Addr) (n0 c0 : Nat) (l0 : List Int) (w : World) (w0a : n0 ≤ c0) (w0b : c0 ≤ maxLen) (w0c : List.length l0 = n0) (w0d : Rd w 1 A0 n0 (cellsB l0)) (w0e : ∀ z ∈ l0, 0 ≤ z ∧ z ≤ 255) :
    Calls Try.prog 7 #[.slice A0 n0 c0] w fun e w' => e = .returned (.bool true) ∧ Below w.heap.size w w' := by
  by_cases hbig : 1048576 < n0
  · have hd : decide (1048576 < (n0 : Int)) = true := by simp; omega
    clear w0a w0b w0c w0d w0e hbig
    go_enter Try.func7, Try.ntmps7
    go_wp2
    go_ret
    exact ⟨rfl, Below.refl _ _⟩
  · have hd : decide (1048576 < (n0 : Int)) = false := by simp; omega
    have hdraw := hide (drawGT w A0 n0 c0 l0 w0c w0a (by omega) w0d w0e)
    clear w0a w0b w0c w0d w0e hbig
    go_enter Try.func7, Try.ntmps7
    go_wp2_with (fail)
    refine hdraw.out.mono ?_
    rintro e w1 ⟨L, v, n, rfl, hn, hL, hLb, hown, hb1⟩
    obtain ⟨A1, c1, rfl, hnc, hrd⟩ := own_form hown
    have hb1' := hide hb1
    have hsz1 := hb1.size
    have hrd' := hide hrd
    have hL' := hide hL
    have hnm : n ≤ maxLen := by unfold maxLen; omega
    clear hdraw hb1 hown hLb hL hrd
    have ci := hide (fun W (M : List G) B m d (h1 : m ≤ maxLen) (h2 : List.length M = m) (h3 : Rd W 4 B m (cellsG M)) => implGT B m d M W h1 h2 h3)
    have cs := hide (fun W (h3 : Rd W 4 A1 n (cellsG L)) => specGT A1 n c1 L W hnm hL'.out h3)
    go_wp2_with fail
    refine (ci.out w1 L A1 n c1 hnm hL'.out hrd'.out).mono ?_
    rintro e w2 ⟨rfl, hb2⟩
    have hk2 := hide (Blk.new w2 26 #[.int .i64 (GT L).w, .int .i64 (GT L).st, .int .i64 (GT L).sh, .int .i64 (GT L).o])
    have hs2 := hb2.size
    have bel2 := hide ((hb2.alloc hb2.size (.cells #[.int .i64 (GT L).w, .int .i64 (GT L).st, .int .i64 (GT L).sh, .int .i64 (GT L).o] 26)))
    clear hb2
    go_wp2_with fail
    obtain ⟨g, hg⟩ : ∃ g, g = w2.heap.size := ⟨_, rfl⟩
    rw [← hg] at hk2 ⊢
    have hgs : w1.heap.size ≤ g := by omega
    generalize w2.alloc (.cells #[.int .i64 (GT L).w, .int .i64 (GT L).st, .int .i64 (GT L).sh, .int .i64 (GT L).o] 26) = wb at hk2 bel2 ⊢
    clear hg hs2
    obtain ⟨k0, k1, k2, k3, f0, f1, f2, f3⟩ := hk2.out.c4
    have hgl := hk2.out.lt
    have rdb := hide (hrd'.out.below bel2.out)
    go_region_held3 (fun W => W.cell? ⟨g, 0, none⟩ = some (.int .i64 (GT L).w) ∧ W.cell? ⟨g, 1, none⟩ = some (.int .i64 (GT L).st) ∧ W.cell? ⟨g, 2, none⟩ = some (.int .i64 (GT L).sh) ∧ W.cell? ⟨g, 3, none⟩ = some (.int .i64 (GT L).o) ∧ Below wb.heap.size wb W) (first | exact ⟨k0, k1, k2, k3, (Below.refl _ _).drew⟩ | assumption | (go_split_ands; refine ⟨((bcell hb3).1 _ _ (Nat.lt_of_lt_of_le hgl (Below.size (w := wb) (B := wb.heap.size) (by assumption)))).trans (by assumption), ((bcell hb3).1 _ _ (Nat.lt_of_lt_of_le hgl (Below.size (w := wb) (B := wb.heap.size) (by assumption)))).trans (by assumption), ((bcell hb3).1 _ _ (Nat.lt_of_lt_of_le hgl (Below.size (w := wb) (B := wb.heap.size) (by assumption)))).trans (by assumption), ((bcell hb3).1 _ _ (Nat.lt_of_lt_of_le hgl (Below.size (w := wb) (B := wb.heap.size) (by assumption)))).trans (by assumption), Below.trans (by assumption) (hb3.mono (Below.size (by assumption)))⟩)) ((go_at_call 25; refine (cs.out _ (rdb.out.below (by first | assumption | exact (Below.refl _ _).drew))).mono ?_; rintro e w3 ⟨rfl, hb3⟩))
    all_goals
      have bel3 := hide (bel2.out.trans (((Below.refl wb.heap.size wb).drew.trans hb3).mono bel2.out.size))
      have hk3 := hide ((Blk.drew hk2.out).below' hb3)
      have hgl3 := hk3.out.lt
      have hgs3 := Nat.le_trans hgs (Nat.le_of_lt hgl3)
      clear hb3 hk2 bel2 k0 k1 k2 k3 f0 f1 f2 f3 hgl rdb
      obtain ⟨i0, hi, hz0, hz1, hz2⟩ := info_parts glue_info
      have hst := hide (show TuRel L w3 n n (.slice (some ⟨w3.heap.size, 0, none⟩) 0 0) (w3.alloc (.cells #[] 26)) from ⟨by rw [turn_none hL'.out, Nat.sub_self]; exact own_empty4 (Blk.new w3 26 #[]), (Below.refl _ _).alloc (Nat.le_refl _) _⟩)
      have hok0 := okFrom_none hL'.out
      have hrd3 := hide (hrd'.out.below bel3.out)
      go_wp2
      go_loopw [5, 7, 8] (fun v q i wr => ∃ k : Nat, k ≤ n ∧ i = .int .i64 ((k : Int) - 1) ∧ q = .bool (okFrom L k) ∧ TuRel L w3 n k v wr) (fun _ _ i _ => (intOf i + 1).toNat)
      case atStart => exact ⟨n, Nat.le_refl _, rfl, by rw [hok0, show decide (n ≤ 60) = decide ((n : Int) ≤ 60) from decide_eq_decide.2 (by omega)], hst.out⟩
      case round =>
        clear hst hok0
        obtain ⟨k, hk, rfl, rfl, hrel⟩ := hrel
        have hrel' := hide hrel
        obtain ⟨hown, hbl⟩ := hrel
        have hgb := hk3.out.below hbl hgl3
        have hown' := hide hown
        have hws := hbl.size
        by_cases hj : 0 < k
        · obtain ⟨j, rfl⟩ : ∃ j, k = j + 1 := ⟨k - 1, by omega⟩
          have ej : ((j + 1 : Nat) : Int) - 1 = (j : Int) := by omega
          rw [ej]
          have hjn : j < n := by omega
          obtain ⟨b, off, x, rfl, hbk, hx, c0, c1, c2, c3⟩ := (hrd3.out.below hbl).glue hL'.out hjn
          have eT := hide (turn_step hx)
          have eO := hide (okFrom_step hx)
          have hx' := hide hx
          clear hown hgb hbl hx ej
          go_wp2_with (at_builtin; refine wpList_append_lies _ rfl _ _ 35 rfl w3.heap.size 26 i0 (.agg #[.int .i64 0, .int .i64 0, .int .i64 0, .int .i64 0]) 4 32 Try.underlying35 hi hz0 hz1 hz2 rfl (by decide) _ _ _ rfl (hown'.out.alloc _) ⟨wr.heap.size, 0, none⟩ 1 1 [.int .i64 x.w, .int .i64 x.st, .int .i64 x.sh, .int .i64 x.o] rfl rfl (news_new wr 26 [.int .i64 x.w, .int .i64 x.st, .int .i64 x.sh, .int .i64 x.o]) (g_cells_one x) (by omega) (by unfold maxLen; omega) (by omega) (by simp; omega) _ rfl ?_)
          intro g5 cap5 w5 hown5 hg5 hat5 hlt5
          have hfin := hide (tu_step hjn eT.out hrel'.out hown5 hg5)
          have hbl5 := hfin.out.2
          obtain ⟨b9, off9, x9, hA9, hbk9, hx9, d0, d1, d2, d3⟩ := (hrd3.out.below hbl5).glue hL'.out hjn
          injection hA9 with hA9
          injection hA9 with hA91 hA92
          subst hA91
          subst hA92
          have hxe : x9 = x := by rw [hx'.out] at hx9; exact (Option.some.inj hx9).symm
          rw [hxe] at d0 d1 d2 d3
          have hs5 := hbl5.size
          clear hown5 hg5 hat5 hlt5 hbl5 hxe hx9 c0 c1 c2 c3 hrel' hown'
          cases hv : okFrom L (j + 1) with
          | false =>
            rw [hv, Bool.false_and] at eO
            go_wp2
            go_roundw
            case rel => exact ⟨j, by omega, by first | rfl | go_num, by rw [eO.out], hfin.out⟩
            case measure => (simp [intOf] <;> omega)
          | true =>
            rw [hv, Bool.true_and] at eO
            go_wp2_with fail
            refine (specGlueValid x _).mono ?_
            rintro e w6 ⟨rfl, hb6⟩
            have hfin6 := hide (tu_below hfin.out hb6)
            clear hb6 hfin
            go_wp2
            go_roundw
            case rel => exact ⟨j, by omega, by first | rfl | go_num, by rw [eO.out], hfin6.out⟩
            case measure => (simp [intOf] <;> omega)
        · obtain rfl : k = 0 := by omega
          have hall := okFrom_all L
          rw [hall]
          have hbl' := hide hbl
          have hgb' := hide hgb
          have hown2 := hown
          rw [turn_all, Nat.sub_zero] at hown2
          replace hown2 := hide hown2
          obtain ⟨k0, k1, k2, k3, f0, f1, f2, f3⟩ := hgb.c4
          clear hown hgb hbl hall hrel' hown'
          cases hv : glues60 L with
          | false =>
            have e0 := GT_no hv
            rw [e0] at k0 k1 k2 k3
            go_wp2_with fail
            refine (alive_any _).mono ?_
            rintro e w99 ⟨rfl, hb99⟩
            have := hb1'.out.trans ((bel3.out.trans ((hbl'.out.trans (hb99.mono hws)).mono hgs3)).mono hsz1)
            go_wp2
            go_ret
            exact ⟨rfl, this⟩
          | true =>
            have hok := hide (glues60_ok hv).1
            have hGw := hide (GT_w hv)
            have hsb := hide (fun k => sumOf_bd G.w 1000 (L.take k) (fun a ha => by have := glueOk_true (hok.out a (List.mem_of_mem_take ha)); omega))
            obtain ⟨A5, c5, rfl, hn5, hrd5⟩ := own_form hown2.out
            have cT := hide (fun W (hW : Rd W 4 A5 n (cellsG L.reverse)) => show Calls Try.prog 27 #[.slice A5 n c5] W (GPost (GT L) W) from by
              have := ci.out W L.reverse A5 n c5 hnm (by rw [List.length_reverse, hL'.out]) hW
              rwa [GT_rev] at this)
            have hrd5' := hide hrd5
            have hrdr := hide (hrd3.out.below hbl'.out)
            clear hv hrd5 hown2
            go_wp2
            go_loop [6, 9] (fun q i => ∃ k : Nat, k ≤ n ∧ i = .int .i64 k ∧ q = .int .i64 (sumOf G.w (L.take k))) (fun _ i => n - (intOf i).toNat)
            case atStart => exact ⟨0, Nat.zero_le _, rfl, by simp [sumOf]⟩
            case round =>
              obtain ⟨k, hk, rfl, rfl⟩ := hrel
              by_cases hlt : k < n
              · obtain ⟨b, off, x, rfl, hbk, hx, c0, c1, c2, c3⟩ := hrdr.out.glue hL'.out hlt
                have hb1 := hsb.out k
                have hlk : (L.take k).length ≤ 61 := by rw [List.length_take]; omega
                have hxb := (glueOk_true (hok.out x (List.mem_of_getElem? hx))).1
                have es := hide (show sumOf G.w (L.take (k + 1)) = sumOf G.w (L.take k) + x.w from by rw [take_snoc' _ _ _ hx, sumOf_snoc])
                clear hx
                generalize sumOf G.w (L.take k) = S at *
                have hS : 0 ≤ S ∧ S ≤ 61000 := by omega
                go_wp2
                go_round
                case rel => exact ⟨k + 1, by omega, by go_num, by rw [es.out]⟩
                case measure => simp [intOf]; omega
              · obtain rfl : k = n := by omega
                have eF := hide (show sumOf G.w (L.take k) = (GT L).w from by rw [List.take_of_length_le (by have := hL'.out; omega), hGw.out])
                rw [eF.out]
                have hgl9 := hgb'.out.lt
                clear hsb
                go_wp2_with fail
                go_region_held3 (fun W => W.cell? ⟨g, 0, none⟩ = some (.int .i64 (GT L).w) ∧ W.cell? ⟨g, 1, none⟩ = some (.int .i64 (GT L).st) ∧ W.cell? ⟨g, 2, none⟩ = some (.int .i64 (GT L).sh) ∧ W.cell? ⟨g, 3, none⟩ = some (.int .i64 (GT L).o) ∧ Below wr.heap.size wr W) (first | exact ⟨k0, k1, k2, k3, (Below.refl _ _).drew⟩ | assumption | (go_split_ands; refine ⟨((bcell hb3).1 _ _ (Nat.lt_of_lt_of_le hgl9 (Below.size (w := wr) (B := wr.heap.size) (by assumption)))).trans (by assumption), ((bcell hb3).1 _ _ (Nat.lt_of_lt_of_le hgl9 (Below.size (w := wr) (B := wr.heap.size) (by assumption)))).trans (by assumption), ((bcell hb3).1 _ _ (Nat.lt_of_lt_of_le hgl9 (Below.size (w := wr) (B := wr.heap.size) (by assumption)))).trans (by assumption), ((bcell hb3).1 _ _ (Nat.lt_of_lt_of_le hgl9 (Below.size (w := wr) (B := wr.heap.size) (by assumption)))).trans (by assumption), Below.trans (by assumption) (hb3.mono (Below.size (by assumption)))⟩)) ((go_at_call 27; refine (cT.out _ (hrd5'.out.below (by first | assumption | exact (Below.refl _ _).drew))).mono ?_; rintro e w7 ⟨rfl, hb3⟩))
                all_goals
                  have hend := hide (hb1'.out.trans ((bel3.out.trans ((hbl'.out.trans (((Below.refl wr.heap.size wr).drew.trans hb3).mono hws)).mono hgs3)).mono hsz1))
                  clear hb3
                  go_wp2
                  go_ret
                  exact ⟨rfl, hend.out⟩
end Go.Proofs.Ytoiacijjbehioaa
