/- The walks through the letters and the levels of a pattern, the functions themselves. No condition but the model's own bound on a text's length. -/
import Derived.Test.YtfhhfibjjpiccaaPat
namespace Go.Proofs.Ytfhhfibjjpiccaa
open Go.RowKit
set_option linter.unusedVariables false
set_option linter.unusedSimpArgs false
set_option maxRecDepth 100000

theorem patS_no {p : ByteArray} (h : patB p = false) : patS p = ByteArray.empty := by unfold patS; rw [if_neg (by rw [h]; exact Bool.false_ne_true)]
theorem patS_yes {p : ByteArray} (h : patB p = true) : patS p = patTo p p.size := by unfold patS; rw [if_pos h]
theorem patLv_no {p : ByteArray} (h : patB p = false) : patLv p = [] := by unfold patLv; rw [if_neg (by rw [h]; exact Bool.false_ne_true)]
theorem patLv_yes {p : ByteArray} (h : patB p = true) : patLv p = lvAll (bl p) p.size := by unfold patLv; rw [if_pos h]
theorem patLv_bd (p : ByteArray) : (patLv p).length ≤ 13 := by
  cases h : patB p with
  | true =>
    have := patB_true h
    have := lvAll_le (l := bl p) p.size (by rw [bl_len]; exact Nat.le_refl _)
    rw [patLv_yes h]; omega
  | false => rw [patLv_no h]; simp
theorem patS_bd (p : ByteArray) : (patS p).size ≤ 12 := by
  cases h : patB p with
  | true =>
    have := patB_true h
    have := patTo_size p p.size (Nat.le_refl _)
    rw [patS_yes h]; omega
  | false => rw [patS_no h]; simp
theorem specPatLetters (p : ByteArray) (w : World) (hs : p.size ≤ maxLen) :
    Calls Try.prog 89 #[.string p] w fun e w' => e = .returned (.string (patS p)) ∧ w = w' := by
  have hv := hide (fun W => specPat p W hs)
  cases h : patB p with
  | false =>
    rw [patS_no h]
    unfold maxLen at hs
    by_cases h0 : 0 < p.size
    · go_enter Try.func89, Try.ntmps89
      go_wp2
      refine wp_loop_rounds 1 ?_
      rw [rounds_succ]
      go_wp2_with fail
      refine (hv.out _).mono ?_
      rintro e w' ⟨rfl, rfl⟩
      rw [h]
      go_wp2
      go_ret
      exact ⟨rfl, rfl⟩
    · have hd : decide ((0 : Int) < (p.size : Int)) = false := decide_eq_false (by omega)
      go_enter Try.func89, Try.ntmps89
      go_wp2
      refine wp_loop_rounds 1 ?_
      rw [rounds_succ]
      go_wp2
      go_ret
      exact ⟨rfl, rfl⟩
  | true =>
    have h12 := patB_true h
    have hp : p.size ≤ 12 := h12.2.2
    have hS := hide (patS_yes h)
    clear h12
    go_enter Try.func89, Try.ntmps89
    go_wp2
    go_loop [3, 4] (fun q i => ∃ (k : Nat) (o : ByteArray), k ≤ p.size ∧ i = .int .i64 k ∧ q = .string o ∧ o.size ≤ k ∧ Hid (o = patTo p k)) (fun _ i => p.size - (intOf i).toNat)
    case atStart => exact ⟨0, ByteArray.empty, Nat.zero_le _, rfl, rfl, by simp, rfl⟩
    case round =>
      obtain ⟨k, o, hk, rfl, rfl, hos, ho⟩ := hrel
      by_cases hlt : k < p.size
      · have hgd := hide (bl_getD p k hlt)
        cases hdg : isDg ((p[k].toNat : Nat) : Int) with
        | true =>
          have hbd := isDg_bd hdg
          have e2 := hide (patTo_dg (p := p) (k := k) (by rw [hgd.out]; exact hdg))
          clear hdg
          go_wp2_with fail
          refine (hv.out _).mono ?_
          rintro e w' ⟨rfl, rfl⟩
          rw [h]
          go_wp2
          go_round
          case rel => exact ⟨k + 1, o, by omega, by go_num, rfl, by omega, by show _ = _; rw [e2.out, ho.out]⟩
          case measure => simp [intOf]; omega
        | false =>
          have hnb := isDg_nb hdg
          have e2 := hide (patTo_no (p := p) (k := k) (by rw [hgd.out]; exact hdg))
          have hxs : (p.extract k (k + 1)).size = 1 := by rw [size_extract _ _ _ (by omega)]; omega
          have hz : o.size + (p.extract k (k + 1)).size ≤ 9223372036854775807 := by omega
          have hxs' := hide hxs
          clear hxs hdg
          by_cases hlo : ((p[k].toNat : Nat) : Int) < 48
          · go_wp2_with fail
            refine (hv.out _).mono ?_
            rintro e w' ⟨rfl, rfl⟩
            rw [h]
            go_wp2
            go_round
            case rel => exact ⟨k + 1, _, by omega, by go_num, rfl, by rw [ByteArray.size_append, hxs'.out]; omega, by show _ = _; rw [e2.out, ho.out]⟩
            case measure => simp [intOf]; omega
          · have hhi : 57 < ((p[k].toNat : Nat) : Int) := by omega
            have hd : decide (((p[k].toNat : Nat) : Int) < 48) = false := decide_eq_false hlo
            clear hlo hnb
            go_wp2_with fail
            refine (hv.out _).mono ?_
            rintro e w' ⟨rfl, rfl⟩
            rw [h]
            go_wp2
            go_round
            case rel => exact ⟨k + 1, _, by omega, by go_num, rfl, by rw [ByteArray.size_append, hxs'.out]; omega, by show _ = _; rw [e2.out, ho.out]⟩
            case measure => simp [intOf]; omega
      · obtain rfl : k = p.size := by omega
        have ho' := hide ho.out
        go_wp2
        go_ret
        exact ⟨by rw [hS.out, ← ho'.out]; rfl, rfl⟩
theorem lvO_dg {l : List Int} {k : Nat} (h : isDg (l.getD k 0) = true) : lvO l (k + 1) = ((lvO l k).1, l.getD k 0 - 48) := by rw [lvO, if_pos h]
theorem lvO_no {l : List Int} {k : Nat} (h : isDg (l.getD k 0) = false) : lvO l (k + 1) = ((lvO l k).1 ++ [(lvO l k).2], 0) := by rw [lvO, if_neg (by rw [h]; exact Bool.false_ne_true)]
theorem lvO_le {l : List Int} (k : Nat) (hk : k ≤ l.length) : (lvO l k).1.length ≤ k := by
  have := lvAll_le k hk
  unfold lvAll at this
  rw [List.length_append, List.length_singleton] at this
  omega
set_option maxHeartbeats 1000000 in
theorem specPatLevels (p : ByteArray) (w : World) (hs : p.size ≤ maxLen) :
    Calls Try.prog 90 #[.string p] w (RowN (patLv p) w) := by
  have hv := hide (fun W => specPat p W hs)
  obtain ⟨i0, hi, hz0, hz1, hz2⟩ := info_parts int_info
  have hk0 := hide (own_emptyN (Blk.new w 3 #[]) (Nat.le_refl _))
  have hk1 := hide (fun W : World => own_emptyN (base := w.heap.size) (Blk.new W 3 #[]))
  cases h : patB p with
  | false =>
    rw [patLv_no h]
    unfold maxLen at hs
    by_cases h0 : 0 < p.size
    · go_enter Try.func90, Try.ntmps90
      go_wp2
      refine wp_loop_rounds 1 ?_
      rw [rounds_succ]
      go_wp2_with fail
      refine (hv.out _).mono ?_
      rintro e w' ⟨rfl, rfl⟩
      rw [h]
      go_wp2_with fail
      refine (hv.out _).mono ?_
      rintro e w' ⟨rfl, rfl⟩
      rw [h]
      go_wp2
      unfold RowN
      go_ret
      exact ⟨_, rfl, by simpa [cellsN] using hk1.out (w.alloc (.cells #[] 3)) (by simp), by (repeat (first | exact Below.refl _ _ | assumption | refine Below.alloc ?_ (by first | assumption | omega | (simp; done) | (simp; omega)) _ | refine Below.setCell ?_ (by first | assumption | omega | (simp; done) | (simp; omega)) _ | refine below_drewN ?_ _ | refine Below.drew ?_))⟩
    · have hd : decide ((0 : Int) < (p.size : Int)) = false := decide_eq_false (by omega)
      go_enter Try.func90, Try.ntmps90
      go_wp2
      refine wp_loop_rounds 1 ?_
      rw [rounds_succ]
      go_wp2_with fail
      refine (hv.out _).mono ?_
      rintro e w' ⟨rfl, rfl⟩
      rw [h]
      go_wp2
      unfold RowN
      go_ret
      exact ⟨_, rfl, by simpa [cellsN] using hk1.out (w.alloc (.cells #[] 3)) (by simp), by (repeat (first | exact Below.refl _ _ | assumption | refine Below.alloc ?_ (by first | assumption | omega | (simp; done) | (simp; omega)) _ | refine Below.setCell ?_ (by first | assumption | omega | (simp; done) | (simp; omega)) _ | refine below_drewN ?_ _ | refine Below.drew ?_))⟩
  | true =>
    have h12 := patB_true h
    have hp : p.size ≤ 12 := h12.2.2
    rw [patLv_yes h]
    clear h12
    go_enter Try.func90, Try.ntmps90
    go_wp2
    go_loopw [3, 4, 5] (fun v q i wr => ∃ (k : Nat) (y : Int), k ≤ p.size ∧ i = .int .i64 k ∧ q = .int .i64 y ∧ Hid (y = (lvO (bl p) k).2) ∧ wr.ownsRow w.heap.size 3 1 v (lvO (bl p) k).1.length (cellsN (lvO (bl p) k).1) ∧ Below w.heap.size w wr) (fun _ _ i _ => p.size - (intOf i).toNat)
    case atStart => exact ⟨0, 0, Nat.zero_le _, rfl, rfl, rfl, hk0.out, by (repeat (first | exact Below.refl _ _ | assumption | refine Below.alloc ?_ (by first | assumption | omega | (simp; done) | (simp; omega)) _ | refine Below.setCell ?_ (by first | assumption | omega | (simp; done) | (simp; omega)) _ | refine below_drewN ?_ _ | refine Below.drew ?_))⟩
    case round =>
      obtain ⟨k, y, hk, rfl, rfl, hy, hown, hb⟩ := hrel
      have hyb : 0 ≤ y ∧ y ≤ 9 := by rw [hy.out]; exact (lvO_bd (bl p) k).2
      have hlen := lvO_le (l := bl p) k (by rw [bl_len]; exact hk)
      have hown' := hide hown
      have hb' := hide hb
      have hbs := hb.size
      clear hown hb
      by_cases hlt : k < p.size
      · have hgd := hide (bl_getD p k hlt)
        cases hdg : isDg ((p[k].toNat : Nat) : Int) with
        | true =>
          have hbd := isDg_bd hdg
          have e2 := hide (lvO_dg (l := bl p) (k := k) (by rw [hgd.out]; exact hdg))
          clear hdg
          go_wp2_with fail
          refine (hv.out _).mono ?_
          rintro e w' ⟨rfl, rfl⟩
          rw [h]
          go_wp2
          go_roundw
          case rel => exact ⟨k + 1, _, by omega, by go_num, rfl, by show _ = _; rw [e2.out, hgd.out], by rw [e2.out]; exact hown'.out, hb'.out⟩
          case measure => simp [intOf]; omega
        | false =>
          have hnb := isDg_nb hdg
          have e2 := hide (lvO_no (l := bl p) (k := k) (by rw [hgd.out]; exact hdg))
          clear hdg
          by_cases hlo : ((p[k].toNat : Nat) : Int) < 48
          · have hd : decide (48 ≤ ((p[k].toNat : Nat) : Int)) = false := decide_eq_false (by omega)
            go_wp2_with fail
            refine (hv.out _).mono ?_
            rintro e w' ⟨rfl, rfl⟩
            rw [h]
            go_wp2_with (at_builtin; refine wpList_append_lies _ rfl _ _ 39 rfl w.heap.size 3 i0 (.int .i64 0) 1 8 Try.underlying39 hi hz0 hz1 hz2 rfl (by decide) _ _ _ rfl (hown'.out.alloc _) ⟨wr.heap.size, 0, none⟩ 1 1 [.int .i64 y] rfl rfl (fun j u hj => cell_one_at (by simp) hj) (one_cells _) (by omega) (by unfold maxLen; omega) (by omega) (by simp; omega) _ rfl ?_)
            intro g3 cap3 w3 hown3 hg3 hat3 hlt3
            have hbe := hide ((hb'.out.alloc hbs _).grown hg3 (by simp; omega) (fun kk hkk => (hown'.out.lt kk hkk).1))
            have hrow := hide hown3
            clear hown3 hg3 hat3 hlt3
            go_wp2
            go_roundw
            case rel =>
              refine ⟨k + 1, 0, by omega, by go_num, rfl, by show _ = _; rw [e2.out], ?_, hbe.out⟩
              have q := hrow.out
              rw [e2.out]
              rw [List.length_append, List.length_singleton, ← hy.out]
              simpa [cellsN] using q
            case measure => simp [intOf]; omega
          · have hd : decide (((p[k].toNat : Nat) : Int) ≤ 57) = false := decide_eq_false (by omega)
            have hd4 : 48 ≤ ((p[k].toNat : Nat) : Int) := by omega
            go_wp2_with fail
            refine (hv.out _).mono ?_
            rintro e w' ⟨rfl, rfl⟩
            rw [h]
            go_wp2_with (at_builtin; refine wpList_append_lies _ rfl _ _ 39 rfl w.heap.size 3 i0 (.int .i64 0) 1 8 Try.underlying39 hi hz0 hz1 hz2 rfl (by decide) _ _ _ rfl (hown'.out.alloc _) ⟨wr.heap.size, 0, none⟩ 1 1 [.int .i64 y] rfl rfl (fun j u hj => cell_one_at (by simp) hj) (one_cells _) (by omega) (by unfold maxLen; omega) (by omega) (by simp; omega) _ rfl ?_)
            intro g3 cap3 w3 hown3 hg3 hat3 hlt3
            have hbe := hide ((hb'.out.alloc hbs _).grown hg3 (by simp; omega) (fun kk hkk => (hown'.out.lt kk hkk).1))
            have hrow := hide hown3
            clear hown3 hg3 hat3 hlt3
            go_wp2
            go_roundw
            case rel =>
              refine ⟨k + 1, 0, by omega, by go_num, rfl, by show _ = _; rw [e2.out], ?_, hbe.out⟩
              have q := hrow.out
              rw [e2.out]
              rw [List.length_append, List.length_singleton, ← hy.out]
              simpa [cellsN] using q
            case measure => simp [intOf]; omega
      · obtain rfl : k = p.size := by omega
        go_wp2_with fail
        refine (hv.out _).mono ?_
        rintro e w' ⟨rfl, rfl⟩
        rw [h]
        go_wp2_with (at_builtin; refine wpList_append_lies _ rfl _ _ 39 rfl w.heap.size 3 i0 (.int .i64 0) 1 8 Try.underlying39 hi hz0 hz1 hz2 rfl (by decide) _ _ _ rfl (hown'.out.alloc _) ⟨wr.heap.size, 0, none⟩ 1 1 [.int .i64 y] rfl rfl (fun j u hj => cell_one_at (by simp) hj) (one_cells _) (by omega) (by unfold maxLen; omega) (by omega) (by simp; omega) _ rfl ?_)
        intro g3 cap3 w3 hown3 hg3 hat3 hlt3
        have hbe := hide ((hb'.out.alloc hbs _).grown hg3 (by simp; omega) (fun kk hkk => (hown'.out.lt kk hkk).1))
        have hrow := hide hown3
        clear hown3 hg3 hat3 hlt3
        go_wp2
        unfold RowN
        go_ret
        refine ⟨_, rfl, ?_, hbe.out⟩
        have q := hrow.out
        unfold lvAll
        rw [List.length_append, List.length_singleton, ← hy.out]
        simpa [cellsN] using q
end Go.Proofs.Ytfhhfibjjpiccaa
