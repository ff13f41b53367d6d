/- The walks through the signs of a word. No condition but the model's own bound on a text's length. -/
import Derived.Test.YtfhhfibjjpiccaaLet2
import Derived.Test.YtfhhfibjjpiccaaWord
import Derived.Test.YtfhhfibjjpiccaaMade
import Derived.Deep.AppendLies
import Derived.Test.YtfhhfibjjpiccaaOwnS
namespace Go.Proofs.Ytfhhfibjjpiccaa
open Go.RowKit
set_option linter.unusedVariables false
set_option linter.unusedSimpArgs false
set_option maxRecDepth 100000

def SgRel (s : ByteArray) (w : World) (i : Nat) (v : Value) (wr : World) : Prop :=
  ∃ L : List ByteArray, L ++ sg s i = sg s 0 ∧ L.length ≤ i ∧ wr.ownsRow w.heap.size 9 1 v L.length (cellsS L) ∧ Below w.heap.size w wr
def RowS (R : List ByteArray) (w : World) (e : Ending) (w' : World) : Prop := ∃ v, e = .returned v ∧ w'.ownsRow w.heap.size 9 1 v R.length (cellsS R) ∧ Below w.heap.size w w'
theorem sg_rel {s t : ByteArray} {w wr wx w3 : World} {k k' g3 cap3 : Nat} {v : Value} {L : List ByteArray} (hL : L ++ sg s k = sg s 0) (hs : sg s k = t :: sg s k') (hk : L.length + 1 ≤ k') (hown : wr.ownsRow w.heap.size 9 1 v L.length (cellsS L)) (hb : Below w.heap.size w wx)
    (hown3 : w3.ownsRow w.heap.size 9 1 (.slice (some ⟨g3, 0, none⟩) (L.length + 1) cap3) (L.length + 1) (cellsS L ++ [.string t])) (hg3 : wx.grownBy w3 v.ownBlock) : SgRel s w k' (.slice (some ⟨g3, 0, none⟩) (L.length + 1) cap3) w3 := by
  refine ⟨L ++ [t], by rw [List.append_assoc, List.singleton_append, ← hs, hL], by simpa using hk, ?_, hb.grown hg3 hb.size (fun k hk => (hown.lt k hk).1)⟩
  have e : cellsS (L ++ [t]) = cellsS L ++ [.string t] := by simp [cellsS]
  rw [e]
  simpa using hown3
set_option maxHeartbeats 1000000 in
theorem implSigns0 (s : ByteArray) (w : World) (hs : s.size ≤ 1000000) :
    Calls Try.prog 57 #[.string s] w (RowS (sg s 0) w) := by
  obtain ⟨i0, hi, hz0, hz1, hz2⟩ := info_parts str_info
  go_enter Try.func57, Try.ntmps57
  go_wp2
  go_loopw [3, 4] (fun v i wr => ∃ k : Nat, k ≤ s.size ∧ i = .int .i64 k ∧ SgRel s w k v wr) (fun _ i _ => s.size - (intOf i).toNat)
  case atStart => exact ⟨0, Nat.zero_le _, rfl, [], rfl, Nat.le_refl _, World.ownsRow_nil _ _ _ _, Below.refl _ _⟩
  case round =>
    obtain ⟨k, hk, rfl, L, hL, hLk, hown, hb⟩ := hrel
    have hL' := hide hL
    have hown' := hide hown
    have hb' := hide hb
    have hbs := hb.size
    clear hL hown hb
    by_cases hlt : k < s.size
    · by_cases h2 : k + 1 < s.size
      · have hd : decide ((k : Int) + 1 < (s.size : Int)) = true := by simp; omega
        have hbb := byte_bd s (k + 1) h2
        have h2i : (k : Int) + 1 < (s.size : Int) := by omega
        cases hj : joinB ((s[k].toNat : Nat) : Int) ((s[k + 1].toNat : Nat) : Int) with
        | true =>
          go_wp2
          have w0 : IntKind.i64.wrap ((k : Int) + 1) = (k : Int) + 1 := IntWalk.i64_in _ (by omega)
          have w1 : ((k : Int) + 1).toNat = k + 1 := by omega
          have w2 : (0 : Int) ≤ (k : Int) + 1 := by omega
          
          go_quiet ((go_at_call 13; exact Calls.quiet_of_same (quiet_eq (implJoins _ _ _ hbb))))
          clear w0 hbb
          go_wp2_with (at_builtin; refine wpList_append_lies _ rfl _ _ 33 rfl w.heap.size 9 i0 (.string ByteArray.empty) 1 16 Try.underlying33 hi hz0 hz1 hz2 rfl (by decide) _ _ _ rfl ((own_below hown'.out (below_drewN (Below.refl _ _) _)).alloc _) ⟨wr.heap.size, 0, none⟩ 1 1 [.string (s.extract k (k + 2))] rfl rfl (fun j u hj => cell_one_at (by simp) hj) (one_str _) (by omega) (by unfold maxLen; omega) (by omega) (by simp; omega) _ rfl ?_)
          intro g3 cap3 w3 hown3 hg3 hat3 hlt3
          have hfin := hide (sg_rel (k' := k + 2) hL'.out (sg_two hlt (by unfold jn; rw [bl_getD s k hlt, bl_getD s (k + 1) h2]; simp [h2, hj])) (by omega) hown'.out ((below_drewN hb'.out _).alloc (by simpa using hbs) _) hown3 hg3)
          clear hown3 hg3 hat3 hlt3 hj
          go_wp2
          go_roundw
          case rel => exact ⟨k + 2, by omega, by go_num, hfin.out⟩
          case measure => simp [intOf]; omega
        | false =>
          go_wp2
          have w0 : IntKind.i64.wrap ((k : Int) + 1) = (k : Int) + 1 := IntWalk.i64_in _ (by omega)
          have w1 : ((k : Int) + 1).toNat = k + 1 := by omega
          have w2 : (0 : Int) ≤ (k : Int) + 1 := by omega
          
          go_quiet ((go_at_call 13; exact Calls.quiet_of_same (quiet_eq (implJoins _ _ _ hbb))))
          clear w0 hbb
          go_wp2_with (at_builtin; refine wpList_append_lies _ rfl _ _ 33 rfl w.heap.size 9 i0 (.string ByteArray.empty) 1 16 Try.underlying33 hi hz0 hz1 hz2 rfl (by decide) _ _ _ rfl ((own_below hown'.out (below_drewN (Below.refl _ _) _)).alloc _) ⟨wr.heap.size, 0, none⟩ 1 1 [.string (s.extract k (k + 1))] rfl rfl (fun j u hj => cell_one_at (by simp) hj) (one_str _) (by omega) (by unfold maxLen; omega) (by omega) (by simp; omega) _ rfl ?_)
          intro g3 cap3 w3 hown3 hg3 hat3 hlt3
          have hfin := hide (sg_rel (k' := k + 1) hL'.out (sg_one hlt (by unfold jn; rw [bl_getD s k hlt, bl_getD s (k + 1) h2]; simp [h2, hj])) (by omega) hown'.out ((below_drewN hb'.out _).alloc (by simpa using hbs) _) hown3 hg3)
          clear hown3 hg3 hat3 hlt3 hj
          go_wp2
          go_roundw
          case rel => exact ⟨k + 1, by omega, by go_num, hfin.out⟩
          case measure => simp [intOf]; omega
      · have hd : decide ((k : Int) + 1 < (s.size : Int)) = false := by simp; omega
        go_wp2
        have w0 : IntKind.i64.wrap ((k : Int) + 1) = (k : Int) + 1 := IntWalk.i64_in _ (by omega)
        have w1 : ((k : Int) + 1).toNat = k + 1 := by omega
        have w2 : (0 : Int) ≤ (k : Int) + 1 := by omega
        
        go_quiet (fail)
        clear w0
        go_wp2_with (at_builtin; refine wpList_append_lies _ rfl _ _ 33 rfl w.heap.size 9 i0 (.string ByteArray.empty) 1 16 Try.underlying33 hi hz0 hz1 hz2 rfl (by decide) _ _ _ rfl ((own_below hown'.out (below_drewN (Below.refl _ _) _)).alloc _) ⟨wr.heap.size, 0, none⟩ 1 1 [.string (s.extract k (k + 1))] rfl rfl (fun j u hj => cell_one_at (by simp) hj) (one_str _) (by omega) (by unfold maxLen; omega) (by omega) (by simp; omega) _ rfl ?_)
        intro g3 cap3 w3 hown3 hg3 hat3 hlt3
        have hfin := hide (sg_rel (k' := k + 1) hL'.out (sg_one hlt (by unfold jn; simp [h2])) (by omega) hown'.out ((below_drewN hb'.out _).alloc (by simpa using hbs) _) hown3 hg3)
        clear hown3 hg3 hat3 hlt3
        go_wp2
        go_roundw
        case rel => exact ⟨k + 1, by omega, by go_num, hfin.out⟩
        case measure => simp [intOf]; omega
    · have e := hide (sg_end hlt)
      go_wp2
      unfold RowS
      go_ret
      have := hL'.out
      rw [e.out, List.append_nil] at this
      rw [← this]
      exact ⟨_, rfl, hown'.out, hb'.out⟩
theorem implSigns (s : ByteArray) (w : World) (hs : s.size ≤ maxLen) :
    Calls Try.prog 26 #[.string s] w (RowS (signsL s) w) := by
  have hw := hide (implWord s w hs)
  unfold signsL
  cases h : wordB s with
  | false =>
    rw [if_neg Bool.false_ne_true]
    go_enter Try.func26, Try.ntmps26
    go_wp2_with fail
    refine hw.out.mono ?_
    rintro e w' ⟨rfl, rfl⟩
    rw [h]
    go_wp2
    unfold RowS
    go_ret
    exact ⟨_, rfl, World.ownsRow_nil _ _ _ _, Below.refl _ _⟩
  | true =>
    rw [if_pos rfl]
    have h20 := (wordB_true h).2
    have hs0 := hide (implSigns0 s w (by omega))
    clear h20
    go_enter Try.func26, Try.ntmps26
    go_wp2_with fail
    refine hw.out.mono ?_
    rintro e w' ⟨rfl, rfl⟩
    rw [h]
    go_wp2_with fail
    refine hs0.out.mono ?_
    rintro e w' ⟨v, rfl, hown, hb⟩
    have hown' := hide hown
    have hb' := hide hb
    clear hown hb hw h
    go_wp2
    unfold RowS
    go_ret
    exact ⟨_, rfl, hown'.out, hb'.out⟩
set_option maxHeartbeats 1000000 in
theorem specSigns1 (s : ByteArray) (w : World) (hs : s.size ≤ 1000000) (hv : wordB s = true) :
    Calls Try.prog 28 #[.string s] w (RowS (sg s 0) w) := by
  obtain ⟨i0, hi, hz0, hz1, hz2⟩ := info_parts str_info
  have hww := hide (fun W => specWord s W (by unfold maxLen; omega))
  have hk0 := hide (own_empty1 (Blk.new w 9 #[]) (Nat.le_refl _))
  go_enter Try.func28, Try.ntmps28
  go_wp2
  go_loopw [3, 4] (fun v i wr => ∃ k : Nat, k ≤ s.size ∧ i = .int .i64 k ∧ SgRel s w k v wr) (fun _ i _ => s.size - (intOf i).toNat)
  case atStart => exact ⟨0, Nat.zero_le _, rfl, [], rfl, Nat.le_refl _, hk0.out, by (repeat (first | exact Below.refl _ _ | assumption | refine Below.alloc ?_ (by first | assumption | omega | (simp; done) | (simp; omega)) _ | refine Below.setCell ?_ (by first | assumption | omega | (simp; done) | (simp; omega)) _ | refine below_drewN ?_ _ | refine Below.drew ?_))⟩
  case round =>
    obtain ⟨k, hk, rfl, L, hL, hLk, hown, hb⟩ := hrel
    have hL' := hide hL
    have hown' := hide hown
    have hb' := hide hb
    have hbs := hb.size
    clear hL hown hb
    by_cases hlt : k < s.size
    · by_cases h2 : k + 1 < s.size
      · have hd : decide ((k : Int) + 1 < (s.size : Int)) = true := by simp; omega
        have hbb := byte_bd s (k + 1) h2
        have h2i : (k : Int) + 1 < (s.size : Int) := by omega
        cases hj : joinB ((s[k].toNat : Nat) : Int) ((s[k + 1].toNat : Nat) : Int) with
        | true =>
          go_wp2_with fail
          refine (hww.out _).mono ?_
          rintro e w' ⟨rfl, rfl⟩
          rw [hv]
          go_wp2
          have w0 : IntKind.i64.wrap ((k : Int) + 1) = (k : Int) + 1 := IntWalk.i64_in _ (by omega)
          have w1 : ((k : Int) + 1).toNat = k + 1 := by omega
          have w2 : (0 : Int) ≤ (k : Int) + 1 := by omega
          
          go_quiet ((go_at_call 14; exact Calls.quiet_of_same (quiet_eq (specJoins _ _ _))))
          clear w0 hbb
          go_wp2_with (at_builtin; refine wpList_append_lies _ rfl _ _ 33 rfl w.heap.size 9 i0 (.string ByteArray.empty) 1 16 Try.underlying33 hi hz0 hz1 hz2 rfl (by decide) _ _ _ rfl ((own_below hown'.out (below_drewN (Below.refl _ _) _)).alloc _) ⟨wr.heap.size, 0, none⟩ 1 1 [.string (s.extract k (k + 2))] rfl rfl (fun j u hj => cell_one_at (by simp) hj) (one_str _) (by omega) (by unfold maxLen; omega) (by omega) (by simp; omega) _ rfl ?_)
          intro g3 cap3 w3 hown3 hg3 hat3 hlt3
          have hfin := hide (sg_rel (k' := k + 2) hL'.out (sg_two hlt (by unfold jn; rw [bl_getD s k hlt, bl_getD s (k + 1) h2]; simp [h2, hj])) (by omega) hown'.out ((below_drewN hb'.out _).alloc (by simpa using hbs) _) hown3 hg3)
          clear hown3 hg3 hat3 hlt3 hj
          go_wp2
          go_roundw
          case rel => exact ⟨k + 2, by omega, by go_num, hfin.out⟩
          case measure => simp [intOf]; omega
        | false =>
          go_wp2_with fail
          refine (hww.out _).mono ?_
          rintro e w' ⟨rfl, rfl⟩
          rw [hv]
          go_wp2
          have w0 : IntKind.i64.wrap ((k : Int) + 1) = (k : Int) + 1 := IntWalk.i64_in _ (by omega)
          have w1 : ((k : Int) + 1).toNat = k + 1 := by omega
          have w2 : (0 : Int) ≤ (k : Int) + 1 := by omega
          
          go_quiet ((go_at_call 14; exact Calls.quiet_of_same (quiet_eq (specJoins _ _ _))))
          clear w0 hbb
          go_wp2_with (at_builtin; refine wpList_append_lies _ rfl _ _ 33 rfl w.heap.size 9 i0 (.string ByteArray.empty) 1 16 Try.underlying33 hi hz0 hz1 hz2 rfl (by decide) _ _ _ rfl ((own_below hown'.out (below_drewN (Below.refl _ _) _)).alloc _) ⟨wr.heap.size, 0, none⟩ 1 1 [.string (s.extract k (k + 1))] rfl rfl (fun j u hj => cell_one_at (by simp) hj) (one_str _) (by omega) (by unfold maxLen; omega) (by omega) (by simp; omega) _ rfl ?_)
          intro g3 cap3 w3 hown3 hg3 hat3 hlt3
          have hfin := hide (sg_rel (k' := k + 1) hL'.out (sg_one hlt (by unfold jn; rw [bl_getD s k hlt, bl_getD s (k + 1) h2]; simp [h2, hj])) (by omega) hown'.out ((below_drewN hb'.out _).alloc (by simpa using hbs) _) hown3 hg3)
          clear hown3 hg3 hat3 hlt3 hj
          go_wp2
          go_roundw
          case rel => exact ⟨k + 1, by omega, by go_num, hfin.out⟩
          case measure => simp [intOf]; omega
      · have hd : decide ((k : Int) + 1 < (s.size : Int)) = false := by simp; omega
        go_wp2_with fail
        refine (hww.out _).mono ?_
        rintro e w' ⟨rfl, rfl⟩
        rw [hv]
        go_wp2
        have w0 : IntKind.i64.wrap ((k : Int) + 1) = (k : Int) + 1 := IntWalk.i64_in _ (by omega)
        have w1 : ((k : Int) + 1).toNat = k + 1 := by omega
        have w2 : (0 : Int) ≤ (k : Int) + 1 := by omega
        
        go_quiet (fail)
        clear w0
        go_wp2_with (at_builtin; refine wpList_append_lies _ rfl _ _ 33 rfl w.heap.size 9 i0 (.string ByteArray.empty) 1 16 Try.underlying33 hi hz0 hz1 hz2 rfl (by decide) _ _ _ rfl ((own_below hown'.out (below_drewN (Below.refl _ _) _)).alloc _) ⟨wr.heap.size, 0, none⟩ 1 1 [.string (s.extract k (k + 1))] rfl rfl (fun j u hj => cell_one_at (by simp) hj) (one_str _) (by omega) (by unfold maxLen; omega) (by omega) (by simp; omega) _ rfl ?_)
        intro g3 cap3 w3 hown3 hg3 hat3 hlt3
        have hfin := hide (sg_rel (k' := k + 1) hL'.out (sg_one hlt (by unfold jn; simp [h2])) (by omega) hown'.out ((below_drewN hb'.out _).alloc (by simpa using hbs) _) hown3 hg3)
        clear hown3 hg3 hat3 hlt3
        go_wp2
        go_roundw
        case rel => exact ⟨k + 1, by omega, by go_num, hfin.out⟩
        case measure => simp [intOf]; omega
    · have e := hide (sg_end hlt)
      go_wp2
      unfold RowS
      go_ret
      have := hL'.out
      rw [e.out, List.append_nil] at this
      rw [← this]
      exact ⟨_, rfl, hown'.out, hb'.out⟩
theorem specSigns (s : ByteArray) (w : World) (hs : s.size ≤ maxLen) :
    Calls Try.prog 28 #[.string s] w (RowS (signsL s) w) := by
  cases h : wordB s with
  | true =>
    have h20 := (wordB_true h).2
    have := specSigns1 s w (by omega) h
    unfold signsL
    rw [if_pos h]
    exact this
  | false =>
    unfold signsL
    rw [if_neg (by rw [h]; exact Bool.false_ne_true)]
    have hww := hide (fun W => specWord s W hs)
    unfold maxLen at hs
    have hk0 := hide (own_empty1 (Blk.new w 9 #[]) (Nat.le_refl _))
    by_cases h0 : 0 < s.size
    · go_enter Try.func28, Try.ntmps28
      go_wp2
      refine wp_loop_rounds 1 ?_
      rw [rounds_succ]
      go_wp2_with fail
      refine (hww.out _).mono ?_
      rintro e w' ⟨rfl, rfl⟩
      rw [h]
      go_wp2
      unfold RowS
      go_ret
      exact ⟨_, rfl, hk0.out, by (repeat (first | exact Below.refl _ _ | assumption | refine Below.alloc ?_ (by first | assumption | omega | (simp; done) | (simp; omega)) _ | refine Below.setCell ?_ (by first | assumption | omega | (simp; done) | (simp; omega)) _ | refine below_drewN ?_ _ | refine Below.drew ?_))⟩
    · have hd : decide ((0 : Int) < (s.size : Int)) = false := decide_eq_false (by omega)
      go_enter Try.func28, Try.ntmps28
      go_wp2
      refine wp_loop_rounds 1 ?_
      rw [rounds_succ]
      go_wp2
      unfold RowS
      go_ret
      exact ⟨_, rfl, hk0.out, by (repeat (first | exact Below.refl _ _ | assumption | refine Below.alloc ?_ (by first | assumption | omega | (simp; done) | (simp; omega)) _ | refine Below.setCell ?_ (by first | assumption | omega | (simp; done) | (simp; omega)) _ | refine below_drewN ?_ _ | refine Below.drew ?_))⟩
end Go.Proofs.Ytfhhfibjjpiccaa
