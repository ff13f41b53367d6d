/- What the draw of glues and a width gives. Condition: the code's bytes can be read. -/
import Derived.Test.YtoiacijjbehioaaDrGl2
import Derived.Test.YtoiacijjbehioaaDrStep
import Derived.Test.YtoiacijjbehioaaGlMath
namespace Go.Proofs.Ytoiacijjbehioaa
open Go.RowKit
set_option linter.unusedVariables false
set_option linter.unusedSimpArgs false
set_option maxRecDepth 100000

theorem op_field {a : Act} {o : Oper} (ty : TypeId) (x : Operand) (f : Nat) (h : o.op = .fieldAddr ty x f) : execOp a.eval o = (do pure (.value (← Instr.fieldAt ty (a.eval x) f))) := by
  obtain ⟨d, op, ty, pos, af, gu⟩ := o
  simp only at h
  subst h
  rfl
def TEq (u : Value) (v : Value) (w : World) : Prop := v = u
theorem keeps_eq {g b : Nat} {u : Value} : Keeps g b (TEq u) := fun _ _ _ h _ => h
section
variable {ops : List Oper} {A : Array Value} {T : Nat → Value → World → Prop} {g b m p0 N : Nat} {X : World → Prop} {w1 : World} {i : Nat} {o : Oper}
theorem step_moveEq {u : Value} (t : Tmp) (ho : o.op = .move (.tmp t)) (hi2 : T i = TEq u) (ht : (dstsOf' ops).contains t = false) (hA : A.getD t undef = u) : Step ops A T g b X p0 N w1 i o := by
  intro k a w hk hB hkeep hdep
  rw [op_move (.tmp t) ho]
  refine .value ?_ ⟨two_refl _, hB.more⟩
  rw [hi2]
  exact (hkeep t ht).trans hA
theorem step_field0 (t : Tmp) (tg : Nat) (x lo hi : Int) (ho : o.op = .fieldAddr 26 (.tmp t) 0) (hi2 : T i = TAt m lo hi) (ht : (dstsOf' ops).contains t = false) (hA : A.getD t undef = .pointer (some ⟨tg, 0, none⟩)) (htg : m < tg)
    (hc : ∀ W, X W → tg < W.heap.size ∧ W.cell? ⟨tg, 0, none⟩ = some (.int .i64 x) ∧ lo ≤ x ∧ x ≤ hi) : Step ops A T g b X p0 N w1 i o := by
  intro k a w hk hB hkeep hdep
  obtain ⟨h1, h2, h3, h4⟩ := hc w hB.2.2
  rw [op_field _ _ _ ho]
  have e : a.eval (.tmp t) = .pointer (some ⟨tg, 0, none⟩) := (hkeep t ht).trans hA
  rw [e]
  simp [go_sem, Try.underlying26]
  refine .value ?_ ⟨two_refl _, hB.more⟩
  rw [hi2]
  exact ⟨tg, 0, x, rfl, htg, h1, h2, h3, h4⟩
theorem step_field2 (t : Tmp) (tg : Nat) (x lo hi : Int) (ho : o.op = .fieldAddr 26 (.tmp t) 2) (hi2 : T i = TAt m lo hi) (ht : (dstsOf' ops).contains t = false) (hA : A.getD t undef = .pointer (some ⟨tg, 0, none⟩)) (htg : m < tg)
    (hc : ∀ W, X W → tg < W.heap.size ∧ W.cell? ⟨tg, 2, none⟩ = some (.int .i64 x) ∧ lo ≤ x ∧ x ≤ hi) : Step ops A T g b X p0 N w1 i o := by
  intro k a w hk hB hkeep hdep
  obtain ⟨h1, h2, h3, h4⟩ := hc w hB.2.2
  rw [op_field _ _ _ ho]
  have e : a.eval (.tmp t) = .pointer (some ⟨tg, 0, none⟩) := (hkeep t ht).trans hA
  rw [e]
  simp [go_sem, Try.underlying26]
  refine .value ?_ ⟨two_refl _, hB.more⟩
  rw [hi2]
  exact ⟨tg, 2, x, rfl, htg, h1, h2, h3, h4⟩
end
theorem GT_bd (L : List G) : (0 ≤ (GT L).w ∧ (GT L).w ≤ 60000) ∧ (0 ≤ (GT L).sh ∧ (GT L).sh ≤ 60000) := by
  cases h : glues60 L with
  | false => rw [GT_no h]; simp
  | true =>
    rw [GT_yes h]
    obtain ⟨h1, h2⟩ := glues60_ok h
    obtain ⟨b1, _, b2, _⟩ := totG_bd h1
    omega
def SetD (w : World) (e : Ending) (w' : World) : Prop := ∃ (L : List G) (v : Value) (n : Nat) (u : Int), e = .returned (.tuple #[v, .int .i64 u]) ∧ n ≤ 61 ∧ L.length = n ∧ (-1 ≤ u ∧ u ≤ 70000) ∧ w'.ownsRow w.heap.size 26 4 v n (cellsG L) ∧ Below w.heap.size w w'
set_option maxHeartbeats 2000000 in
theorem drawSG (w : World) (A : Option Addr) (n c : Nat) (l : List Int) (hl : List.length l = n) (hc : n ≤ c) (hn63 : n < 4611686018427387904) (h : Rd w 1 A n (cellsB l)) (h5 : ∀ z ∈ l, 0 ≤ z ∧ z ≤ 255) :
    Calls Try.prog 37 #[.slice A n c] w (SetD w) := by
  go_enter Try.func37, Try.ntmps37
  go_wp2_with (fail)
  refine (l20Open_any w A n c l hl hc hn63 h h5).mono ?_
  rintro e w1 ⟨rfl, hr, hb⟩
  have hz1 := hb.size
  have hg0 : w.heap.size < w1.heap.size := hr.lt
  clear h h5 hl
  go_wp2_with (fail)
  refine (l20Glues_any w.heap.size 0 12 w1 hr (by omega) (by omega)).mono ?_
  rintro e w3 ⟨L, v, k, q, rfl, hk, hL, hLb, hown, hq, hr3, hg3⟩
  obtain ⟨A1, c1, rfl, _, hrd⟩ := own_form hown
  have hne := hide (fun kk hkk => hown.lt kk hkk)
  have hL' := hide hL
  have hown' := hide hown
  have hg3s := hg3.size
  have hb3 := hide (Below.only hb hg3 hz1 (Nat.le_refl _))
  have hr3' := hide hr3
  clear hr hLb hown hr3
  go_wp2_with (fail)
  refine (specGT A1 k c1 L w3 (by unfold maxLen; omega) hL'.out hrd).mono ?_
  rintro e w4 ⟨rfl, hb4⟩
  have hown4 := hide (own_below hown'.out hb4)
  have hs4 := hb4.size
  have hk2 := hide (Blk.new w4 26 #[.int .i64 (GT L).w, .int .i64 (GT L).st, .int .i64 (GT L).sh, .int .i64 (GT L).o])
  have hr4 := hide ((hr3'.out.below hb4).alloc (.cells #[.int .i64 (GT L).w, .int .i64 (GT L).st, .int .i64 (GT L).sh, .int .i64 (GT L).o] 26))
  have hb4' := hide ((hb3.out.trans (hb4.mono hb3.out.size)).alloc (Nat.le_trans hb3.out.size hs4) (.cells #[.int .i64 (GT L).w, .int .i64 (GT L).st, .int .i64 (GT L).sh, .int .i64 (GT L).o] 26))
  have hown5 := hide (hown4.out.alloc (.cells #[.int .i64 (GT L).w, .int .i64 (GT L).st, .int .i64 (GT L).sh, .int .i64 (GT L).o] 26))
  clear hb4 hrd hown4 hb3 hr3' hown'
  go_wp2_with (fail)
  obtain ⟨tg, htg⟩ : ∃ tg, tg = w4.heap.size := ⟨_, rfl⟩
  rw [← htg] at hk2 ⊢
  have hgt : w.heap.size < tg := by omega
  generalize w4.alloc (.cells #[.int .i64 (GT L).w, .int .i64 (GT L).st, .int .i64 (GT L).sh, .int .i64 (GT L).o] 26) = wb at hk2 hr4 hb4' hown5 ⊢
  have hkl := hk2.out.lt
  clear htg hs4 hg3
  obtain ⟨bw, bs⟩ := GT_bd L
  have hcw : ∀ W, wb.grownBy W (some w.heap.size) → tg < W.heap.size ∧ W.cell? ⟨tg, 0, none⟩ = some (.int .i64 (GT L).w) ∧ 0 ≤ (GT L).w ∧ (GT L).w ≤ 60000 := fun W hW =>
    have hkW := hk2.out.grown hW (fun e => by injection e with e; omega)
    ⟨hkW.lt, by rw [hkW.cell]; rfl, bw⟩
  have hcs : ∀ W, wb.grownBy W (some w.heap.size) → tg < W.heap.size ∧ W.cell? ⟨tg, 2, none⟩ = some (.int .i64 (GT L).sh) ∧ 0 ≤ (GT L).sh ∧ (GT L).sh ≤ 60000 := fun W hW =>
    have hkW := hk2.out.grown hW (fun e => by injection e with e; omega)
    ⟨hkW.lt, by rw [hkW.cell]; rfl, bs⟩
  have hX : ∀ W W', wb.grownBy W (some w.heap.size) → W.grownBy W' (some w.heap.size) → wb.grownBy W' (some w.heap.size) := fun W W' h1 h2 => only_trans h1 h2
  have hm : ∀ W : World, wb.grownBy W (some w.heap.size) → w.heap.size < W.heap.size → w.heap.size < W.heap.size := fun W _ h => h
  refine wp_draw3 [TEq (.slice A1 k c1), TAt w.heap.size 0 60000, TInt 0 60000, TPtr w.heap.size, TInt 0 (60 - 1), TInt (0 + 0) (60000 + (60 - 1)), TInt (0 + 0 - 20) (60000 + (60 - 1) - 20), TInt 0 70000, TAt w.heap.size 0 60000, TInt 0 60000, TAt w.heap.size 0 60000, TInt 0 60000, TInt (0 - 60000) (60000 - 0), TInt 0 70000, TPtr w.heap.size, TInt 0 (256 - 1), TRow w.heap.size 6 (-1) 70000, TRow w.heap.size 9 0 5, TPtr w.heap.size, TInt 0 (9 - 1), TAt w.heap.size 0 5, TInt 0 5, TAt w.heap.size (-1) 70000, TInt (-1) 70000, TEq (.slice A1 k c1), TInt (-1) 70000] w.heap.size w.heap.size w.heap.size (fun W => wb.grownBy W (some w.heap.size)) q 0 wb (by kernel_rfl) (by kernel_rfl) hr4.out (Nat.zero_le _) ?_ (only_refl _ _) hX hm (fun hN1 => ?_) ?_
  · (repeat (first | exact trivial | refine ⟨keeps_eq, ?_⟩ | refine ⟨keeps_int, ?_⟩ | refine ⟨keeps_ptr, ?_⟩ | refine ⟨keeps_at (Nat.le_refl _) (Nat.le_refl _), ?_⟩ | refine ⟨keeps_row (Nat.le_refl _) (Nat.le_refl _), ?_⟩))
  · clear hk2 hr4 hb4' hown5 hne hL' hkl
    refine ⟨step_moveEq _ rfl rfl (by kernel_rfl) rfl, ?_⟩
    refine ⟨step_field0 _ tg _ 0 60000 rfl rfl (by kernel_rfl) rfl hgt hcw, ?_⟩
    refine ⟨step_load _ _ _ rfl (by kernel_rfl) rfl rfl, ?_⟩
    refine ⟨step_move _ rfl rfl (by kernel_rfl) rfl, ?_⟩
    refine ⟨step_pick _ _ _ rfl (by kernel_rfl) rfl rfl (by omega) (by omega) (by omega) (by first | (simp; done) | (simp; omega)) hX, ?_⟩
    refine ⟨step_add _ _ 0 60000 0 (60 - 1) rfl (by kernel_rfl) rfl (by kernel_rfl) rfl rfl (by omega), ?_⟩
    refine ⟨step_subC _ 20 (0 + 0) (60000 + (60 - 1)) rfl (by kernel_rfl) rfl rfl (by omega), ?_⟩
    refine ⟨step_maxC _ 0 (0 + 0 - 20) (60000 + (60 - 1) - 20) 0 70000 _ rfl (by kernel_rfl) rfl rfl (by omega) (by omega), ?_⟩
    refine ⟨step_field0 _ tg _ 0 60000 rfl rfl (by kernel_rfl) rfl hgt hcw, ?_⟩
    refine ⟨step_load _ _ _ rfl (by kernel_rfl) rfl rfl, ?_⟩
    refine ⟨step_field2 _ tg _ 0 60000 rfl rfl (by kernel_rfl) rfl hgt hcs, ?_⟩
    refine ⟨step_load _ _ _ rfl (by kernel_rfl) rfl rfl, ?_⟩
    refine ⟨step_sub _ _ 0 60000 0 60000 rfl (by kernel_rfl) rfl (by kernel_rfl) rfl rfl (by omega), ?_⟩
    refine ⟨step_maxC _ 0 (0 - 60000) (60000 - 0) 0 70000 _ rfl (by kernel_rfl) rfl rfl (by omega) (by omega), ?_⟩
    refine ⟨step_move _ rfl rfl (by kernel_rfl) rfl, ?_⟩
    refine ⟨step_pick _ _ _ rfl (by kernel_rfl) rfl rfl (by omega) (by omega) (by omega) (by first | (simp; done) | (simp; omega)) hX, ?_⟩
    refine ⟨step_list _ _ _ _ rfl rfl rfl rfl (by omega) (by omega) hX hm (by (simp only [List.map_cons, List.map_nil, List.toList_toArray]; repeat (first | exact trivial | refine ⟨.inl ⟨_, rfl, by omega, by omega⟩, ?_⟩ | refine ⟨.inr ⟨_, _, _, rfl, by kernel_rfl, rfl, by omega, by omega⟩, ?_⟩))), ?_⟩
    refine ⟨step_list _ _ _ _ rfl rfl rfl rfl (by omega) (by omega) hX hm (by (simp only [List.map_cons, List.map_nil, List.toList_toArray]; repeat (first | exact trivial | refine ⟨.inl ⟨_, rfl, by omega, by omega⟩, ?_⟩ | refine ⟨.inr ⟨_, _, _, rfl, by kernel_rfl, rfl, by omega, by omega⟩, ?_⟩))), ?_⟩
    refine ⟨step_move _ rfl rfl (by kernel_rfl) rfl, ?_⟩
    refine ⟨step_pick _ _ _ rfl (by kernel_rfl) rfl rfl (by omega) (by omega) (by omega) (by first | (simp; done) | (simp; omega)) hX, ?_⟩
    refine ⟨step_index _ _ 9 0 5 (9 - 1) rfl (by kernel_rfl) rfl (by kernel_rfl) rfl (by omega) rfl, ?_⟩
    refine ⟨step_load _ _ _ rfl (by kernel_rfl) rfl rfl, ?_⟩
    refine ⟨step_index _ _ 6 (-1) 70000 5 rfl (by kernel_rfl) rfl (by kernel_rfl) rfl (by omega) rfl, ?_⟩
    refine ⟨step_load _ _ _ rfl (by kernel_rfl) rfl rfl, ?_⟩
    refine ⟨step_assign _ rfl (by kernel_rfl) rfl, ?_⟩
    refine ⟨step_assign _ rfl (by kernel_rfl) rfl, ?_⟩
    exact trivial
  · intro vs w5 q5 hq5 hr5 hb5 hx5 hT
    have hy := hT 24 _ rfl
    obtain ⟨z, hz, z0, z1⟩ := hT 25 _ rfl
    have hgrow := hide hx5
    clear hT hq5 hr5 hb5 hx5 hcw hcs hX hm bw bs
    simp only [endTmps, Nat.reduceAdd, List.setIfInBounds_toArray, List.set_cons_succ, List.set_cons_zero]
    rw [show vs 24 = Value.slice A1 k c1 from hy, hz]
    have hown6 := hide (own_mono (own_keep hown5.out (fun kk hkk => hgrow.out.block kk ((hown5.out.lt kk hkk).2) (fun e => by have := (hne.out kk hkk).1; injection e with e; omega))) hz1)
    have hb6 := hide (Below.only hb4'.out hgrow.out hb4'.out.size (Nat.le_refl _))
    go_wp2
    unfold SetD
    refine bodyPost_ret (v := .tuple #[.slice A1 k c1, .int .i64 z]) (by simp [results, Try.results37, go_sem]) rfl ⟨L, _, k, z, rfl, hk, hL'.out, ⟨z0, z1⟩, hown6.out, hb6.out⟩
end Go.Proofs.Ytoiacijjbehioaa
