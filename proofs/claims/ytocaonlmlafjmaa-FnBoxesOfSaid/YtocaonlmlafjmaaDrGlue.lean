/- What the draw of a glue gives: a glue of small numbers. Condition: the reader's block is its own. -/
import Derived.Test.YtocaonlmlafjmaaKRead
import Derived.Test.YtocaonlmlafjmaaTotal
namespace Go.Proofs.Ytocaonlmlafjmaa
open Go.RowKit
set_option linter.unusedVariables false
set_option linter.unusedSimpArgs false
def gBnd (x : G) : Prop := (-1 ≤ x.w ∧ x.w ≤ 1001) ∧ (-1 ≤ x.st ∧ x.st ≤ 1001) ∧ (-1 ≤ x.sh ∧ x.sh ≤ 1001) ∧ (-1 ≤ x.o ∧ x.o ≤ 2)
def gVal (x : G) : Value := .agg #[.int .i64 x.w, .int .i64 x.st, .int .i64 x.sh, .int .i64 x.o]
def TGlue (v : Value) (w : World) : Prop := ∃ x : G, v = gVal x ∧ gBnd x
theorem keeps_glue {g b : Nat} : Keeps g b TGlue := fun _ _ _ h _ => h
def XGlueAt (w0 : World) (g b r : Nat) (w : World) : Prop := w0.grownBy w (some g) ∧ Blk w r 27 #[.int .i64 0, .int .i64 0, .int .i64 0, .int .i64 0] ∧ ∃ x : G, Blk w b 27 #[.int .i64 x.w, .int .i64 x.st, .int .i64 x.sh, .int .i64 x.o] ∧ gBnd x
theorem XGlueAt.keep {w0 : World} {g b r : Nat} (hgb : g < b) (hgr : g < r) : ∀ w w', XGlueAt w0 g b r w → w.grownBy w' (some g) → XGlueAt w0 g b r w' := fun w w' ⟨h0, hr, x, h1, h3⟩ h2 => ⟨only_trans h0 h2, hr.grown h2 (fun e => by injection e with e; omega), x, h1.grown h2 (fun e => by injection e with e; omega), h3⟩
theorem XGlueAt.lt {w0 : World} {g b r : Nat} : ∀ w, XGlueAt w0 g b r w → g < w.heap.size → b < w.heap.size := fun w ⟨_, _, x, h1, _⟩ _ => h1.lt
theorem op_bld {a : Act} {o : Oper} (ty : TypeId) (ps : Array (Nat × Operand)) (h : o.op = .build ty ps) : execOp a.eval o = (do pure (.value (← Instr.build ty (ps.map fun (i, x) => (i, a.eval x))))) := by
  obtain ⟨d, op, ty, pos, af, gu⟩ := o
  simp only at h
  subst h
  rfl
theorem op_store {a : Act} {o : Oper} (ty : TypeId) (x y : Operand) (h : o.op = .store ty x y) : execOp a.eval o = (do Instr.storeAt ty (a.eval x) (a.eval y); pure .skip) := by
  obtain ⟨d, op, ty, pos, af, gu⟩ := o
  simp only at h
  subst h
  rfl
section
variable {ops : List Oper} {A : Array Value} {T : Nat → Value → World → Prop} {g b m p0 N : Nat} {X : World → Prop} {w1 : World} {i : Nat} {o : Oper}
theorem step_glue3 (s t u : Tmp) (l1 h1 l2 h2 l3 h3 : Int) (ho : o.op = .build 27 #[(0, .tmp s), (1, .tmp t), (3, .tmp u)]) (hd1 : depB ops o s = true) (hj1 : T (depJ ops o s) = TInt l1 h1) (hd2 : depB ops o t = true) (hj2 : T (depJ ops o t) = TInt l2 h2)
    (hd3 : depB ops o u = true) (hj3 : T (depJ ops o u) = TInt l3 h3) (hb : -1 ≤ l1 ∧ h1 ≤ 1001 ∧ -1 ≤ l2 ∧ h2 ≤ 1001 ∧ -1 ≤ l3 ∧ h3 ≤ 2) (hi2 : T i = TGlue) : Step ops A T g b X p0 N w1 i o := by
  intro k a w hk hB hkeep hdep
  have e1 := dep_get hd1 hdep
  have e2 := dep_get hd2 hdep
  have e3 := dep_get hd3 hdep
  rw [hj1] at e1
  rw [hj2] at e2
  rw [hj3] at e3
  obtain ⟨x, hx, x0, x1⟩ := e1
  obtain ⟨y, hy, y0, y1⟩ := e2
  obtain ⟨z, hz, z0, z1⟩ := e3
  rw [op_bld _ _ ho]
  have f1 : a.eval (.tmp s) = .int .i64 x := hx
  have f2 : a.eval (.tmp t) = .int .i64 y := hy
  have f3 : a.eval (.tmp u) = .int .i64 z := hz
  simp only [List.map_toArray, List.map_cons, List.map_nil, f1, f2, f3]
  have hrun : ∀ w : World, (Instr.build 27 #[(0, .int .i64 x), (1, .int .i64 y), (3, .int .i64 z)]).run Try.prog w = .ok (gVal ⟨x, y, 0, z⟩) w := by
    intro w
    simp [go_sem, gVal]
  simp only [Sem.run_bind, hrun, Result.andThen_ok, Sem.run_pure]
  refine .value ?_ ⟨two_refl _, hB.more⟩
  rw [hi2]
  exact ⟨⟨x, y, 0, z⟩, rfl, ⟨by simp; omega, by simp; omega, by simp, by simp; omega⟩⟩
theorem step_storeG (s t : Tmp) (ho : o.op = .store 27 (.tmp s) (.tmp t)) (ht : (dstsOf' ops).contains s = false) (hA : A.getD s undef = .pointer (some ⟨b, 0, none⟩)) (hd : depB ops o t = true) (hj : T (depJ ops o t) = TGlue) (hi2 : T i = TAny) (hgb : g < b) (hNb : N ≤ b) (w0 : World) (hw0 : w0.heap.size ≤ b) (r : Nat) (hrb : r < b) :
    Step ops A T g b (XGlueAt w0 g b r) p0 N w1 i o := by
  intro k a w hk hB hkeep hdep
  have e2 := dep_get hd hdep
  rw [hj] at e2
  obtain ⟨y, hy, hyb⟩ := e2
  obtain ⟨⟨p, hp1, hr⟩, hb, hw, hrr, x, hx, hxb⟩ := hB
  obtain ⟨k40, k41, k42, k43, f40, f41, f42, f43⟩ := Blk.c4 hx
  rw [op_store _ _ _ ho]
  have f1 : a.eval (.tmp s) = .pointer (some ⟨b, 0, none⟩) := (hkeep s ht).trans hA
  have f2 : a.eval (.tmp t) = gVal y := hy
  rw [f1, f2]
  unfold gVal
  simp [go_sem, k40, k41, k42, k43, f40, f41, f42, f43]
  have hblt : b < w.heap.size := Blk.lt hx
  have hgr : w.grownBy ((((w.setCell ⟨b, 0, none⟩ (.int .i64 y.w)).setCell ⟨b, 1, none⟩ (.int .i64 y.st)).setCell ⟨b, 2, none⟩ (.int .i64 y.sh)).setCell ⟨b, 3, none⟩ (.int .i64 y.o)) (some b) :=
    only_setCell (only_setCell (only_setCell (only_setCell (only_refl w (some b)) (.inl rfl) _) (.inl rfl) _) (.inl rfl) _) (.inl rfl) _
  refine .skip ?_ ⟨⟨hgr.size, fun k hk _ h2 => hgr.block k hk (fun e => h2 (Option.some.inj e))⟩, ⟨p, by omega, (((hr.setCell hgb _).setCell hgb _).setCell hgb _).setCell hgb _⟩, Below.only hb hgr (by omega) hNb, only_setCell (only_setCell (only_setCell (only_setCell hw (.inr hw0) _) (.inr hw0) _) (.inr hw0) _) (.inr hw0) _, hrr.grown hgr (fun e => by injection e with e; omega), y, ?_, hyb⟩
  · rw [hi2]; trivial
  · exact (((Blk.set_ hx 0 (.int .i64 y.w)).set_ 1 (.int .i64 y.st)).set_ 2 (.int .i64 y.sh)).set_ 3 (.int .i64 y.o)
end
def GlueP (g p : Nat) (m : Int) (w : World) (e : Ending) (w' : World) : Prop := ∃ (x : G) (q : Nat), e = .returned (gVal x) ∧ gBnd x ∧ q ≤ p + 30 ∧ RdS w' g q ∧ w.grownBy w' (some g)
set_option maxRecDepth 100000 in
set_option maxHeartbeats 1000000 in
theorem l20Glue_any (g p : Nat) (m : Int) (w : World) (h : RdS w g p) (hp : p ≤ 900000) (hm : 0 ≤ m ∧ m ≤ 1000000) :
    Calls Try.prog 103 #[.pointer (some ⟨g, 0, none⟩), .int .i64 m] w (GlueP g p m w) := by
  go_enter Try.func103, Try.ntmps103
  go_wp2_with (fail)
  have hgl := h.lt
  have hk0 := Blk.new w 27 #[.int .i64 0, .int .i64 0, .int .i64 0, .int .i64 0]
  have ho0 := only_alloc (only_refl w (some g)) (.cells #[.int .i64 0, .int .i64 0, .int .i64 0, .int .i64 0] 27)
  have hs0 := h.alloc (.cells #[.int .i64 0, .int .i64 0, .int .i64 0, .int .i64 0] 27)
  generalize hgbe : w.heap.size = gb at hk0 hgl ⊢
  generalize w.alloc (.cells #[.int .i64 0, .int .i64 0, .int .i64 0, .int .i64 0] 27) = wa at hk0 ho0 hs0 ⊢
  clear h
  go_at_call 80
  refine (pick_any g p 20 _ hs0 (by omega) (by omega)).mono ?_
  rintro e w1 ⟨x, rfl, x0, x1, hs1, hg1⟩
  have hk1 := hk0.grown hg1 (fun e => by injection e with e; omega)
  have ho1 := only_trans ho0 hg1
  clear hk0 ho0 hs0 hg1
  go_wp2_with (fail)
  go_at_call 80
  refine (pick_any g (p + 1) 6 _ hs1 (by omega) (by omega)).mono ?_
  rintro e w2 ⟨y, rfl, y0, y1, hs2, hg2⟩
  have ho2 := only_trans ho1 hg2
  have hr2 := hk1.grown hg2 (fun e => by injection e with e; omega)
  have hgb2 := Blk.lt hr2
  have hgl2 := hs2.lt
  clear hk1 ho1 hs1 hg2
  go_wp2_with (fail)
  have hk3 := Blk.new w2 27 #[.int .i64 x, .int .i64 y, .int .i64 0, .int .i64 0]
  have ho3 := only_alloc ho2 (.cells #[.int .i64 x, .int .i64 y, .int .i64 0, .int .i64 0] 27)
  have hs3 := hs2.alloc (.cells #[.int .i64 x, .int .i64 y, .int .i64 0, .int .i64 0] 27)
  have hz : w.heap.size ≤ w2.heap.size := ho2.size
  have hr3 := Blk.alloc hr2 (.cells #[.int .i64 x, .int .i64 y, .int .i64 0, .int .i64 0] 27)
  generalize w2.heap.size = b at hk3 hgl2 hz hgb2 ⊢
  generalize w2.alloc (.cells #[.int .i64 x, .int .i64 y, .int .i64 0, .int .i64 0] 27) = w3 at hk3 ho3 hs3 hr3 ⊢
  clear hs2 ho2 hr2
  go_at_call 80
  refine (pick_any g (p + 1 + 1) (x + 1) _ hs3 (by omega) (by omega)).mono ?_
  rintro e w4 ⟨z, rfl, z0, z1, hs4, hg4⟩
  have hk4 := hk3.grown hg4 (fun e => by injection e with e; omega)
  have ho4 := only_trans ho3 hg4
  have hr4 := Blk.grown hr3 hg4 (fun e => by injection e with e; omega)
  obtain ⟨k40, k41, k42, k43, f40, f41, f42, f43⟩ := hk4.c4
  clear hk3 ho3 hs3 hg4 hr3
  go_wp2_with (fail)
  have hk5 := hk4.set_ 2 (.int .i64 z)
  have ho5 := only_setCell (p := ⟨b, 2, none⟩) ho4 (.inr hz) (.int .i64 z)
  have hs5 := hs4.setCell (q := b) (i := 2) hgl2 (.int .i64 z)
  have hr5 := Blk.far hr4 (p := ⟨b, 2, none⟩) (by simp; omega) (.int .i64 z)
  generalize w4.setCell ⟨b, 2, none⟩ (.int .i64 z) = w5 at hk5 ho5 hs5 hr5 ⊢
  clear hk4 ho4 hs4 hr4 k40 k41 k42 k43 f40 f41 f42 f43
  go_at_call 80
  refine (pick_any g (p + 1 + 1 + 1) 5 _ hs5 (by omega) (by omega)).mono ?_
  rintro e w6 ⟨t, rfl, t0, t1, hs6, hg6⟩
  have hk6 := hk5.grown hg6 (fun e => by injection e with e; omega)
  have ho6 := only_trans ho5 hg6
  have hr6 := Blk.grown hr5 hg6 (fun e => by injection e with e; omega)
  have hk6' : Blk w6 b 27 #[.int .i64 x, .int .i64 y, .int .i64 z, .int .i64 0] := hk6
  clear hk5 ho5 hs5 hg6 hk6 hr5
  by_cases ht : t = 0
  · subst ht
    go_wp2_with (fail)
    have hgb : g < b := hgl2
    refine wp_draw2 [TRow b 3 0 1000, TPtr g, TInt 0 (3 - 1), TAt b 0 1000, TInt 0 1000, TRow b 3 0 1000, TPtr g, TInt 0 (3 - 1), TAt b 0 1000, TInt 0 1000, TPtr g, TInt 0 (2 - 1), TGlue, TAny]
      g b b (XGlueAt w g b gb) (p + 1 + 1 + 1 + 1) 0 w6 (by kernel_rfl) (by kernel_rfl) rfl hs6 (Nat.zero_le _) ?_ ⟨ho6, hr6, ⟨x, y, z, 0⟩, hk6', ⟨by simp; omega, by simp; omega, by simp; omega, by simp⟩⟩ (XGlueAt.keep hgb hgl) XGlueAt.lt (fun hN1 => ?_) ?_
    · (repeat (first | exact trivial | refine ⟨keeps_glue, ?_⟩ | refine ⟨keeps_int, ?_⟩ | refine ⟨keeps_ptr, ?_⟩ | refine ⟨keeps_row (by omega) (by omega), ?_⟩ | refine ⟨keeps_at (by omega) (by omega), ?_⟩ | refine ⟨keeps_any, ?_⟩ | refine ⟨keeps_bool, ?_⟩))
    · have hX := XGlueAt.keep (w0 := w) hgb hgl
      have hm := XGlueAt.lt (w0 := w) (g := g) (b := b) (r := gb)
      (repeat (first | exact trivial | refine ⟨step_move _ rfl rfl (by kernel_rfl) rfl, ?_⟩ | refine ⟨step_assign _ rfl (by kernel_rfl) rfl, ?_⟩ | refine ⟨step_pick _ _ _ rfl (by kernel_rfl) rfl rfl (by omega) (by omega) (by omega) (by first | (simp; done) | (simp; omega)) hX, ?_⟩ | refine ⟨step_eqC _ _ _ _ rfl (by kernel_rfl) rfl rfl, ?_⟩ | refine ⟨step_moveI _ _ _ _ rfl rfl (by kernel_rfl) rfl (by omega), ?_⟩ | refine ⟨step_glue3 _ _ _ _ _ _ _ _ _ rfl (by kernel_rfl) rfl (by kernel_rfl) rfl (by kernel_rfl) rfl (by omega) rfl, ?_⟩ | refine ⟨step_storeG _ _ rfl (by kernel_rfl) rfl (by kernel_rfl) rfl rfl (by omega) (by omega) _ (by omega) _ (by omega), ?_⟩ | refine ⟨step_load _ _ _ rfl (by kernel_rfl) rfl rfl, ?_⟩ | refine ⟨step_index _ _ _ _ _ _ rfl (by kernel_rfl) rfl (by kernel_rfl) rfl (by omega) rfl, ?_⟩ | refine ⟨step_mulC _ _ _ _ _ _ rfl (by kernel_rfl) rfl rfl (by intro x h1 h2; omega) (by omega), ?_⟩ | refine ⟨step_list _ _ _ _ rfl rfl rfl rfl (by omega) (by omega) hX hm (by simp only [List.map_cons, List.map_nil, List.toList_toArray]; repeat (first | exact trivial | refine ⟨.inl ⟨_, rfl, by omega, by omega⟩, ?_⟩ | refine ⟨.inr ⟨_, _, _, rfl, by kernel_rfl, rfl, by omega, by omega⟩, ?_⟩)), ?_⟩))
    · intro vs w7 q hq hr7 hb7 hx7 hT
      clear hT
      have hq' : q ≤ p + 18 := by simp at hq; omega
      have hwgb : w.heap.size ≤ gb := Nat.le_of_eq hgbe
      clear hq
      simp only [endTmps, Nat.reduceAdd, List.setIfInBounds_toArray, List.set_cons_succ, List.set_cons_zero]
      have hX := XGlueAt.keep (w0 := w) hgb hgl
      go_wp2_with (fail)
      go_at_call 102
      refine (odd_any g q m w7 hr7 (by omega) (by omega)).mono ?_
      rintro e w8 ⟨bo, q2, rfl, hbo, hr8, hq1, hq2, hg8⟩
      have hx8 := hX _ _ hx7 hg8
      clear hx7 hg8 hr7 hbo hX
      cases bo
      · obtain ⟨hw8, hrr, y8, hy8, hyb⟩ := hx8
        obtain ⟨k40, k41, k42, k43, f40, f41, f42, f43⟩ := Blk.c4 hy8
        obtain ⟨j40, j41, j42, j43, g40, g41, g42, g43⟩ := Blk.c4 hrr
        have hne : ¬ b = gb := by omega
        have hne2 : ¬ gb = b := by omega
        clear hrr hy8
        go_wp2
        refine bodyPost_ret (v := gVal y8) (by simp [results, Try.results103, go_sem, gVal, j40, j41, j42, j43, g40, g41, g42, g43]) rfl ⟨y8, q2, rfl, hyb, by omega, (((RdS.setCell hr8 hgl _).setCell hgl _).setCell hgl _).setCell hgl _, ?_⟩
        exact only_setCell (only_setCell (only_setCell (only_setCell hw8 (.inr hwgb) _) (.inr hwgb) _) (.inr hwgb) _) (.inr hwgb) _
      · go_wp2_with (fail)
        have hrow := Blk.new w8 27 (cellsG [⟨1001, 0, 0, 0⟩, ⟨-1, 0, 0, 0⟩, ⟨3, 0, 4, 0⟩, ⟨0, -1, 0, 0⟩, ⟨0, 0, 0, 2⟩, ⟨0, 0, 0, -1⟩]).toArray
        have hr9 := hr8.alloc (.cells (cellsG [⟨1001, 0, 0, 0⟩, ⟨-1, 0, 0, 0⟩, ⟨3, 0, 4, 0⟩, ⟨0, -1, 0, 0⟩, ⟨0, 0, 0, 2⟩, ⟨0, 0, 0, -1⟩]).toArray 27)
        have hx9 := XGlueAt.keep (w0 := w) hgb hgl _ _ hx8 (only_alloc (only_refl w8 (some g)) (.cells (cellsG [⟨1001, 0, 0, 0⟩, ⟨-1, 0, 0, 0⟩, ⟨3, 0, 4, 0⟩, ⟨0, -1, 0, 0⟩, ⟨0, 0, 0, 2⟩, ⟨0, 0, 0, -1⟩]).toArray 27))
        have hg9 := hr8.lt
        have hb9 := XGlueAt.lt _ hx8 hg9
        clear hx8 hr8
        show Calls _ _ _ (w8.alloc (.cells (cellsG [⟨1001, 0, 0, 0⟩, ⟨-1, 0, 0, 0⟩, ⟨3, 0, 4, 0⟩, ⟨0, -1, 0, 0⟩, ⟨0, 0, 0, 2⟩, ⟨0, 0, 0, -1⟩]).toArray 27)) _
        generalize w8.alloc (.cells (cellsG [⟨1001, 0, 0, 0⟩, ⟨-1, 0, 0, 0⟩, ⟨3, 0, 4, 0⟩, ⟨0, -1, 0, 0⟩, ⟨0, 0, 0, 2⟩, ⟨0, 0, 0, -1⟩]).toArray 27) = w9 at hrow hr9 hx9 ⊢
        generalize w8.heap.size = d at hrow hg9 hb9 ⊢
        go_at_call 80
        refine (pick_any g q2 6 _ hr9 (by omega) (by omega)).mono ?_
        rintro e w10 ⟨k, rfl, k0, k1, hr10, hg10⟩
        have hrow2 := hrow.grown hg10 (fun e => by injection e with e; omega)
        obtain ⟨hw10, hrr, y8, hy8, hyb8⟩ := XGlueAt.keep (w0 := w) hgb hgl _ _ hx9 hg10
        clear hrow hr9 hx9 hg10
        obtain ⟨k, rfl⟩ := Int.eq_ofNat_of_zero_le k0
        have hk6 : k < 6 := by omega
        obtain ⟨c, hc, hcb⟩ : ∃ c : G, ([⟨1001, 0, 0, 0⟩, ⟨-1, 0, 0, 0⟩, ⟨3, 0, 4, 0⟩, ⟨0, -1, 0, 0⟩, ⟨0, 0, 0, 2⟩, ⟨0, 0, 0, -1⟩] : List G)[k]? = some c ∧ gBnd c := by
          have : k = 0 ∨ k = 1 ∨ k = 2 ∨ k = 3 ∨ k = 4 ∨ k = 5 := by omega
          rcases this with rfl | rfl | rfl | rfl | rfl | rfl <;> exact ⟨_, rfl, by unfold gBnd; decide⟩
        obtain ⟨m40, m41, m42, m43⟩ := hrow2.glueAt hc
        obtain ⟨k40, k41, k42, k43, f40, f41, f42, f43⟩ := Blk.c4 hy8
        obtain ⟨j40, j41, j42, j43, g40, g41, g42, g43⟩ := Blk.c4 hrr
        have hne : ¬ b = gb := by omega
        have hne2 : ¬ gb = b := by omega
        clear hrr hy8 hrow2 hc hyb8
        go_wp2
        refine bodyPost_ret (v := gVal c) (by simp [results, Try.results103, go_sem, gVal, j40, j41, j42, j43, g40, g41, g42, g43, hne, hne2]) rfl ⟨c, q2 + 1, rfl, hcb, by omega, ?_, ?_⟩
        · exact RdS.setCell (RdS.setCell (RdS.setCell (RdS.setCell (RdS.setCell (RdS.setCell (RdS.setCell (RdS.setCell hr10 hgl2 _) hgl2 _) hgl2 _) hgl2 _) hgl _) hgl _) hgl _) hgl _
        · exact only_setCell (only_setCell (only_setCell (only_setCell (only_setCell (only_setCell (only_setCell (only_setCell hw10 (.inr hz) _) (.inr hz) _) (.inr hz) _) (.inr hz) _) (.inr hwgb) _) (.inr hwgb) _) (.inr hwgb) _) (.inr hwgb) _
  · have hx7 : XGlueAt w g b gb w6 := ⟨ho6, hr6, ⟨x, y, z, 0⟩, hk6', ⟨by simp; omega, by simp; omega, by simp; omega, by simp⟩⟩
    have hr7 := hs6
    have hgb : g < b := hgl2
    obtain ⟨q, hq⟩ : ∃ q, q = p + 1 + 1 + 1 + 1 := ⟨_, rfl⟩
    rw [← hq] at hr7
    clear hs6 hk6' ho6 hr6
    have hq' : q ≤ p + 18 := by omega
    have hwgb : w.heap.size ≤ gb := Nat.le_of_eq hgbe
    clear hq
    have hX := XGlueAt.keep (w0 := w) hgb hgl
    go_wp2_with (fail)
    go_at_call 102
    refine (odd_any g q m w6 hr7 (by omega) (by omega)).mono ?_
    rintro e w8 ⟨bo, q2, rfl, hbo, hr8, hq1, hq2, hg8⟩
    have hx8 := hX _ _ hx7 hg8
    clear hx7 hg8 hr7 hbo hX
    cases bo
    · obtain ⟨hw8, hrr, y8, hy8, hyb⟩ := hx8
      obtain ⟨k40, k41, k42, k43, f40, f41, f42, f43⟩ := Blk.c4 hy8
      obtain ⟨j40, j41, j42, j43, g40, g41, g42, g43⟩ := Blk.c4 hrr
      have hne : ¬ b = gb := by omega
      have hne2 : ¬ gb = b := by omega
      clear hrr hy8
      go_wp2
      refine bodyPost_ret (v := gVal y8) (by simp [results, Try.results103, go_sem, gVal, j40, j41, j42, j43, g40, g41, g42, g43]) rfl ⟨y8, q2, rfl, hyb, by omega, (((RdS.setCell hr8 hgl _).setCell hgl _).setCell hgl _).setCell hgl _, ?_⟩
      exact only_setCell (only_setCell (only_setCell (only_setCell hw8 (.inr hwgb) _) (.inr hwgb) _) (.inr hwgb) _) (.inr hwgb) _
    · go_wp2_with (fail)
      have hrow := Blk.new w8 27 (cellsG [⟨1001, 0, 0, 0⟩, ⟨-1, 0, 0, 0⟩, ⟨3, 0, 4, 0⟩, ⟨0, -1, 0, 0⟩, ⟨0, 0, 0, 2⟩, ⟨0, 0, 0, -1⟩]).toArray
      have hr9 := hr8.alloc (.cells (cellsG [⟨1001, 0, 0, 0⟩, ⟨-1, 0, 0, 0⟩, ⟨3, 0, 4, 0⟩, ⟨0, -1, 0, 0⟩, ⟨0, 0, 0, 2⟩, ⟨0, 0, 0, -1⟩]).toArray 27)
      have hx9 := XGlueAt.keep (w0 := w) hgb hgl _ _ hx8 (only_alloc (only_refl w8 (some g)) (.cells (cellsG [⟨1001, 0, 0, 0⟩, ⟨-1, 0, 0, 0⟩, ⟨3, 0, 4, 0⟩, ⟨0, -1, 0, 0⟩, ⟨0, 0, 0, 2⟩, ⟨0, 0, 0, -1⟩]).toArray 27))
      have hg9 := hr8.lt
      have hb9 := XGlueAt.lt _ hx8 hg9
      clear hx8 hr8
      show Calls _ _ _ (w8.alloc (.cells (cellsG [⟨1001, 0, 0, 0⟩, ⟨-1, 0, 0, 0⟩, ⟨3, 0, 4, 0⟩, ⟨0, -1, 0, 0⟩, ⟨0, 0, 0, 2⟩, ⟨0, 0, 0, -1⟩]).toArray 27)) _
      generalize w8.alloc (.cells (cellsG [⟨1001, 0, 0, 0⟩, ⟨-1, 0, 0, 0⟩, ⟨3, 0, 4, 0⟩, ⟨0, -1, 0, 0⟩, ⟨0, 0, 0, 2⟩, ⟨0, 0, 0, -1⟩]).toArray 27) = w9 at hrow hr9 hx9 ⊢
      generalize w8.heap.size = d at hrow hg9 hb9 ⊢
      go_at_call 80
      refine (pick_any g q2 6 _ hr9 (by omega) (by omega)).mono ?_
      rintro e w10 ⟨k, rfl, k0, k1, hr10, hg10⟩
      have hrow2 := hrow.grown hg10 (fun e => by injection e with e; omega)
      obtain ⟨hw10, hrr, y8, hy8, hyb8⟩ := XGlueAt.keep (w0 := w) hgb hgl _ _ hx9 hg10
      clear hrow hr9 hx9 hg10
      obtain ⟨k, rfl⟩ := Int.eq_ofNat_of_zero_le k0
      have hk6 : k < 6 := by omega
      obtain ⟨c, hc, hcb⟩ : ∃ c : G, ([⟨1001, 0, 0, 0⟩, ⟨-1, 0, 0, 0⟩, ⟨3, 0, 4, 0⟩, ⟨0, -1, 0, 0⟩, ⟨0, 0, 0, 2⟩, ⟨0, 0, 0, -1⟩] : List G)[k]? = some c ∧ gBnd c := by
        have : k = 0 ∨ k = 1 ∨ k = 2 ∨ k = 3 ∨ k = 4 ∨ k = 5 := by omega
        rcases this with rfl | rfl | rfl | rfl | rfl | rfl <;> exact ⟨_, rfl, by unfold gBnd; decide⟩
      obtain ⟨m40, m41, m42, m43⟩ := hrow2.glueAt hc
      obtain ⟨k40, k41, k42, k43, f40, f41, f42, f43⟩ := Blk.c4 hy8
      obtain ⟨j40, j41, j42, j43, g40, g41, g42, g43⟩ := Blk.c4 hrr
      have hne : ¬ b = gb := by omega
      have hne2 : ¬ gb = b := by omega
      clear hrr hy8 hrow2 hc hyb8
      go_wp2
      refine bodyPost_ret (v := gVal c) (by simp [results, Try.results103, go_sem, gVal, j40, j41, j42, j43, g40, g41, g42, g43, hne, hne2]) rfl ⟨c, q2 + 1, rfl, hcb, by omega, ?_, ?_⟩
      · exact RdS.setCell (RdS.setCell (RdS.setCell (RdS.setCell (RdS.setCell (RdS.setCell (RdS.setCell (RdS.setCell hr10 hgl2 _) hgl2 _) hgl2 _) hgl2 _) hgl _) hgl _) hgl _) hgl _
      · exact only_setCell (only_setCell (only_setCell (only_setCell (only_setCell (only_setCell (only_setCell (only_setCell hw10 (.inr hz) _) (.inr hz) _) (.inr hz) _) (.inr hz) _) (.inr hwgb) _) (.inr hwgb) _) (.inr hwgb) _) (.inr hwgb) _
end Go.Proofs.Ytocaonlmlafjmaa
