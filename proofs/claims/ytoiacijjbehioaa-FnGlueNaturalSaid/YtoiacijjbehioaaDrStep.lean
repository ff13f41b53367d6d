/- More operations of a draw's region: sums, differences, the smaller and the greater of two, the length of a row that stands, and its places. No condition but those stated. -/
import Derived.Test.YtoiacijjbehioaaDraw
namespace Go.Proofs.Ytoiacijjbehioaa
open Go.RowKit
set_option linter.unusedVariables false
set_option linter.unusedSimpArgs false
set_option maxRecDepth 100000

/-- A row of numbers that lies behind block m, whatever its room. -/
def TPl (m n : Nat) (lo hi : Int) (v : Value) (w : World) : Prop := ∃ b c zs, v = .slice (some ⟨b, 0, none⟩) n c ∧ m < b ∧ b < w.heap.size ∧ List.length zs = n ∧ (∀ (j : Nat) (z : Int), zs[j]? = some z → w.cell? ⟨b, j, none⟩ = some (.int .i64 z)) ∧ ∀ z ∈ zs, lo ≤ z ∧ z ≤ hi
theorem keeps_pl {g b m n : Nat} {lo hi : Int} (h1 : g ≤ m) (h2 : b ≤ m) : Keeps g b (TPl m n lo hi) := fun _ _ _ ⟨c, d, zs, e, hb, k1, k2, k3, k4⟩ hg =>
  ⟨c, d, zs, e, hb, Nat.lt_of_lt_of_le k1 hg.1, k2, fun j z hz => (World.cell?_of_block (hg.2 c k1 (by omega) (by omega))).trans (k3 j z hz), k4⟩
section
variable {ops : List Oper} {A : Array Value} {T : Nat → Value → World → Prop} {g b m p0 N : Nat} {X : World → Prop} {w1 : World} {i : Nat} {o : Oper}
theorem step_movePl (t : Tmp) (n : Nat) (lo hi : Int) (ho : o.op = .move (.tmp t)) (hi2 : T i = TPl m n lo hi) (ht : (dstsOf' ops).contains t = false) (hA : ∀ w, X w → TPl m n lo hi (A.getD t undef) w) : Step ops A T g b X p0 N w1 i o := by
  intro k a w hk hB hkeep hdep
  rw [op_move (.tmp t) ho]
  refine .value ?_ ⟨two_refl _, hB.more⟩
  rw [hi2]
  have e : a.eval (.tmp t) = A.getD t undef := hkeep t ht
  rw [e]
  exact hA w hB.2.2
theorem step_moveR (t : Tmp) (lo hi : Int) (ho : o.op = .move (.tmp t)) (hi2 : T i = TInt lo hi) (ht : (dstsOf' ops).contains t = false) (hA : ∃ x, A.getD t undef = .int .i64 x ∧ lo ≤ x ∧ x ≤ hi) : Step ops A T g b X p0 N w1 i o := by
  obtain ⟨x, hx, h1, h2⟩ := hA
  exact step_moveI t x lo hi ho hi2 ht hx ⟨h1, h2⟩
theorem step_indexPl (s t : Tmp) (n : Nat) (lo hi u : Int) (ho : o.op = .indexAddr 41 (.tmp s) (.tmp t)) (hd : depB ops o s = true) (hj : T (depJ ops o s) = TPl m n lo hi) (hd2 : depB ops o t = true) (hj2 : T (depJ ops o t) = TInt 0 u) (hm : u < (n : Int))
    (hi2 : T i = TAt m lo hi) : Step ops A T g b X p0 N w1 i o := by
  intro k a w hk hB hkeep hdep
  have h1 := dep_get hd hdep
  have h2 := dep_get hd2 hdep
  rw [hj] at h1
  rw [hj2] at h2
  obtain ⟨bb, c, zs, hx, hb, hlt, hzs, hc, hz⟩ := h1
  obtain ⟨y, hy, y0, y1⟩ := h2
  obtain ⟨y, rfl⟩ := Int.eq_ofNat_of_zero_le y0
  rw [op_index _ _ _ ho]
  have e1 : a.eval (.tmp s) = .slice (some ⟨bb, 0, none⟩) n c := hx
  have e2 : a.eval (.tmp t) = .int .i64 y := hy
  have hyn : (y : Int) < (n : Int) := by omega
  rw [e1, e2]
  simp [go_sem, hyn]
  have hyz : y < List.length zs := by omega
  refine .value ?_ ⟨two_refl _, hB.more⟩
  rw [hi2]
  refine ⟨bb, y, zs[y], ?_, hb, hlt, hc y _ (List.getElem?_eq_getElem hyz), hz _ (List.getElem_mem _)⟩
  simp
theorem step_addC (t : Tmp) (c lo hi : Int) (ho : o.op = .binOp .add 3 (.tmp t) (.const (.int .i64 c)) 3) (hd : depB ops o t = true) (hj : T (depJ ops o t) = TInt lo hi) (hi2 : T i = TInt (lo + c) (hi + c))
    (h63 : -9223372036854775808 ≤ lo + c ∧ hi + c ≤ 9223372036854775807) : Step ops A T g b X p0 N w1 i o := by
  intro k a w hk hB hkeep hdep
  have h1 := dep_get hd hdep
  rw [hj] at h1
  obtain ⟨x, hx, x0, x1⟩ := h1
  have w0 : IntKind.i64.wrap (x + c) = x + c := IntWalk.i64_in _ (by omega)
  rw [op_bin _ _ _ _ _ ho]
  have e1 : a.eval (.tmp t) = .int .i64 x := hx
  have e2 : a.eval (.const (.int .i64 c)) = .int .i64 c := rfl
  rw [e1, e2]
  simp [go_sem]
  refine .value ?_ ⟨two_refl _, hB.more⟩
  rw [hi2]
  exact ⟨x + c, by rw [w0], by omega, by omega⟩
theorem step_subC (t : Tmp) (c lo hi : Int) (ho : o.op = .binOp .sub 3 (.tmp t) (.const (.int .i64 c)) 3) (hd : depB ops o t = true) (hj : T (depJ ops o t) = TInt lo hi) (hi2 : T i = TInt (lo - c) (hi - c))
    (h63 : -9223372036854775808 ≤ lo - c ∧ hi - c ≤ 9223372036854775807) : Step ops A T g b X p0 N w1 i o := by
  intro k a w hk hB hkeep hdep
  have h1 := dep_get hd hdep
  rw [hj] at h1
  obtain ⟨x, hx, x0, x1⟩ := h1
  have w0 : IntKind.i64.wrap (x - c) = x - c := IntWalk.i64_in _ (by omega)
  rw [op_bin _ _ _ _ _ ho]
  have e1 : a.eval (.tmp t) = .int .i64 x := hx
  have e2 : a.eval (.const (.int .i64 c)) = .int .i64 c := rfl
  rw [e1, e2]
  simp [go_sem]
  refine .value ?_ ⟨two_refl _, hB.more⟩
  rw [hi2]
  exact ⟨x - c, by rw [w0], by omega, by omega⟩
theorem step_add (s t : Tmp) (lo hi lo' hi' : Int) (ho : o.op = .binOp .add 3 (.tmp s) (.tmp t) 3) (hd : depB ops o s = true) (hj : T (depJ ops o s) = TInt lo hi) (hd2 : depB ops o t = true) (hj2 : T (depJ ops o t) = TInt lo' hi') (hi2 : T i = TInt (lo + lo') (hi + hi'))
    (h63 : -9223372036854775808 ≤ lo + lo' ∧ hi + hi' ≤ 9223372036854775807) : Step ops A T g b X p0 N w1 i o := by
  intro k a w hk hB hkeep hdep
  have h1 := dep_get hd hdep
  have h2 := dep_get hd2 hdep
  rw [hj] at h1
  rw [hj2] at h2
  obtain ⟨x, hx, x0, x1⟩ := h1
  obtain ⟨y, hy, y0, y1⟩ := h2
  have w0 : IntKind.i64.wrap (x + y) = x + y := IntWalk.i64_in _ (by omega)
  rw [op_bin _ _ _ _ _ ho]
  have e1 : a.eval (.tmp s) = .int .i64 x := hx
  have e2 : a.eval (.tmp t) = .int .i64 y := hy
  rw [e1, e2]
  simp [go_sem]
  refine .value ?_ ⟨two_refl _, hB.more⟩
  rw [hi2]
  exact ⟨x + y, by rw [w0], by omega, by omega⟩
theorem step_sub (s t : Tmp) (lo hi lo' hi' : Int) (ho : o.op = .binOp .sub 3 (.tmp s) (.tmp t) 3) (hd : depB ops o s = true) (hj : T (depJ ops o s) = TInt lo hi) (hd2 : depB ops o t = true) (hj2 : T (depJ ops o t) = TInt lo' hi') (hi2 : T i = TInt (lo - hi') (hi - lo'))
    (h63 : -9223372036854775808 ≤ lo - hi' ∧ hi - lo' ≤ 9223372036854775807) : Step ops A T g b X p0 N w1 i o := by
  intro k a w hk hB hkeep hdep
  have h1 := dep_get hd hdep
  have h2 := dep_get hd2 hdep
  rw [hj] at h1
  rw [hj2] at h2
  obtain ⟨x, hx, x0, x1⟩ := h1
  obtain ⟨y, hy, y0, y1⟩ := h2
  have w0 : IntKind.i64.wrap (x - y) = x - y := IntWalk.i64_in _ (by omega)
  rw [op_bin _ _ _ _ _ ho]
  have e1 : a.eval (.tmp s) = .int .i64 x := hx
  have e2 : a.eval (.tmp t) = .int .i64 y := hy
  rw [e1, e2]
  simp [go_sem]
  refine .value ?_ ⟨two_refl _, hB.more⟩
  rw [hi2]
  exact ⟨x - y, by rw [w0], by omega, by omega⟩
theorem step_len (t : Tmp) (n : Nat) (lo hi : Int) (ats : Array TypeId) (ho : o.op = .call { callee := .builtin .len, args := #[.tmp t], argTypes := ats }) (hd : depB ops o t = true) (hj : T (depJ ops o t) = TPl m n lo hi) (hi2 : T i = TInt (n : Int) (n : Int)) (hat : (Try.prog).underlying 41 = some (.slice 3)) (hats : ats = #[41]) : Step ops A T g b X p0 N w1 i o := by
  subst hats
  intro k a w hk hB hkeep hdep
  have h1 := dep_get hd hdep
  rw [hj] at h1
  obtain ⟨bb, c, zs, hx, hb, hlt, hzs, hc, hz⟩ := h1
  have e1 : a.tmps[t]?.getD undef = .slice (some ⟨bb, 0, none⟩) n c := by rw [← Array.getD_eq_getD_getElem?]; exact hx
  unfold execOp
  simp [ho, resolve, invoke, builtin, go_sem, e1, hat]
  refine .value ?_ ⟨two_refl _, hB.more⟩
  rw [hi2]
  exact ⟨n, rfl, by omega, by omega⟩
theorem step_min (s t : Tmp) (lo hi lo' hi' lo2 hi2' : Int) (ats : Array TypeId) (ho : o.op = .call { callee := .builtin .min, args := #[.tmp s, .tmp t], argTypes := ats }) (hd : depB ops o s = true) (hj : T (depJ ops o s) = TInt lo hi) (hd2 : depB ops o t = true) (hj2 : T (depJ ops o t) = TInt lo' hi') (hi2 : T i = TInt lo2 hi2')
    (hb1 : lo2 ≤ lo ∧ lo2 ≤ lo') (hb2 : hi ≤ hi2' ∨ hi' ≤ hi2') : Step ops A T g b X p0 N w1 i o := by
  intro k a w hk hB hkeep hdep
  have h1 := dep_get hd hdep
  have h2 := dep_get hd2 hdep
  rw [hj] at h1
  rw [hj2] at h2
  obtain ⟨x, hx, x0, x1⟩ := h1
  obtain ⟨y, hy, y0, y1⟩ := h2
  have e1 : a.tmps[s]?.getD undef = .int .i64 x := by rw [← Array.getD_eq_getD_getElem?]; exact hx
  have e2 : a.tmps[t]?.getD undef = .int .i64 y := by rw [← Array.getD_eq_getD_getElem?]; exact hy
  unfold execOp
  simp [ho, resolve, invoke, builtin, go_sem, e1, e2]
  refine .value ?_ ⟨two_refl _, hB.more⟩
  rw [hi2]
  refine ⟨_, rfl, ?_, ?_⟩ <;> omega
theorem step_maxC (t : Tmp) (c lo hi lo2 hi2' : Int) (ats : Array TypeId) (ho : o.op = .call { callee := .builtin .max, args := #[.const (.int .i64 c), .tmp t], argTypes := ats }) (hd : depB ops o t = true) (hj : T (depJ ops o t) = TInt lo hi) (hi2 : T i = TInt lo2 hi2')
    (hb1 : lo2 ≤ c ∨ lo2 ≤ lo) (hb2 : c ≤ hi2' ∧ hi ≤ hi2') : Step ops A T g b X p0 N w1 i o := by
  intro k a w hk hB hkeep hdep
  have h1 := dep_get hd hdep
  rw [hj] at h1
  obtain ⟨y, hy, y0, y1⟩ := h1
  have e2 : a.tmps[t]?.getD undef = .int .i64 y := by rw [← Array.getD_eq_getD_getElem?]; exact hy
  unfold execOp
  simp [ho, resolve, invoke, builtin, go_sem, e2]
  refine .value ?_ ⟨two_refl _, hB.more⟩
  rw [hi2]
  refine ⟨_, rfl, ?_, ?_⟩ <;> omega
/-- A region that draws, each operation with a slot of its own, over a world's predicate. -/
theorem wp_draw3 {id : Nat} {A : Array Value} {ds : List Deferred} {Q : Exit → Act → World → Prop} {ops : List Oper} (Ts : List (Value → World → Prop)) (g b m : Nat) (X : World → Prop) (p0 N : Nat) (w : World)
    (hok : backB ops A.size = true) (hdst : ops.all (fun o => o.dst.isSome) = true) (hr : RdS w g p0) (hN : N ≤ w.heap.size) (hk : KeepAll g b Ts)
    (h0 : X w) (hX : ∀ w w', X w → w.grownBy w' (some g) → X w') (hm : ∀ w, X w → g < w.heap.size → m < w.heap.size)
    (hsteps : N ≤ w.heap.size → Steps ops A (fun i => Ts.getD i fun _ _ => True) g b X p0 N w ops 0)
    (hend : ∀ (vs : Nat → Value) (w' : World) (q : Nat), q ≤ p0 + ops.length → RdS w' g q → Below N w w' → X w' → (∀ i o, ops[i]? = some o → (Ts.getD i fun _ _ => True) (vs i) w') → Q .normal ⟨endTmps ops 0 vs A, ds⟩ w') :
    (Code.region id ops.toArray true).wp Try.prog Q ⟨A, ds⟩ w := by
  refine wp_region_inv (fun i => Ts.getD i fun _ _ => True) (TB g X p0 N w) (TR g b) (by kernel_rfl) hok (fun i v w w' h1 h2 => keep_get Ts hk i v w w' h1 h2) (fun i o ho hd => ?_) ⟨⟨p0, by omega, hr⟩, (Below.refl _ _).drew, hX _ _ h0 (only_drew (only_refl _ _))⟩ (fun i o ho => by simpa using steps_get ops 0 (hsteps hN) i o ho) (fun vs w' k hk hB hT => ?_)
  · have := List.all_eq_true.1 hdst o (List.mem_of_getElem? ho)
    rw [hd] at this
    cases this
  · obtain ⟨⟨q, hq, hr'⟩, hb, hx⟩ := hB
    exact hend vs w' q (by omega) hr' hb hx hT
end
end Go.Proofs.Ytoiacijjbehioaa
