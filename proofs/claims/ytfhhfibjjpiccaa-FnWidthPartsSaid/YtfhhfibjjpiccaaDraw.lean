/- The operations of a draw's region, each by what it needs and what it leaves: numbers in a range, rows of such numbers, places of such rows. No condition but those stated. -/
import Derived.Test.YtfhhfibjjpiccaaRdOpen
import Derived.Test.YtfhhfibjjpiccaaRegion
import Derived.Great.BuildSlice
namespace Go.Proofs.Ytfhhfibjjpiccaa
open Go.RowKit
set_option linter.unusedVariables false
set_option linter.unusedSimpArgs false
set_option maxRecDepth 100000

def TInt (lo hi : Int) (v : Value) (w : World) : Prop := ∃ x, v = .int .i64 x ∧ lo ≤ x ∧ x ≤ hi
def TBool (v : Value) (w : World) : Prop := ∃ x, v = .bool x
def TRow (g n : Nat) (lo hi : Int) (v : Value) (w : World) : Prop := ∃ b t zs, v = .slice (some ⟨b, 0, none⟩) n n ∧ g < b ∧ Blk w b t (List.map (Value.int .i64) zs).toArray ∧ List.length zs = n ∧ ∀ z ∈ zs, lo ≤ z ∧ z ≤ hi
def TAt (g : Nat) (lo hi : Int) (v : Value) (w : World) : Prop := ∃ b j x, v = .pointer (some ⟨b, j, none⟩) ∧ g < b ∧ b < w.heap.size ∧ w.cell? ⟨b, j, none⟩ = some (.int .i64 x) ∧ lo ≤ x ∧ x ≤ hi
def TPtr (g : Nat) (v : Value) (w : World) : Prop := v = .pointer (some ⟨g, 0, none⟩)
def Two (g b : Nat) (w w' : World) : Prop := w.heap.size ≤ w'.heap.size ∧ ∀ k, k < w.heap.size → k ≠ g → k ≠ b → w'.heap[k]? = w.heap[k]?
theorem two_of {g : Nat} (b : Nat) {w w' : World} (h : w.grownBy w' (some g)) : Two g b w w' := ⟨h.size, fun k hk h1 _ => h.block k hk (fun e => h1 (Option.some.inj e))⟩
def Keeps (g b : Nat) (T : Value → World → Prop) : Prop := ∀ v w w', T v w → Two g b w w' → T v w'
theorem keeps_int {g b : Nat} {lo hi : Int} : Keeps g b (TInt lo hi) := fun _ _ _ h _ => h
theorem keeps_bool {g b : Nat} : Keeps g b TBool := fun _ _ _ h _ => h
theorem keeps_ptr {g b q : Nat} : Keeps g b (TPtr q) := fun _ _ _ h _ => h
theorem keeps_row {g b m n : Nat} {lo hi : Int} (h1 : g ≤ m) (h2 : b ≤ m) : Keeps g b (TRow m n lo hi) := fun _ _ _ ⟨c, t, zs, e, hb, k1, k2, k3⟩ hg => ⟨c, t, zs, e, hb, (hg.2 c k1.lt (by omega) (by omega)).trans k1, k2, k3⟩
theorem keeps_at {g b m : Nat} {lo hi : Int} (h1 : g ≤ m) (h2 : b ≤ m) : Keeps g b (TAt m lo hi) := fun _ _ _ ⟨c, j, x, e, hb, k1, k2, k3⟩ hg =>
  ⟨c, j, x, e, hb, Nat.lt_of_lt_of_le k1 hg.1, (World.cell?_of_block (hg.2 c k1 (by omega) (by omega))).trans k2, k3⟩

def TB (g : Nat) (X : World → Prop) (p0 N : Nat) (w1 : World) (k : Nat) (w : World) : Prop := (∃ p, p ≤ p0 + k ∧ RdS w g p) ∧ Below N w1 w ∧ X w
abbrev TR (g b : Nat) (w w' : World) : Prop := Two g b w w'
theorem two_refl {g b : Nat} (w : World) : Two g b w w := ⟨Nat.le_refl _, fun _ _ _ _ => rfl⟩
theorem TB.more {g p0 N k : Nat} {X : World → Prop} {w1 w : World} (h : TB g X p0 N w1 k w) : TB g X p0 N w1 (k + 1) w := by
  obtain ⟨⟨p, hp, hr⟩, hb⟩ := h
  exact ⟨⟨p, by omega, hr⟩, hb⟩

/-- The place whose value an operation reads from a slot. -/
def depJ (ops : List Oper) (o : Oper) (t : Tmp) : Nat := ((o.after.toList.find? (fun e => Region.binds .any e && (match ops[e.on]? with | some o1 => o1.dst == some t | none => false))).map (·.on)).getD 1000000
def depB (ops : List Oper) (o : Oper) (t : Tmp) : Bool := (o.after.toList.find? (fun e => Region.binds .any e && (match ops[e.on]? with | some o1 => o1.dst == some t | none => false))).isSome
theorem dep_get {ops : List Oper} {o : Oper} {t : Tmp} {T : Nat → Value → World → Prop} {a : Act} {w : World} (hd : depB ops o t = true)
    (h : ∀ e ∈ o.after, Region.binds .any e = true → ∀ o', ops[e.on]? = some o' → T e.on (valOf a o') w) : T (depJ ops o t) (a.tmps.getD t undef) w := by
  obtain ⟨e, he⟩ := Option.isSome_iff_exists.1 hd
  have h1 := List.find?_some he
  have h2 := List.mem_of_find?_eq_some he
  simp only [Bool.and_eq_true] at h1
  have hj : depJ ops o t = e.on := by simp [depJ, he]
  rw [hj]
  cases ho : ops[e.on]? with
  | none => rw [ho] at h1; cases h1.2
  | some o1 =>
    rw [ho] at h1
    have hd1 : o1.dst = some t := by simpa using h1.2
    have := h e (by simpa using h2) h1.1 o1 ho
    unfold valOf at this
    rw [hd1] at this
    exact this

theorem op_move {ρ : Operand → Value} {o : Oper} (x : Operand) (h : o.op = .move x) : execOp ρ o = pure (.value (ρ x)) := by
  obtain ⟨d, op, ty, pos, af, gu⟩ := o
  simp only at h
  subst h
  rfl
theorem op_assign {ρ : Operand → Value} {o : Oper} (x : Operand) (h : o.op = .assign x) : execOp ρ o = pure (.value (ρ x)) := by
  obtain ⟨d, op, ty, pos, af, gu⟩ := o
  simp only at h
  subst h
  rfl
theorem op_call {a : Act} {o : Oper} (f : FuncId) (xs : Array Operand) (ats : Array TypeId) (h : o.op = .call { callee := .value (.func f), args := xs, argTypes := ats }) : execOp a.eval o = callFunc f (#[] ++ xs.map a.eval ++ #[]) := by
  obtain ⟨d, op, ty, pos, af, gu⟩ := o
  simp only at h
  subst h
  rfl
theorem op_bin {a : Act} {o : Oper} (b : BinOp) (ty ty2 : TypeId) (x y : Operand) (h : o.op = .binOp b ty x y ty2) : execOp a.eval o = (do pure (.value (← (do eqGuard b ty x y (a.eval x) (a.eval y); binOp b ty (a.eval x) (a.eval y))))) := by
  obtain ⟨d, op, ty, pos, af, gu⟩ := o
  simp only at h
  subst h
  rfl
theorem op_build {a : Act} {o : Oper} (ty : TypeId) (n : Nat) (ps : Array (Nat × Operand)) (h : o.op = .buildSlice ty n ps) : execOp a.eval o = (do pure (.value (← Instr.buildSlice ty n (ps.map fun (i, x) => (i, a.eval x))))) := by
  obtain ⟨d, op, ty, pos, af, gu⟩ := o
  simp only at h
  subst h
  rfl
theorem op_load {a : Act} {o : Oper} (ty : TypeId) (x : Operand) (h : o.op = .load ty x) : execOp a.eval o = (do pure (.value (← Instr.loadAt ty (a.eval x)))) := by
  obtain ⟨d, op, ty, pos, af, gu⟩ := o
  simp only at h
  subst h
  rfl
theorem op_index {a : Act} {o : Oper} (ty : TypeId) (x y : Operand) (h : o.op = .indexAddr ty x y) : execOp a.eval o = (do pure (.value (← Instr.indexAt ty (a.eval x) (a.eval y)))) := by
  obtain ⟨d, op, ty, pos, af, gu⟩ := o
  simp only at h
  subst h
  rfl
section
variable {ops : List Oper} {A : Array Value} {T : Nat → Value → World → Prop} {g b m p0 N : Nat} {X : World → Prop} {w1 : World} {i : Nat} {o : Oper}
abbrev Step (ops : List Oper) (A : Array Value) (T : Nat → Value → World → Prop) (g b : Nat) (X : World → Prop) (p0 N : Nat) (w1 : World) (i : Nat) (o : Oper) : Prop := StepOk Try.prog ops A T (TB g X p0 N w1) (TR g b) i o

theorem step_move (t : Tmp) (ho : o.op = .move (.tmp t)) (hi : T i = TPtr g) (ht : (dstsOf' ops).contains t = false) (hA : A.getD t undef = .pointer (some ⟨g, 0, none⟩)) : Step ops A T g b X p0 N w1 i o := by
  intro k a w hk hB hkeep hdep
  rw [op_move (.tmp t) ho]
  refine .value ?_ ⟨two_refl _, hB.more⟩
  rw [hi]
  exact (hkeep t ht).trans hA
theorem step_assign (t : Tmp) (ho : o.op = .assign (.tmp t)) (hd : depB ops o t = true) (hi : T (depJ ops o t) = T i) : Step ops A T g b X p0 N w1 i o := by
  intro k a w hk hB hkeep hdep
  rw [op_assign (.tmp t) ho]
  refine .value ?_ ⟨two_refl _, hB.more⟩
  have := dep_get hd hdep
  rw [hi] at this
  exact this
theorem step_pick (t : Tmp) (m : Int) (ats : Array TypeId) (ho : o.op = .call { callee := .value (.func 49), args := #[.tmp t, .const (.int .i64 m)], argTypes := ats }) (hd : depB ops o t = true)
    (hj : T (depJ ops o t) = TPtr g) (hi : T i = TInt 0 (m - 1)) (hm : 1 ≤ m ∧ m ≤ 1000000000) (hN : N ≤ g) (hN1 : N ≤ w1.heap.size) (hp : p0 + ops.length ≤ 1000000) (hX : ∀ w w', X w → w.grownBy w' (some g) → X w') : Step ops A T g b X p0 N w1 i o := by
  intro k a w hk hB hkeep hdep
  have h1 := dep_get hd hdep
  rw [hj] at h1
  unfold TPtr at h1
  obtain ⟨⟨p, hp1, hr⟩, hb, hx⟩ := hB
  have he : execOp a.eval o = callFunc 49 #[.pointer (some ⟨g, 0, none⟩), .int .i64 m] := by
    rw [op_call _ _ _ ho, ← h1]
    simp [Act.eval]
  rw [he]
  refine .enter ?_
  refine (pick_any g p m w hr (by omega) hm.2).mono ?_
  rintro e w' ⟨y, rfl, x0, x1, hr', hg⟩
  refine ⟨_, rfl, ?_, two_of b hg, ⟨p + 1, by omega, hr'⟩, Below.only hb hg (Nat.le_trans hN1 hb.size) hN, hX _ _ hx hg⟩
  rw [hi]
  exact ⟨y, rfl, x0, by omega⟩
theorem step_mulC (t : Tmp) (c lo hi lo' hi' : Int) (ho : o.op = .binOp .mul 3 (.tmp t) (.const (.int .i64 c)) 3) (hd : depB ops o t = true) (hj : T (depJ ops o t) = TInt lo hi) (hi2 : T i = TInt lo' hi')
    (hb : ∀ x, lo ≤ x → x ≤ hi → lo' ≤ x * c ∧ x * c ≤ hi') (h63 : -9223372036854775808 ≤ lo' ∧ hi' ≤ 9223372036854775807) : Step ops A T g b X p0 N w1 i o := by
  intro k a w hk hB hkeep hdep
  have h1 := dep_get hd hdep
  rw [hj] at h1
  obtain ⟨x, hx, x0, x1⟩ := h1
  have hb' := hb x x0 x1
  have w0 : IntKind.i64.wrap (x * c) = x * c := IntWalk.i64_in _ (by omega)
  rw [op_bin _ _ _ _ _ ho]
  have e1 : a.eval (.tmp t) = .int .i64 x := hx
  have e2 : a.eval (.const (.int .i64 c)) = .int .i64 c := rfl
  rw [e1, e2]
  simp [go_sem]
  refine .value ?_ ⟨two_refl _, hB.more⟩
  rw [hi2]
  exact ⟨x * c, by rw [w0], hb'.1, hb'.2⟩
theorem step_load (t : Tmp) (lo hi : Int) (ho : o.op = .load 3 (.tmp t)) (hd : depB ops o t = true) (hj : T (depJ ops o t) = TAt m lo hi) (hi2 : T i = TInt lo hi) : Step ops A T g b X p0 N w1 i o := by
  intro k a w hk hB hkeep hdep
  have h1 := dep_get hd hdep
  rw [hj] at h1
  obtain ⟨bb, j, x, hx, hb, hlt, hc, x0, x1⟩ := h1
  rw [op_load _ _ ho]
  have e1 : a.eval (.tmp t) = .pointer (some ⟨bb, j, none⟩) := hx
  rw [e1]
  simp [go_sem, hc]
  refine .value ?_ ⟨two_refl _, hB.more⟩
  rw [hi2]
  exact ⟨x, rfl, x0, x1⟩
theorem step_index (s t : Tmp) (n : Nat) (lo hi : Int) (u : Int) (ho : o.op = .indexAddr 39 (.tmp s) (.tmp t)) (hd : depB ops o s = true) (hj : T (depJ ops o s) = TRow m n lo hi) (hd2 : depB ops o t = true) (hj2 : T (depJ ops o t) = TInt 0 u) (hm : u < (n : Int))
    (hi2 : T i = TAt m lo hi) : Step ops A T g b X p0 N w1 i o := by
  intro k a w hk hB hkeep hdep
  have h1 := dep_get hd hdep
  have h2 := dep_get hd2 hdep
  rw [hj] at h1
  rw [hj2] at h2
  obtain ⟨bb, ty, zs, hx, hb, hblk, hzs, hz⟩ := h1
  obtain ⟨y, hy, y0, y1⟩ := h2
  obtain ⟨y, rfl⟩ := Int.eq_ofNat_of_zero_le y0
  rw [op_index _ _ _ ho]
  have e1 : a.eval (.tmp s) = .slice (some ⟨bb, 0, none⟩) n n := hx
  have e2 : a.eval (.tmp t) = .int .i64 y := hy
  have hyn : (y : Int) < (n : Int) := by omega
  rw [e1, e2]
  simp [go_sem, hyn]
  have hyz : y < List.length zs := by omega
  refine .value ?_ ⟨two_refl _, hB.more⟩
  rw [hi2]
  refine ⟨bb, y, zs[y], ?_, hb, hblk.lt, ?_, hz _ (List.getElem_mem _)⟩
  · simp
  · rw [hblk.cell]; simp [hyz]
theorem step_build (n : Nat) (ps : Array (Nat × Operand)) (lo hi : Int) (ho : o.op = .buildSlice 39 n ps) (hi2 : T i = TRow m n lo hi) (hn : 0 < n ∧ n ≤ 1000)
    (hN : N ≤ w1.heap.size) (hX : ∀ w w', X w → w.grownBy w' (some g) → X w') (hm : ∀ w, X w → g < w.heap.size → m < w.heap.size)
    (hps : ∀ a w, (∀ e ∈ o.after, Region.binds .any e = true → ∀ o', ops[e.on]? = some o' → T e.on (valOf a o') w) → ∃ zs, (ps.map fun (i, x) => (i, a.eval x)).toList = ((List.map (Value.int .i64) zs).zipIdx 0).map (fun x => (x.2, x.1)) ∧ List.length zs = n ∧ ∀ z ∈ zs, lo ≤ z ∧ z ≤ hi) : Step ops A T g b X p0 N w1 i o := by
  intro k a w hk hB hkeep hdep
  obtain ⟨zs, h1, h2, h3⟩ := hps a w hdep
  obtain ⟨⟨p, hp1, hr⟩, hb, hx⟩ := hB
  have hgs := hr.lt
  rw [op_build _ _ _ ho]
  have hu : (Try.prog).underlying 39 = some (.slice 3) := by kernel_rfl
  have hsz : ((Try.prog).info? 3).map (·.size) = some 1 := by kernel_rfl
  have hzz : (((Try.prog).info? 3).bind (·.zero)).isSome = true := by kernel_rfl
  obtain ⟨ie, hie⟩ : ∃ ie, (Try.prog).info? 3 = some ie := by
    cases h : (Try.prog).info? 3 with
    | none => rw [h] at hsz; cases hsz
    | some ie => exact ⟨ie, rfl⟩
  rw [hie] at hsz hzz
  simp only [Option.map_some, Option.some.injEq, Option.bind_some] at hsz hzz
  obtain ⟨z, hz⟩ := Option.isSome_iff_exists.1 hzz
  have hrun := run_buildSlice (P := Try.prog) w 39 3 n (ps.map fun (i, x) => (i, a.eval x)) (List.map (Value.int .i64) zs).toArray ie z hu hie hz (by rw [hsz]; omega) (by rw [hsz]; omega) (by
    rw [h1, hsz]
    exact Great.fill_flat _ _ (fun v hv => by obtain ⟨n, _, rfl⟩ := List.mem_map.1 hv; rfl) (by simp [h2]))
  simp only [Sem.run_bind, hrun, Result.andThen_ok, Sem.run_pure]
  refine .value ?_ ⟨two_of b (only_alloc (only_refl _ _) _), ⟨p, by omega, hr.alloc _⟩, hb.alloc (Nat.le_trans hN hb.size) _, hX _ _ hx (only_alloc (only_refl _ _) _)⟩
  rw [hi2]
  exact ⟨_, _, zs, rfl, hm w hx hgs, Blk.new _ _ _, h2, h3⟩
theorem step_eqC (t : Tmp) (c lo hi : Int) (ho : o.op = .binOp .eql 3 (.tmp t) (.const (.int .i64 c)) 3) (hd : depB ops o t = true) (hj : T (depJ ops o t) = TInt lo hi) (hi2 : T i = TBool) : Step ops A T g b X p0 N w1 i o := by
  intro k a w hk hB hkeep hdep
  have h1 := dep_get hd hdep
  rw [hj] at h1
  obtain ⟨x, hx, x0, x1⟩ := h1
  rw [op_bin _ _ _ _ _ ho]
  have e1 : a.eval (.tmp t) = .int .i64 x := hx
  have e2 : a.eval (.const (.int .i64 c)) = .int .i64 c := rfl
  rw [e1, e2]
  simp [go_sem]
  refine .value ?_ ⟨two_refl _, hB.more⟩
  rw [hi2]
  exact ⟨_, rfl⟩
theorem step_moveI (t : Tmp) (x lo hi : Int) (ho : o.op = .move (.tmp t)) (hi2 : T i = TInt lo hi) (ht : (dstsOf' ops).contains t = false) (hA : A.getD t undef = .int .i64 x) (hx : lo ≤ x ∧ x ≤ hi) : Step ops A T g b X p0 N w1 i o := by
  intro k a w hk hB hkeep hdep
  rw [op_move (.tmp t) ho]
  refine .value ?_ ⟨two_refl _, hB.more⟩
  rw [hi2]
  exact ⟨x, (hkeep t ht).trans hA, hx.1, hx.2⟩
def ElOk (ops : List Oper) (o : Oper) (T : Nat → Value → World → Prop) (lo hi : Int) (x : Operand) : Prop :=
  (∃ z, x = .const (.int .i64 z) ∧ lo ≤ z ∧ z ≤ hi) ∨ (∃ t lo' hi', x = .tmp t ∧ depB ops o t = true ∧ T (depJ ops o t) = TInt lo' hi' ∧ lo ≤ lo' ∧ hi' ≤ hi)
def Els (ops : List Oper) (o : Oper) (T : Nat → Value → World → Prop) (lo hi : Int) : List Operand → Prop
  | [] => True
  | x :: r => ElOk ops o T lo hi x ∧ Els ops o T lo hi r
theorem els_get {lo hi : Int} {a : Act} {w : World} (hdep : ∀ e ∈ o.after, Region.binds .any e = true → ∀ o', ops[e.on]? = some o' → T e.on (valOf a o') w) :
    ∀ xs, Els ops o T lo hi xs → ∃ zs, xs.map a.eval = List.map (Value.int .i64) zs ∧ ∀ z ∈ zs, lo ≤ z ∧ z ≤ hi := by
  intro xs
  induction xs with
  | nil => intro _; exact ⟨[], rfl, fun z hz => by cases hz⟩
  | cons x r ih =>
    intro h
    obtain ⟨zs, h1, h2⟩ := ih h.2
    have hx : ∃ z, a.eval x = .int .i64 z ∧ lo ≤ z ∧ z ≤ hi := by
      rcases h.1 with ⟨z, rfl, hz⟩ | ⟨t, lo', hi', rfl, hd, hj, h3, h4⟩
      · exact ⟨z, rfl, hz⟩
      · have h5 := dep_get hd hdep
        rw [hj] at h5
        obtain ⟨z, hz, z0, z1⟩ := h5
        exact ⟨z, hz, by omega, by omega⟩
    obtain ⟨z, hz, hz2⟩ := hx
    refine ⟨z :: zs, by simp [hz, h1], fun y hy => ?_⟩
    rcases List.mem_cons.1 hy with rfl | hy
    · exact hz2
    · exact h2 y hy
theorem step_list (n : Nat) (ps : Array (Nat × Operand)) (lo hi : Int) (ho : o.op = .buildSlice 39 n ps) (hxs : ps.toList = ((ps.toList.map Prod.snd).zipIdx 0).map fun x => (x.2, x.1)) (hlen : ps.toList.length = n) (hi2 : T i = TRow m n lo hi) (hn : 0 < n ∧ n ≤ 1000)
    (hN : N ≤ w1.heap.size) (hX : ∀ w w', X w → w.grownBy w' (some g) → X w') (hm : ∀ w, X w → g < w.heap.size → m < w.heap.size) (hels : Els ops o T lo hi (ps.toList.map Prod.snd)) : Step ops A T g b X p0 N w1 i o := by
  refine step_build n ps lo hi ho hi2 hn hN hX hm (fun a w hdep => ?_)
  obtain ⟨zs, h1, h2⟩ := els_get hdep _ hels
  refine ⟨zs, ?_, ?_, h2⟩
  · rw [← h1, Array.toList_map, List.zipIdx_map, List.map_map]
    conv => lhs; rw [hxs]
    rw [List.map_map]
    rfl
  · have := congrArg List.length h1
    simp at this hlen
    omega
def Steps (ops : List Oper) (A : Array Value) (T : Nat → Value → World → Prop) (g b : Nat) (X : World → Prop) (p0 N : Nat) (w1 : World) : List Oper → Nat → Prop
  | [], _ => True
  | o :: r, i => Step ops A T g b X p0 N w1 i o ∧ Steps ops A T g b X p0 N w1 r (i + 1)
theorem steps_get (l : List Oper) : ∀ s, Steps ops A T g b X p0 N w1 l s → ∀ i o, l[i]? = some o → Step ops A T g b X p0 N w1 (s + i) o := by
  induction l with
  | nil => intro s _ i o h; simp at h
  | cons x r ih =>
    intro s h i o ho
    cases i with
    | zero => simp at ho; subst ho; exact h.1
    | succ i =>
      have := ih (s + 1) h.2 i o (by simpa using ho)
      rwa [show s + (i + 1) = s + 1 + i by omega]
def KeepAll (g b : Nat) : List (Value → World → Prop) → Prop
  | [] => True
  | P :: r => Keeps g b P ∧ KeepAll g b r
theorem keep_get {g b : Nat} : ∀ (Ts : List (Value → World → Prop)), KeepAll g b Ts → ∀ i, Keeps g b (Ts.getD i fun _ _ => True) := by
  intro Ts
  induction Ts with
  | nil => intro _ i v w w' _ _; simp
  | cons P r ih =>
    intro h i
    cases i with
    | zero => exact h.1
    | succ i => simpa using ih h.2 i
end
def TAny (v : Value) (w : World) : Prop := True
theorem keeps_any {g b : Nat} : Keeps g b TAny := fun _ _ _ h _ => h
theorem wp_draw2 {id : Nat} {A : Array Value} {ds : List Deferred} {Q : Exit → Act → World → Prop} {ops : List Oper} (Ts : List (Value → World → Prop)) (g b m : Nat) (X : World → Prop) (p0 N : Nat) (w : World)
    (hok : backB ops A.size = true) (hdst : ops.dropLast.all (fun o => o.dst.isSome) = true) (hlast : (Ts.getD (ops.length - 1) fun _ _ => True) undef = fun _ => True) (hr : RdS w g p0) (hN : N ≤ w.heap.size) (hk : KeepAll g b Ts)
    (h0 : X w) (hX : ∀ w w', X w → w.grownBy w' (some g) → X w') (hm : ∀ w, X w → g < w.heap.size → m < w.heap.size)
    (hsteps : N ≤ w.heap.size → Steps ops A (fun i => Ts.getD i fun _ _ => True) g b X p0 N w ops 0)
    (hend : ∀ (vs : Nat → Value) (w' : World) (q : Nat), q ≤ p0 + ops.length → RdS w' g q → Below N w w' → X w' → (∀ i o, ops[i]? = some o → (Ts.getD i fun _ _ => True) (vs i) w') → Q .normal ⟨endTmps ops 0 vs A, ds⟩ w') :
    (Code.region id ops.toArray true).wp Try.prog Q ⟨A, ds⟩ w := by
  refine wp_region_inv (fun i => Ts.getD i fun _ _ => True) (TB g X p0 N w) (TR g b) (by kernel_rfl) hok (fun i v w w' h1 h2 => keep_get Ts hk i v w w' h1 h2) (fun i o ho hd v w _ => ?_) ⟨⟨p0, by omega, hr⟩, (Below.refl _ _).drew, hX _ _ h0 (only_drew (only_refl _ _))⟩ (fun i o ho => by simpa using steps_get ops 0 (hsteps hN) i o ho) (fun vs w' k hk hB hT => ?_)
  · have hi := (List.getElem?_eq_some_iff.1 ho).1
    by_cases hl : i = ops.length - 1
    · subst hl
      show (Ts.getD (ops.length - 1) fun _ _ => True) undef w
      rw [hlast]
      trivial
    · have hmem : o ∈ ops.dropLast := by
        refine List.mem_of_getElem? (i := i) ?_
        rw [List.getElem?_dropLast, if_pos (by omega)]
        exact ho
      have := List.all_eq_true.1 hdst o hmem
      rw [hd] at this
      cases this
  · obtain ⟨⟨q, hq, hr'⟩, hb, hx⟩ := hB
    exact hend vs w' q (by omega) hr' hb hx hT
theorem wp_draw {id : Nat} {A : Array Value} {ds : List Deferred} {Q : Exit → Act → World → Prop} {ops : List Oper} (Ts : List (Value → World → Prop)) (g p0 N : Nat) (w : World)
    (hok : backB ops A.size = true) (hdst : ops.all (fun o => o.dst.isSome) = true) (hr : RdS w g p0) (hN : N ≤ w.heap.size) (hk : KeepAll g g Ts)
    (hsteps : N ≤ w.heap.size → (∀ w w' : World, True → w.grownBy w' (some g) → True) → (∀ w : World, True → g < w.heap.size → g < w.heap.size) → Steps ops A (fun i => Ts.getD i fun _ _ => True) g g (fun _ => True) p0 N w ops 0)
    (hend : ∀ (vs : Nat → Value) (w' : World) (q : Nat), q ≤ p0 + ops.length → RdS w' g q → Below N w w' → (∀ i o, ops[i]? = some o → (Ts.getD i fun _ _ => True) (vs i) w') → Q .normal ⟨endTmps ops 0 vs A, ds⟩ w') :
    (Code.region id ops.toArray true).wp Try.prog Q ⟨A, ds⟩ w := by
  refine wp_region_inv (fun i => Ts.getD i fun _ _ => True) (TB g (fun _ => True) p0 N w) (TR g g) (by kernel_rfl) hok (fun i v w w' h1 h2 => keep_get Ts hk i v w w' h1 h2) (fun i o ho hd => ?_) ⟨⟨p0, by omega, hr⟩, (Below.refl _ _).drew, trivial⟩ (fun i o ho => by simpa using steps_get ops 0 (hsteps hN (fun _ _ _ _ => trivial) (fun _ _ h => h)) i o ho) (fun vs w' k hk hB hT => ?_)
  · have := List.all_eq_true.1 hdst o (List.mem_of_getElem? ho)
    rw [hd] at this
    cases this
  · obtain ⟨⟨q, hq, hr'⟩, hb, hx⟩ := hB
    exact hend vs w' q (by omega) hr' hb hT
end Go.Proofs.Ytfhhfibjjpiccaa
