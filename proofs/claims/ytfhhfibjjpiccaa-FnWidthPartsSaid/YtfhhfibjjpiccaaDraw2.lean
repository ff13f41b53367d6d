/- The operations of a draw's region, each by what it needs and what it leaves, over the second invariant; a list that grows by one drawn element. No condition but those stated. -/
import Derived.Test.YtfhhfibjjpiccaaDraw
import Derived.Test.YtfhhfibjjpiccaaReg2
import Derived.Deep.AppendLies
import Derived.Test.YtfhhfibjjpiccaaMade
namespace Go.Proofs.Ytfhhfibjjpiccaa
open Go.RowKit
set_option linter.unusedVariables false
set_option linter.unusedSimpArgs false
set_option maxRecDepth 100000

/-- Below block N all but block g is as it was. -/
structure Outer (N g : Nat) (w w' : World) : Prop where
  os : w'.os = w.os
  tape : w'.tape = w.tape
  output : w'.output = w.output
  size : w.heap.size ≤ w'.heap.size
  block : ∀ k, k < N → k ≠ g → w'.heap[k]? = w.heap[k]?
theorem Outer.refl (N g : Nat) (w : World) : Outer N g w w := ⟨rfl, rfl, rfl, Nat.le_refl _, fun _ _ _ => rfl⟩
theorem Outer.trans {N g : Nat} {a b c : World} (h : Outer N g a b) (k : Outer N g b c) : Outer N g a c :=
  ⟨k.os.trans h.os, k.tape.trans h.tape, k.output.trans h.output, Nat.le_trans h.size k.size, fun j h1 h2 => (k.block j h1 h2).trans (h.block j h1 h2)⟩
theorem Outer.grown {N g : Nat} {w w' : World} (h : w.grownBy w' (some g)) (hN : N ≤ w.heap.size) : Outer N g w w' :=
  ⟨h.os, h.tape, h.output, h.size, fun k h1 h2 => h.block k (Nat.lt_of_lt_of_le h1 hN) (fun e => h2 (Option.some.inj e))⟩
theorem Outer.row {N g : Nat} {w w' : World} {rb : Option Nat} (h : w.grownBy w' rb) (hN : N ≤ w.heap.size) (hr : ∀ b, rb = some b → N ≤ b) : Outer N g w w' :=
  ⟨h.os, h.tape, h.output, h.size, fun k h1 h2 => h.block k (Nat.lt_of_lt_of_le h1 hN) (fun e => by have := hr k e.symm; omega)⟩
theorem Outer.drew {N g : Nat} (w : World) : Outer N g w w.drew := ⟨rfl, rfl, rfl, Nat.le_refl _, fun _ _ _ => rfl⟩
theorem Outer.to_grown {g : Nat} {w w' : World} (h : Outer w.heap.size g w w') : w.grownBy w' (some g) :=
  ⟨h.os, h.tape, h.output, h.size, fun k h1 h2 => h.block k h1 (fun e => h2 (by rw [e]))⟩
theorem Outer.below {N g : Nat} {w w' : World} (h : Outer N g w w') (hg : N ≤ g) : Below N w w' := ⟨h.os, h.tape, h.output, h.size, fun k hk => h.block k hk (by omega)⟩
theorem Outer.mono {N M g : Nat} {w w' : World} (h : Outer N g w w') (hM : M ≤ N) : Outer M g w w' := ⟨h.os, h.tape, h.output, h.size, fun k hk => h.block k (by omega)⟩
theorem only_alloc' (w : World) (o : Obj) (g : Nat) : w.grownBy (w.alloc o) (some g) := only_alloc (only_refl _ _) o

def SB (g : Nat) (X : Bool → World → Prop) (p0 D N : Nat) (w1 : World) (k : Nat) (b : Bool) (w : World) : Prop := (∃ p, p ≤ p0 + D * k ∧ RdS w g p) ∧ Outer N g w1 w ∧ X b w
def SR (g ja : Nat) (rb : Option Nat) (j : Nat) (w w' : World) : Prop := if j = ja then w.grownBy w' rb else w.grownBy w' (some g)
theorem SR.of {g ja : Nat} {rb : Option Nat} {j : Nat} {w w' : World} (hj : j ≠ ja) (h : w.grownBy w' (some g)) : SR g ja rb j w w' := by
  unfold SR; rw [if_neg hj]; exact h
theorem SR.at_ {g ja : Nat} {rb : Option Nat} {w w' : World} (h : w.grownBy w' rb) : SR g ja rb ja w w' := by
  unfold SR; rw [if_pos rfl]; exact h
theorem or_ne {b : Bool} {i ja : Nat} (h : i ≠ ja) : (b || i == ja) = b := by
  have : (i == ja) = false := by simpa using h
  rw [this, Bool.or_false]
def HX (g : Nat) (X : Bool → World → Prop) : Prop := ∀ b w w', X b w → w.grownBy w' (some g) → X b w'
def XT (b : Bool) (w : World) : Prop := True
theorem HX.true_ {g : Nat} : HX g XT := fun _ _ _ _ _ => trivial

section
variable {ops : List Oper} {A : Array Value} {T : Nat → Value → World → Prop} {g p0 D N ja : Nat} {rb : Option Nat} {X : Bool → World → Prop} {w1 : World} {i : Nat} {o : Oper}
abbrev Step2 (ops : List Oper) (A : Array Value) (T : Nat → Value → World → Prop) (g : Nat) (X : Bool → World → Prop) (p0 D N ja : Nat) (rb : Option Nat) (w1 : World) (i : Nat) (o : Oper) : Prop :=
  StepOk2 Try.prog ops A T ja (SB g X p0 D N w1) (SR g ja rb) i o
abbrev Deps (ops : List Oper) (T : Nat → Value → World → Prop) (o : Oper) (a : Act) (w : World) : Prop := ∀ e ∈ o.after, Region.binds .any e = true → ∀ o', ops[e.on]? = some o' → T e.on (valOf a o') w
abbrev Keep2 (ops : List Oper) (A : Array Value) (i : Nat) (a : Act) : Prop := ∀ t, keepB ops i t = true → a.tmps.getD t undef = A.getD t undef
/-- What every step of a region that draws is told of it. -/
structure Ctx (g : Nat) (X : Bool → World → Prop) (N : Nat) (w1 : World) : Prop where
  hx : HX g X
  hn : N ≤ w1.heap.size
  hg : g < w1.heap.size

theorem st_pure (hj : i ≠ ja) (h : ∀ a w, w1.heap.size ≤ w.heap.size → Keep2 ops A i a → Deps ops T o a w → ∃ v, (execOp a.eval o).run Try.prog w = .ok (.value v) w ∧ T i v w) : Step2 ops A T g X p0 D N ja rb w1 i o := by
  intro k b a w hk hB hb hkeep hdep
  obtain ⟨v, hr, hT⟩ := h a w hB.2.1.size hkeep hdep
  rw [hr]
  obtain ⟨⟨p, hp, hrd⟩, ho, hx⟩ := hB
  refine .value hT ⟨SR.of hj (only_refl _ _), ⟨p, by rw [Nat.mul_add]; omega, hrd⟩, ho, ?_⟩
  rw [or_ne hj]; exact hx
theorem st_alloc (c : Ctx g X N w1) (hj : i ≠ ja) (h : ∀ a w, w1.heap.size ≤ w.heap.size → Keep2 ops A i a → Deps ops T o a w → ∃ v ob, (execOp a.eval o).run Try.prog w = .ok (.value v) (w.alloc ob) ∧ T i v (w.alloc ob)) : Step2 ops A T g X p0 D N ja rb w1 i o := by
  intro k b a w hk hB hb hkeep hdep
  obtain ⟨v, ob, hr, hT⟩ := h a w hB.2.1.size hkeep hdep
  rw [hr]
  obtain ⟨⟨p, hp, hrd⟩, ho, hx⟩ := hB
  have hg := only_alloc' w ob g
  refine .value hT ⟨SR.of hj hg, ⟨p, by rw [Nat.mul_add]; omega, hrd.alloc ob⟩, ho.trans (Outer.grown hg (Nat.le_trans c.hn ho.size)), ?_⟩
  rw [or_ne hj]; exact c.hx _ _ _ hx hg

/-- What a draw leaves. -/
def DrawP (g p D : Nat) (R : Value → World → Prop) (w : World) (e : Ending) (w' : World) : Prop := ∃ v q, e = .returned v ∧ R v w' ∧ q ≤ p + D ∧ RdS w' g q ∧ w.grownBy w' (some g)
/-- A function that draws: whatever the world, from a reader not too far on. -/
def Draws (f : FuncId) (g : Nat) (more : List Value) (M D N : Nat) (R : Value → World → Prop) : Prop :=
  ∀ (w : World) (p : Nat), RdS w g p → p ≤ M → N ≤ w.heap.size → Calls Try.prog f (.pointer (some ⟨g, 0, none⟩) :: more).toArray w (DrawP g p D R w)
theorem Draws.mono {f : FuncId} {g M D N M' D' N' : Nat} {more : List Value} {R R' : Value → World → Prop} (h : Draws f g more M D N R) (hM : M' ≤ M) (hD : D ≤ D') (hN : N ≤ N') (hR : ∀ v w, R v w → R' v w) : Draws f g more M' D' N' R' := by
  intro w p h1 h2 h3
  refine (h w p h1 (by omega) (by omega)).mono ?_
  rintro e w' ⟨v, q, he, hv, hq, hr, hg⟩
  exact ⟨v, q, he, hR _ _ hv, by omega, hr, hg⟩

/-- A call of f enters its body. -/
def Enters (f : FuncId) : Prop := ∀ (args : Array Value) (w : World), (callFunc f args).run Try.prog w = .ok (.enter f args) w
theorem enters_of {f : FuncId} (h : ((Try.prog).funcs[f]?).map (fun fn => (fn.name == "runtime.NumGoroutine") || fn.body.isNone) = some false) : Enters f := by
  intro args w
  cases hf : (Try.prog).funcs[f]? with
  | none => rw [hf] at h; cases h
  | some fn =>
    rw [hf] at h
    simp only [Option.map_some, Option.some.injEq, Bool.or_eq_false_iff] at h
    cases hb : fn.body with
    | none => rw [hb] at h; cases h.2
    | some c =>
      have h1 : fn.name ≠ "runtime.NumGoroutine" := by simpa using h.1
      simp [callFunc, hf, h1, hb]
theorem st_enter {f : FuncId} {R : Value → World → Prop} (c : Ctx g X N w1) (hj : i ≠ ja) (hen : Enters f) (hR : ∀ v w, R v w → T i v w)
    (h : ∀ a w, Keep2 ops A i a → Deps ops T o a w → ∃ more, execOp a.eval o = callFunc f (.pointer (some ⟨g, 0, none⟩) :: more).toArray ∧ Draws f g more (p0 + D * ops.length) D w1.heap.size R) : Step2 ops A T g X p0 D N ja rb w1 i o := by
  intro k b a w hk hB hb hkeep hdep
  obtain ⟨⟨p, hp, hrd⟩, ho, hx⟩ := hB
  obtain ⟨more, he, hf⟩ := h a w hkeep hdep
  rw [he, hen]
  refine .enter ?_
  have hle : D * k ≤ D * ops.length := Nat.mul_le_mul_left D (by omega)
  refine (hf w p hrd (by omega) ho.size).mono ?_
  rintro e w' ⟨v, q, rfl, hv, hq, hr', hg⟩
  refine ⟨v, rfl, hR _ _ hv, SR.of hj hg, ⟨q, by rw [Nat.mul_add]; omega, hr'⟩, ho.trans (Outer.grown hg (Nat.le_trans c.hn ho.size)), ?_⟩
  rw [or_ne hj]; exact c.hx _ _ _ hx hg
/-- A draw with one more argument, a constant. -/
theorem st_draw (f : FuncId) (t : Tmp) (cv : Value) (ats : Array TypeId) {R : Value → World → Prop} (ho : o.op = .call { callee := .value (.func f), args := #[.tmp t, .const cv], argTypes := ats }) (hd : depB ops o t = true) (hj : T (depJ ops o t) = TPtr g)
    (c : Ctx g X N w1) (hja : i ≠ ja) (hen : Enters f) (hf : Draws f g [cv] (p0 + D * ops.length) D w1.heap.size R) (hR : T i = R) : Step2 ops A T g X p0 D N ja rb w1 i o := by
  refine st_enter c hja hen (fun v w h => hR ▸ h) fun a w hk hdep => ⟨[cv], ?_, hf⟩
  have h1 := dep_get hd hdep
  rw [hj] at h1
  unfold TPtr at h1
  rw [op_call _ _ _ ho]
  simp [Act.eval, ← h1]
/-- A draw with no other argument. -/
theorem st_draw1 (f : FuncId) (t : Tmp) (ats : Array TypeId) {R : Value → World → Prop} (ho : o.op = .call { callee := .value (.func f), args := #[.tmp t], argTypes := ats }) (hd : depB ops o t = true) (hj : T (depJ ops o t) = TPtr g)
    (c : Ctx g X N w1) (hja : i ≠ ja) (hen : Enters f) (hf : Draws f g [] (p0 + D * ops.length) D w1.heap.size R) (hR : T i = R) : Step2 ops A T g X p0 D N ja rb w1 i o := by
  refine st_enter c hja hen (fun v w h => hR ▸ h) fun a w hk hdep => ⟨[], ?_, hf⟩
  have h1 := dep_get hd hdep
  rw [hj] at h1
  unfold TPtr at h1
  rw [op_call _ _ _ ho]
  simp [Act.eval, ← h1]
theorem pick_draws (g M N : Nat) (m : Int) (hm : 1 ≤ m ∧ m ≤ 1000000000) (hM : M ≤ 1000000) : Draws 49 g [.int .i64 m] M 1 N (TInt 0 (m - 1)) := by
  intro w p h1 h2 h3
  refine (pick_any g p m w h1 (by omega) hm.2).mono ?_
  rintro e w' ⟨y, rfl, x0, x1, hr', hg⟩
  exact ⟨_, _, rfl, ⟨y, rfl, x0, by omega⟩, Nat.le_refl _, hr', hg⟩
theorem st_move (t : Tmp) (hj : i ≠ ja) (ho : o.op = .move (.tmp t)) (hk : keepB ops i t = true) (hT : ∀ w, w1.heap.size ≤ w.heap.size → T i (A.getD t undef) w) : Step2 ops A T g X p0 D N ja rb w1 i o := by
  refine st_pure hj fun a w hs hkeep hdep => ⟨A.getD t undef, ?_, hT w hs⟩
  rw [op_move (.tmp t) ho]
  show (pure (Next.value (a.tmps.getD t undef)) : Sem Next).run Try.prog w = _
  rw [hkeep t hk]
  rfl
theorem st_assign (t : Tmp) (hj : i ≠ ja) (ho : o.op = .assign (.tmp t)) (hd : depB ops o t = true) (hi : T (depJ ops o t) = T i) : Step2 ops A T g X p0 D N ja rb w1 i o := by
  refine st_pure hj fun a w hs hkeep hdep => ⟨a.tmps.getD t undef, ?_, ?_⟩
  · rw [op_assign (.tmp t) ho]; rfl
  · have := dep_get hd hdep
    rw [hi] at this
    exact this
end

/-! ### an element of a row, whatever its kind -/
structure EK {α : Type} (t e : TypeId) (size bytes : Nat) (C : α → List Value) (V : α → Value) : Prop where
  ht : (Try.prog).underlying t = some (.slice e)
  info : ∃ i z, (Try.prog).info? e = some i ∧ i.zero = some z ∧ i.size = size ∧ i.bytes = bytes ∧ z.cells.size = size
  pos : 0 < size ∧ size ≤ 100 ∧ bytes ≤ 1000
  len : ∀ x, (C x).length = size
  one : ∀ x, ∀ u ∈ C x, u.oneCell' = true
  cells : ∀ x, (V x).cells = (C x).toArray
theorem info_of {e : TypeId} {z : Value} {size bytes : Nat} (h : (Try.prog.info? e).map (fun i => (i.zero, i.size, i.bytes)) = some (some z, size, bytes)) (hz : z.cells.size = size) :
    ∃ i z, (Try.prog).info? e = some i ∧ i.zero = some z ∧ i.size = size ∧ i.bytes = bytes ∧ z.cells.size = size := by
  obtain ⟨i0, hi, hz0, hz1, hz2⟩ := info_parts h
  exact ⟨i0, z, hi, hz0, hz1, hz2, hz⟩
theorem run_build1 {α : Type} {t e : TypeId} {size bytes : Nat} {C : α → List Value} {V : α → Value} (ek : EK t e size bytes C V) (x : α) (w : World) :
    (Instr.buildSlice t 1 #[(0, V x)]).run Try.prog w = .ok (.slice (some ⟨w.heap.size, 0, none⟩) 1 1) (w.alloc (.cells (C x).toArray e)) := by
  obtain ⟨i, z, hi, hz, hs, hby, hzs⟩ := ek.info
  obtain ⟨p1, p2, p3⟩ := ek.pos
  have := Great.fill_whole (s := size) p1 [V x] ((Array.range (1 * size)).map (z.cells[· % z.cells.size]!)) (fun v hv => by
    simp at hv; subst hv; rw [ek.cells]; simp [ek.len]) (by simp)
  refine run_buildSlice w t e 1 _ _ i z ek.ht hi hz (by rw [hs]; omega) (by rw [hs]; omega) ?_
  rw [hs]
  refine this.trans ?_
  simp [ek.cells]

def TOne {α : Type} (C : α → List Value) (e : TypeId) (ok : α → Prop) (H : Nat) (v : Value) (w : World) : Prop := ∃ x b, v = .slice (some ⟨b, 0, none⟩) 1 1 ∧ ok x ∧ H ≤ b ∧ Blk w b e (C x).toArray
def TEl {α : Type} (V : α → Value) (ok : α → Prop) (v : Value) (w : World) : Prop := ∃ x, v = V x ∧ ok x
def TGrown {α : Type} (C : α → List Value) (e : TypeId) (size N n : Nat) (xs : List Value) (ok : α → Prop) (v : Value) (w : World) : Prop := ∃ x, ok x ∧ w.ownsRow N e size v (n + 1) (xs ++ C x)
def TIs (x : Value) (v : Value) (w : World) : Prop := v = x
def XApp (N : Nat) (e : TypeId) (size : Nat) (v : Value) (n : Nat) (xs : List Value) (b : Bool) (w : World) : Prop := b = false → w.ownsRow N e size v n xs
def TApp {α : Type} (vOut : Value) (g : Nat) (V : α → Value) (ok : α → Prop) (C : α → List Value) (e : TypeId) (H size N n : Nat) (xs : List Value) (i : Nat) : Value → World → Prop :=
  ([TIs vOut, TPtr g, TEl V ok, TOne C e ok H, TGrown C e size N n xs ok, TGrown C e size N n xs ok] : List (Value → World → Prop)).getD i fun _ _ => True
def appB (o0 o1 o2 o3 o4 o5 : Oper) (tOut tR s0 s1 s2 s3 s4 : Tmp) (n : Nat) : Bool :=
  let ops := [o0, o1, o2, o3, o4, o5]
  backB ops n && ops.all (fun o => o.dst.isSome) && keepB ops 0 tOut && keepB ops 1 tR && depB ops o2 s1 && (depJ ops o2 s1 == 1) && depB ops o3 s2 && (depJ ops o3 s2 == 2) && depB ops o4 s0 && (depJ ops o4 s0 == 0) && depB ops o4 s3 && (depJ ops o4 s3 == 3) && depB ops o5 s4 && (depJ ops o5 s4 == 4) && ancB ops 4 6 5
theorem op_append {a : Act} {o : Oper} (s x : Operand) (t : TypeId) (ho : o.op = .call { callee := .builtin .append, args := #[s, x], argTypes := #[t, t] }) (w : World) (r : Value) (w' : World)
    (hr : (Builtin.append_ #[t, t] o.type #[a.eval s, a.eval x]).run Try.prog w = .ok r w') : (execOp a.eval o).run Try.prog w = .ok (.value r) w' := by
  unfold execOp
  simp only [ho, resolve, invoke, builtin, Sem.run_bind, Sem.run_pure, Result.andThen_ok, List.map_toArray, List.map_cons, List.map_nil, hr]
/-- 'out = append(out, f(r, c))', f a draw. -/
theorem wp_drawApp {α : Type} {t e : TypeId} {size bytes : Nat} {C : α → List Value} {V : α → Value} (ek : EK t e size bytes C V) (ok : α → Prop) {id : Nat} {A : Array Value} {ds : List Deferred} {Q : Exit → Act → World → Prop} {o0 o1 o2 o3 o4 o5 : Oper}
    (tOut tR s0 s1 s2 s3 s4 : Tmp) (f : FuncId) (cv : Value) (ats : Array TypeId) (g p0 D N n : Nat) (xs : List Value) (vOut : Value) (w : World)
    (h0 : o0.op = .move (.tmp tOut)) (h1 : o1.op = .move (.tmp tR)) (h2 : o2.op = .call { callee := .value (.func f), args := #[.tmp s1, .const cv], argTypes := ats }) (h3 : o3.op = .buildSlice t 1 #[(0, .tmp s2)])
    (h4 : o4.op = .call { callee := .builtin .append, args := #[.tmp s0, .tmp s3], argTypes := #[t, t] }) (h5 : o5.op = .assign (.tmp s4))
    (hB : appB o0 o1 o2 o3 o4 o5 tOut tR s0 s1 s2 s3 s4 A.size = true) (hA0 : A.getD tOut undef = vOut) (hA1 : A.getD tR undef = .pointer (some ⟨g, 0, none⟩)) (hen : Enters f)
    (hf : Draws f g [cv] (p0 + D * 6) D w.heap.size (TEl V ok)) (hr : RdS w g p0) (hN : N ≤ w.heap.size) (hg : g < N) (hown : w.ownsRow N e size vOut n xs) (hn : n ≤ 1000000)
    (hend : ∀ (vs : Nat → Value) (w' : World) (q : Nat) (v : Value) (x : α), vs 5 = v → q ≤ p0 + D * 6 → RdS w' g q → Outer N g w w' → ok x → w'.ownsRow N e size v (n + 1) (xs ++ C x) → Q .normal ⟨endTmps [o0, o1, o2, o3, o4, o5] 0 vs A, ds⟩ w') :
    (Code.region id (List.toArray [o0, o1, o2, o3, o4, o5]) true).wp Try.prog Q ⟨A, ds⟩ w := by
  simp only [appB, Bool.and_eq_true, beq_iff_eq] at hB
  obtain ⟨⟨⟨⟨⟨⟨⟨⟨⟨⟨⟨⟨⟨⟨b1, b2⟩, b3⟩, b4⟩, b5⟩, b6⟩, b7⟩, b8⟩, b9⟩, b10⟩, b11⟩, b12⟩, b13⟩, b14⟩, b15⟩ := hB
  have hrb : ∀ k, vOut.ownBlock = some k → N ≤ k ∧ k < w.heap.size := fun k hk => hown.lt k hk
  have hx : HX g (XApp N e size vOut n xs) := fun b u u' hxx hgg hb => own_keep (hxx hb) fun k hk => hgg.block k ((hxx hb).lt k hk).2 (fun e => by have := (hrb k hk).1; injection e with e; omega)
  have c : Ctx g (XApp N e size vOut n xs) N w := ⟨hx, hN, by omega⟩
  refine wp_region_inv2 (TApp vOut g V ok C e w.heap.size size N n xs) 4 (SB g (XApp N e size vOut n xs) p0 D N w) (SR g 4 vOut.ownBlock) (by kernel_rfl) b1 ?_ ?_ ⟨⟨p0, by omega, (show RdS w.drew g p0 from hr)⟩, Outer.drew w, fun _ => own_below hown ⟨rfl, rfl, rfl, Nat.le_refl _, fun _ _ => rfl⟩⟩ ?_ ?_
  · intro i j v u u' hij han hT hR
    have gone : ∀ {H : Nat} {z : Value}, TOne C e ok w.heap.size z u → TOne C e ok w.heap.size z u' := by
      rintro _ z ⟨x, b, rfl, hx1, hx2, hx3⟩
      refine ⟨x, b, rfl, hx1, hx2, ?_⟩
      unfold SR at hR
      split at hR
      · exact hx3.grown hR (fun e => by have := hrb b e.symm; omega)
      · exact hx3.grown hR (fun e => by injection e with e; omega)
    have ggr : j ≠ 4 → ∀ {z : Value}, TGrown C e size N n xs ok z u → TGrown C e size N n xs ok z u' := by
      rintro hj z ⟨x, hx1, hx2⟩
      refine ⟨x, hx1, own_keep hx2 fun k hk => ?_⟩
      unfold SR at hR
      rw [if_neg hj] at hR
      exact hR.block k (hx2.lt k hk).2 (fun e => by have := (hx2.lt k hk).1; injection e with e; omega)
    match i, hT with
    | 0, hT => exact hT
    | 1, hT => exact hT
    | 2, hT => exact hT
    | 3, hT => exact gone (H := 0) hT
    | 4, hT => exact ggr (fun e => hij e.symm) hT
    | 5, hT => exact ggr (fun e => by subst e; have h9 : ancB [o0, o1, o2, o3, o4, o5] 4 6 5 = false := han; rw [b15] at h9; cases h9) hT
    | (i + 6), _ => trivial
  · intro i o ho hd
    have := List.all_eq_true.1 b2 o (List.mem_of_getElem? ho)
    rw [hd] at this
    cases this
  · intro i o ho
    match i, ho with
    | 0, ho =>
      simp at ho; subst ho
      exact st_move tOut (by omega) h0 b3 (fun u _ => hA0)
    | 1, ho =>
      simp at ho; subst ho
      exact st_move tR (by omega) h1 b4 (fun u _ => hA1)
    | 2, ho =>
      simp at ho; subst ho
      exact st_draw f s1 cv ats h2 b5 (by rw [b6]; rfl) c (by omega) hen hf rfl
    | 3, ho =>
      simp at ho; subst ho
      refine st_alloc c (by omega) fun a u hs hk hdep => ?_
      have h9 := dep_get (ops := [o0, o1, o2, o3, o4, o5]) (T := TApp vOut g V ok C e w.heap.size size N n xs) b7 hdep
      rw [b8] at h9
      obtain ⟨x, hx1, hx2⟩ := h9
      refine ⟨.slice (some ⟨u.heap.size, 0, none⟩) 1 1, .cells (C x).toArray e, ?_, x, u.heap.size, rfl, hx2, hs, Blk.new _ _ _⟩
      rw [op_build _ _ _ h3]
      have e1 : a.eval (.tmp s2) = V x := hx1
      simp only [List.map_toArray, List.map_cons, List.map_nil, e1, Sem.run_bind, run_build1 ek x u, Result.andThen_ok, Sem.run_pure]
    | 4, ho =>
      simp at ho; subst ho
      intro k b a u hk hB hb hkeep hdep
      have hbf := hb rfl
      subst hbf
      have d0 := dep_get (ops := [o0, o1, o2, o3, o4, o5]) (T := TApp vOut g V ok C e w.heap.size size N n xs) b9 hdep
      rw [b10] at d0
      have d3 := dep_get (ops := [o0, o1, o2, o3, o4, o5]) (T := TApp vOut g V ok C e w.heap.size size N n xs) b11 hdep
      rw [b12] at d3
      obtain ⟨x, bb, hy1, hy2, hy3, hy4⟩ := d3
      obtain ⟨⟨p, hp, hrd⟩, ho, hxx⟩ := hB
      obtain ⟨i0, z, hi, hz, hs, hby, hzs⟩ := ek.info
      obtain ⟨p1, p2, p3⟩ := ek.pos
      have hbytes : (n + 1) * bytes ≤ 1000001 * 1000 := Nat.mul_le_mul (by omega) p3
      obtain ⟨g', cap, u', hrun, q1, q2, q3, q4⟩ := run_append_lies (P := Try.prog) u t o4.type N e i0 z size bytes ek.ht hi hz hs hby hzs p1 vOut n xs (hxx rfl) ⟨bb, 0, none⟩ 1 1 (C x) (by rw [ek.len]; omega)
        (World.news_of_block (cs := (C x).toArray) hy4) (ek.one x) (by omega) (by unfold maxLen; omega) (by omega) (Nat.le_trans hN ho.size) _ rfl
      have e0 : a.eval (.tmp s0) = vOut := d0
      have e3 : a.eval (.tmp s3) = .slice (some ⟨bb, 0, none⟩) 1 1 := hy1
      rw [op_append _ _ _ h4 u _ u' (by rw [e0, e3]; exact hrun)]
      have hO := Outer.row (g := g) q2 (Nat.le_trans hN ho.size) (fun k hk => (hrb k hk).1)
      refine .value ⟨x, hy2, q1⟩ ⟨SR.at_ q2, ⟨p, by rw [Nat.mul_add]; omega, ?_⟩, ho.trans hO, fun h => by cases h⟩
      cases hv : vOut.ownBlock with
      | none =>
        rw [hv] at q2
        exact hrd.below (⟨q2.os, q2.tape, q2.output, q2.size, fun k hk => q2.block k hk (by simp)⟩)
      | some k =>
        rw [hv] at q2
        exact hrd.only q2 (by have := (hrb k hv).1; omega)
    | 5, ho =>
      simp at ho; subst ho
      exact st_assign s4 (by omega) h5 b13 (by rw [b14]; rfl)
    | (i + 6), ho => simp at ho
  · intro vs w' k hk ⟨b, ⟨q, hq, hr'⟩, ho, hx'⟩ hT
    obtain ⟨x, hx1, hx2⟩ := hT 5 o5 rfl
    have hle : D * k ≤ D * 6 := Nat.mul_le_mul_left D hk
    exact hend vs w' q _ x rfl (by omega) hr' ho hx1 hx2
end Go.Proofs.Ytfhhfibjjpiccaa
