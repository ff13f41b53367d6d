/- Several of my texts in one: Region, Reg2, Pick, RdOpen, Draw, Draw2. Their conditions stand at each. -/
import Derived.Orders
import Derived.Tactics
import Derived.Test.YtocaonlmlafjmaaKCore
import Derived.Laws.BitsAllLaws
import Derived.Laws.BitsLemmas
import Derived.Great.BuildSlice
import Derived.Deep.AppendLies
/- A region that draws its order, proved by an invariant: each operation, run when those that it waits for have run, leaves a value of its own kind; no operation disturbs another's value. For whatever program. No condition but those stated. -/
namespace Go.Proofs.Ytocaonlmlafjmaa
set_option linter.unusedVariables false
set_option linter.unusedSimpArgs false

/-- What an operation must come to. -/
def Outcome (P : Program) (T : Value → World → Prop) (S : World → Prop) : Result Next → Prop
  | .ok (.value v) w' => T v w' ∧ S w'
  | .ok .skip w' => T undef w' ∧ S w'
  | .ok (.enter f args) w' => Calls P f args w' fun e w'' => ∃ v, e = .returned v ∧ T v w'' ∧ S w''
  | _ => False
theorem Outcome.value {P : Program} {T : Value → World → Prop} {S : World → Prop} {v : Value} {w : World} (h1 : T v w) (h2 : S w) : Outcome P T S (.ok (.value v) w) := ⟨h1, h2⟩
theorem Outcome.skip {P : Program} {T : Value → World → Prop} {S : World → Prop} {w : World} (h1 : T undef w) (h2 : S w) : Outcome P T S (.ok .skip w) := ⟨h1, h2⟩
theorem Outcome.enter {P : Program} {T : Value → World → Prop} {S : World → Prop} {f : FuncId} {args : Array Value} {w : World} (h : Calls P f args w fun e w'' => ∃ v, e = .returned v ∧ T v w'' ∧ S w'') : Outcome P T S (.ok (.enter f args) w) := h

theorem outcome_upon {P : Program} {T : Value → World → Prop} {S : World → Prop} {r : Result Next} {o : Oper} {a : Act} {K : Act → World → Prop} {Q : Exit → Act → World → Prop}
    (h : Outcome P T S r) (hK : ∀ v w', T v w' → S w' → K (a.put o.dst v) w') : o.upon P a K Q r := by
  cases r with
  | halt x w => exact h.elim
  | ok x w =>
    cases x with
    | value v => exact hK v w h.1 h.2
    | skip => exact hK undef w h.1 h.2
    | enter f args =>
      refine Calls.mono h ?_
      rintro e w'' ⟨v, rfl, hT, hS⟩
      exact hK v w'' hT hS
    | _ => exact h.elim

def unl (listed : Array Bool) : Nat → Nat
  | 0 => 0
  | m + 1 => unl listed m + (if listed.getD m true = true then 0 else 1)
theorem unl_past {listed : Array Bool} {i : Nat} (m : Nat) (h : m ≤ i) : unl (listed.setIfInBounds i true) m = unl listed m := by
  induction m with
  | zero => rfl
  | succ m ih => rw [unl, unl, ih (by omega), getD_set_ne true (by omega)]
theorem unl_set {listed : Array Bool} {i : Nat} (hi : listed.getD i true = false) (m : Nat) (h : i < m) : unl (listed.setIfInBounds i true) m + 1 = unl listed m := by
  induction m with
  | zero => omega
  | succ m ih =>
    by_cases e : i = m
    · subst e
      have hlt : i < listed.size := by
        rcases Nat.lt_or_ge i listed.size with h' | h'
        · exact h'
        · simp [Array.getElem?_eq_none h'] at hi
      rw [unl, unl, unl_past i (Nat.le_refl _), hi]
      simp [hlt]
    · rw [unl, unl, ← ih (by omega), getD_set_ne true e]
      omega
theorem unl_zero {listed : Array Bool} (m : Nat) (h : unl listed m = 0) : ∀ i, i < m → listed.getD i true = true := by
  induction m with
  | zero => intro i hi; omega
  | succ m ih =>
    intro i hi
    rw [unl] at h
    by_cases e : i = m
    · subst e
      cases hb : listed.getD i true with
      | true => rfl
      | false => rw [hb] at h; simp at h
    · exact ih (by omega) i (by omega)
theorem unl_start (n m : Nat) (h : m ≤ n) : unl (Array.replicate n false) m = m := by
  induction m with
  | zero => rfl
  | succ m ih =>
    rw [unl, ih (by omega)]
    simp [show m < n by omega]

/-- The slots that a region writes. -/
def dstsOf' (ops : List Oper) : List Tmp := ops.filterMap Oper.dst
def endTmps : List Oper → Nat → (Nat → Value) → Array Value → Array Value
  | [], _, _, A => A
  | o :: rest, i, vs, A => endTmps rest (i + 1) vs (match o.dst with | some d => A.setIfInBounds d (vs i) | none => A)
def valOf (a : Act) (o : Oper) : Value := match o.dst with | some d => a.tmps.getD d undef | none => undef

/-- Edges lead back; no guards; no slot written twice, all within the frame. -/
def backB (ops : List Oper) (n : Nat) : Bool :=
  ((List.range ops.length).all fun i => match ops[i]? with | some o => o.guard.isNone && o.after.all (fun e => !(Region.binds .any e) || decide (e.on < i)) && (match o.dst with | some d => decide (d < n) | none => true) | none => true) && decide (dstsOf' ops).Nodup

structure RegOk (ops : List Oper) (n : Nat) : Prop where
  guard : ∀ (i : Nat) (o : Oper), ops[i]? = some o → o.guard = none
  back : ∀ (i : Nat) (o : Oper), ops[i]? = some o → ∀ e ∈ o.after, Region.binds .any e = true → e.on < i
  size : ∀ (i : Nat) (o : Oper) (d : Nat), ops[i]? = some o → o.dst = some d → d < n
  nodup : (dstsOf' ops).Nodup
theorem regOk {ops : List Oper} {n : Nat} (h : backB ops n = true) : RegOk ops n := by
  simp only [backB, Bool.and_eq_true, decide_eq_true_eq] at h
  have hall : ∀ (i : Nat) (o : Oper), ops[i]? = some o → (o.guard.isNone && o.after.all (fun e => !(Region.binds .any e) || decide (e.on < i)) && (match o.dst with | some d => decide (d < n) | none => true)) = true := by
    intro i o ho
    have := List.all_eq_true.1 h.1 i (List.mem_range.2 (List.getElem?_eq_some_iff.1 ho).1)
    rwa [ho] at this
  refine ⟨fun i o ho => ?_, fun i o ho e he hbd => ?_, fun i o d ho hd => ?_, h.2⟩
  · have := hall i o ho
    simp only [Bool.and_eq_true] at this
    exact Option.isNone_iff_eq_none.1 this.1.1
  · have := hall i o ho
    simp only [Bool.and_eq_true] at this
    have h2 := Array.all_eq_true_iff_forall_mem.1 this.1.2 e he
    simpa [hbd] using h2
  · have := hall i o ho
    simp only [Bool.and_eq_true, hd] at this
    simpa using this.2
theorem dst_apart {ops : List Oper} (h : (dstsOf' ops).Nodup) : ∀ (i j : Nat) (o o' : Oper) (d : Nat), ops[i]? = some o → ops[j]? = some o' → o.dst = some d → o'.dst = some d → i = j := by
  induction ops with
  | nil => intro i j o o' d hi; simp at hi
  | cons x l ih =>
    have hl : (dstsOf' l).Nodup := by
      unfold dstsOf' at h ⊢
      rw [List.filterMap_cons] at h
      split at h
      · exact h
      · exact (List.nodup_cons.1 h).2
    have hx : ∀ d, x.dst = some d → d ∉ dstsOf' l := by
      intro d hd
      unfold dstsOf' at h
      rw [List.filterMap_cons, hd] at h
      exact (List.nodup_cons.1 h).1
    have mem : ∀ (k : Nat) (o : Oper) (d : Nat), l[k]? = some o → o.dst = some d → d ∈ dstsOf' l := fun k o d hk hd => List.mem_filterMap.2 ⟨o, List.mem_of_getElem? hk, hd⟩
    intro i j o o' d hi hj hd hd'
    cases i with
    | zero =>
      cases j with
      | zero => rfl
      | succ j =>
        simp at hi hj
        subst hi
        exact absurd (mem j o' d hj hd') (hx d hd)
    | succ i =>
      cases j with
      | zero =>
        simp at hi hj
        subst hj
        exact absurd (mem i o d hi hd) (hx d hd')
      | succ j =>
        simp at hi hj
        rw [ih hl i j o o' d hi hj hd hd']

theorem endTmps_size (ops : List Oper) : ∀ (i : Nat) (vs : Nat → Value) (A : Array Value), (endTmps ops i vs A).size = A.size := by
  induction ops with
  | nil => intro i vs A; rfl
  | cons o l ih => intro i vs A; rw [endTmps, ih]; cases o.dst <;> simp
theorem endTmps_at (ops : List Oper) (h : (dstsOf' ops).Nodup) : ∀ (i : Nat) (vs : Nat → Value) (A : Array Value) (t : Nat), t < A.size →
    (endTmps ops i vs A).getD t undef = match (List.range ops.length).find? (fun j => (ops[j]?).bind Oper.dst == some t) with | some j => vs (i + j) | none => A.getD t undef := by
  induction ops with
  | nil => intro i vs A t ht; rfl
  | cons o l ih =>
    intro i vs A t ht
    have hl : (dstsOf' l).Nodup := by
      unfold dstsOf' at h ⊢
      rw [List.filterMap_cons] at h
      split at h
      · exact h
      · exact (List.nodup_cons.1 h).2
    have hsz : t < (match o.dst with | some d => A.setIfInBounds d (vs i) | none => A).size := by cases o.dst <;> simpa using ht
    rw [endTmps, ih hl _ _ _ _ hsz]
    rw [List.length_cons, List.range_succ_eq_map, List.find?_cons]
    by_cases e : o.dst = some t
    · have hn : (List.range l.length).find? (fun j => (l[j]?).bind Oper.dst == some t) = none := by
        rw [List.find?_eq_none]
        intro j hj
        simp only [beq_iff_eq]
        intro hj2
        obtain ⟨o', ho', hd'⟩ := Option.bind_eq_some_iff.1 hj2
        have := dst_apart h 0 (j + 1) o o' t rfl (by simpa using ho') e hd'
        omega
      rw [hn]
      simp [e, ht]
    · have e2 : ((((o :: l)[0]?).bind Oper.dst == some t)) = false := by simpa using e
      rw [e2]
      dsimp only
      rw [List.find?_map]
      have e3 : ((fun j => ((o :: l)[j]?).bind Oper.dst == some t) ∘ Nat.succ) = fun j => (l[j]?).bind Oper.dst == some t := by
        funext j; simp
      rw [e3]
      cases hf : (List.range l.length).find? (fun j => (l[j]?).bind Oper.dst == some t) with
      | some j => simp; congr 1; omega
      | none =>
        simp only [Option.map_none]
        cases hd : o.dst with
        | none => rfl
        | some d =>
          have : d ≠ t := fun e' => e (by rw [hd, e'])
          simp [Array.getElem?_setIfInBounds_ne this]

def StepOk (P : Program) (ops : List Oper) (A : Array Value) (T : Nat → Value → World → Prop) (B : Nat → World → Prop) (R : World → World → Prop) (i : Nat) (o : Oper) : Prop :=
  ∀ (k : Nat) (a : Act) (w : World), k < ops.length → B k w → (∀ t, (dstsOf' ops).contains t = false → a.tmps.getD t undef = A.getD t undef) →
    (∀ e ∈ o.after, Region.binds .any e = true → ∀ o', ops[e.on]? = some o' → T e.on (valOf a o') w) → Outcome P (T i) (fun w' => R w w' ∧ B (k + 1) w') ((execOp a.eval o).run P w)
structure RInv (ops : List Oper) (A : Array Value) (ds : List Deferred) (T : Nat → Value → World → Prop) (B : Nat → World → Prop) (listed : Array Bool) (a : Act) (w : World) : Prop where
  size : listed.size = ops.length
  count : ∃ k, k + unl listed ops.length = ops.length ∧ B k w
  defers : a.defers = ds
  tmps : a.tmps.size = A.size
  keep : ∀ t, (dstsOf' ops).contains t = false → a.tmps.getD t undef = A.getD t undef
  vals : ∀ j o, ops[j]? = some o → listed.getD j false = true → T j (valOf a o) w

section
variable {P : Program} {ops : List Oper} {Q : Exit → Act → World → Prop} {A : Array Value} {ds : List Deferred} {T : Nat → Value → World → Prop} {B : Nat → World → Prop} {R : World → World → Prop}

theorem ready_nil (hok : RegOk ops A.size) {listed : Array Bool} (hs : listed.size = ops.length) (h : Region.ready .any ops.toArray listed = []) : ∀ i, i < ops.length → listed.getD i true = true := by
  intro i
  induction i using Nat.strongRecOn with
  | _ i ih =>
    intro hi
    cases hb : listed.getD i true with
    | true => rfl
    | false =>
      have ho : ops[i]? = some (ops[i]'hi) := List.getElem?_eq_getElem hi
      have : i ∈ Region.ready .any ops.toArray listed := mem_ready.2 ⟨hb, ops[i]'hi, by simp, fun e he hbd => by
        have hlt := hok.back i _ ho e he hbd
        have h1 := ih e.on hlt (by omega)
        have hsz : e.on < listed.size := by omega
        simp [hsz] at h1 ⊢
        exact h1⟩
      rw [h] at this
      cases this
theorem rinv_end (hok : RegOk ops A.size) {listed : Array Bool} {a : Act} {w : World} (inv : RInv ops A ds T B listed a w) (hall : ∀ i, i < ops.length → listed.getD i true = true)
    (hend : ∀ (vs : Nat → Value) (w' : World) (k : Nat), k ≤ ops.length → B k w' → (∀ i o, ops[i]? = some o → T i (vs i) w') → Q .normal ⟨endTmps ops 0 vs A, ds⟩ w') : Q .normal a w := by
  obtain ⟨k, hk, hB⟩ := inv.count
  have h := hend (fun i => match ops[i]? with | some o => valOf a o | none => undef) w k (by omega) hB (fun i o ho => by
    have hi := (List.getElem?_eq_some_iff.1 ho).1
    have h1 := hall i hi
    have hsz : i < listed.size := by rw [inv.size]; exact hi
    simp only [ho]
    exact inv.vals i o ho (by simp [hsz] at h1 ⊢; exact h1))
  have e : a = ⟨endTmps ops 0 (fun i => match ops[i]? with | some o => valOf a o | none => undef) A, ds⟩ := by
    have he : a.tmps = endTmps ops 0 (fun i => match ops[i]? with | some o => valOf a o | none => undef) A := by
      apply Array.ext
      · rw [endTmps_size, inv.tmps]
      · intro t h1 h2
        have ht : t < A.size := by rw [← inv.tmps]; exact h1
        have e1 := endTmps_at ops hok.nodup 0 (fun i => match ops[i]? with | some o => valOf a o | none => undef) A t ht
        have g1 : a.tmps.getD t undef = a.tmps[t] := by simp [h1]
        have g2 : (endTmps ops 0 (fun i => match ops[i]? with | some o => valOf a o | none => undef) A).getD t undef = (endTmps ops 0 (fun i => match ops[i]? with | some o => valOf a o | none => undef) A)[t] := by simp [h2]
        rw [← g1, ← g2, e1]
        cases hf : (List.range ops.length).find? (fun j => (ops[j]?).bind Oper.dst == some t) with
        | some j =>
          have hj := List.find?_some hf
          simp only [beq_iff_eq] at hj
          obtain ⟨o, ho, hd⟩ := Option.bind_eq_some_iff.1 hj
          simp [ho, valOf, hd]
        | none =>
          refine inv.keep t ?_
          cases hc : (dstsOf' ops).contains t with
          | false => rfl
          | true =>
            exfalso
            have hmem : t ∈ dstsOf' ops := by simpa using hc
            obtain ⟨o, ho, hd⟩ := List.mem_filterMap.1 hmem
            obtain ⟨j, hj⟩ := List.mem_iff_getElem?.1 ho
            have := List.find?_eq_none.1 hf j (List.mem_range.2 (List.getElem?_eq_some_iff.1 hj).1)
            simp [hj, hd] at this
    obtain ⟨tm, df⟩ := a
    have hd := inv.defers
    simp at hd he
    subst hd
    rw [← he]
  rw [e]
  exact h
theorem put_tmps_size (a : Act) (d : Option Tmp) (v : Value) : (a.put d v).tmps.size = a.tmps.size := by cases d <;> simp [Act.put]
theorem put_defers (a : Act) (d : Option Tmp) (v : Value) : (a.put d v).defers = a.defers := by cases d <;> rfl
theorem put_other (a : Act) (d : Option Tmp) (v : Value) (t : Tmp) (h : d ≠ some t) : (a.put d v).tmps.getD t undef = a.tmps.getD t undef := by
  cases d with
  | none => rfl
  | some d =>
    have : d ≠ t := fun e => h (by rw [e])
    simp [Act.put, Array.getElem?_setIfInBounds_ne this]
theorem rinv_any (hok : RegOk ops A.size) (hT : ∀ i v w w', T i v w → R w w' → T i v w') (hN : ∀ i o, ops[i]? = some o → o.dst = none → ∀ v w, T i v w → T i undef w)
    (hstep : ∀ i o, ops[i]? = some o → StepOk P ops A T B R i o)
    (hend : ∀ (vs : Nat → Value) (w' : World) (k : Nat), k ≤ ops.length → B k w' → (∀ i o, ops[i]? = some o → T i (vs i) w') → Q .normal ⟨endTmps ops 0 vs A, ds⟩ w') :
    ∀ (fuel : Nat) (listed : Array Bool) (a : Act) (w : World), RInv ops A ds T B listed a w → unl listed ops.length ≤ fuel → wpAny P .any ops.toArray Q fuel listed a w := by
  intro fuel
  induction fuel with
  | zero =>
    intro listed a w inv hu
    have hall := unl_zero ops.length (by omega : unl listed ops.length = 0)
    refine ⟨?_, rinv_end hok inv hall hend⟩
    cases hr : Region.ready .any ops.toArray listed with
    | nil => rfl
    | cons x xs =>
      have hx : x ∈ Region.ready .any ops.toArray listed := by rw [hr]; exact List.mem_cons_self
      obtain ⟨h1, o, ho, _⟩ := mem_ready.1 hx
      have := hall x (by simpa using (Array.getElem?_eq_some_iff.1 ho).1)
      rw [this] at h1
      cases h1
  | succ fuel ih =>
    intro listed a w inv hu
    refine ⟨fun hr => rinv_end hok inv (ready_nil hok inv.size hr) hend, fun i hi => ?_⟩
    obtain ⟨hun, o, ho', hdeps⟩ := mem_ready.1 hi
    have ho : ops[i]? = some o := by simpa using ho'
    have hlt := (List.getElem?_eq_some_iff.1 ho).1
    obtain ⟨k, hk, hB⟩ := inv.count
    have hus := unl_set hun ops.length hlt
    have hst := hstep i o ho k a w (by omega) hB inv.keep (fun e he hb o' ho2 => inv.vals e.on o' ho2 (hdeps e he hb))
    unfold wpOp
    simp only [ho']
    rw [if_pos (by simp [Region.wanted, hok.guard i o ho])]
    refine .inl (outcome_upon hst ?_)
    intro v w' hTv hS
    refine ih _ _ _ ?_ (by omega)
    refine ⟨by simp [inv.size], ⟨k + 1, by omega, hS.2⟩, by rw [put_defers]; exact inv.defers, by rw [put_tmps_size]; exact inv.tmps, fun t ht => ?_, fun j oj hj hl => ?_⟩
    · rw [put_other _ _ _ _ (fun e => by
        have : t ∈ dstsOf' ops := List.mem_filterMap.2 ⟨o, List.mem_of_getElem? ho, e⟩
        have h2 : (dstsOf' ops).contains t = true := by simpa using this
        rw [ht] at h2; cases h2)]
      exact inv.keep t ht
    · by_cases e : i = j
      · subst e
        obtain rfl := Option.some.inj (ho.symm.trans hj)
        cases hd : o.dst with
        | none =>
          have : valOf (a.put none v) o = undef := by simp [valOf, hd]
          rw [this]
          exact hN i o ho hd v w' hTv
        | some d =>
          have hds := hok.size i o d ho hd
          have : valOf (a.put (some d) v) o = v := by
            simp only [valOf, hd, Act.put]
            have : d < a.tmps.size := by rw [inv.tmps]; exact hds
            simp [this]
          rw [this]
          exact hTv
      · rw [getD_set_ne false e] at hl
        have h1 := inv.vals j oj hj hl
        have e2 : valOf (a.put o.dst v) oj = valOf a oj := by
          unfold valOf
          cases hd : oj.dst with
          | none => rfl
          | some d =>
            exact put_other _ _ _ _ (fun e3 => e (dst_apart hok.nodup i j o oj d ho hj e3 hd))
        rw [e2]
        exact hT j _ _ _ h1 hS.1
theorem wp_region_inv {id : Nat} {w : World} (T : Nat → Value → World → Prop) (B : Nat → World → Prop) (R : World → World → Prop) (hm : P.follows .mixedOrders = true) (hok : backB ops A.size = true)
    (hT : ∀ i v w w', T i v w → R w w' → T i v w') (hN : ∀ i o, ops[i]? = some o → o.dst = none → ∀ v w, T i v w → T i undef w) (h0 : B 0 w.drew)
    (hstep : ∀ i o, ops[i]? = some o → StepOk P ops A T B R i o)
    (hend : ∀ (vs : Nat → Value) (w' : World) (k : Nat), k ≤ ops.length → B k w' → (∀ i o, ops[i]? = some o → T i (vs i) w') → Q .normal ⟨endTmps ops 0 vs A, ds⟩ w') :
    (Code.region id ops.toArray true).wp P Q ⟨A, ds⟩ w := by
  refine wp_region_any hm ?_
  have hk := regOk hok
  have hsz : ops.toArray.size = ops.length := by simp
  refine rinv_any (R := R) hk hT hN hstep hend _ _ _ _ ⟨by simp, ⟨0, by rw [hsz, unl_start _ _ (Nat.le_refl _)]; omega, h0⟩, rfl, rfl, fun t _ => rfl, fun j o hj hl => ?_⟩ (by rw [hsz, unl_start _ _ (Nat.le_refl _)]; exact Nat.le_refl _)
  exfalso
  have hj2 := (List.getElem?_eq_some_iff.1 hj).1
  simp [hj2] at hl
end
end Go.Proofs.Ytocaonlmlafjmaa

/- A region that draws its order, once more: an operation may read a slot that a later one writes, and one operation may disturb what ran before it is asked for. For whatever program. No condition but those stated. -/
namespace Go.Proofs.Ytocaonlmlafjmaa
set_option linter.unusedVariables false
set_option linter.unusedSimpArgs false

/-- Operation j waits, by its edges, for operation i (or is i). -/
def ancB (ops : List Oper) (i : Nat) : Nat → Nat → Bool
  | 0, j => j == i
  | n + 1, j => j == i || (match ops[j]? with | some o => o.after.toList.any (fun e => Region.binds .any e && ancB ops i n e.on) | none => false)
/-- Whoever writes slot t waits for operation i. -/
def keepB (ops : List Oper) (i : Nat) (t : Tmp) : Bool := (List.range ops.length).all fun j => match ops[j]? with | some o => (o.dst != some t) || ancB ops i ops.length j | none => true

def Closed (ops : List Oper) (listed : Array Bool) : Prop := ∀ j o, ops[j]? = some o → listed.getD j false = true → ∀ e ∈ o.after, Region.binds .any e = true → listed.getD e.on false = true
theorem anc_listed {ops : List Oper} {i : Nat} {listed : Array Bool} (hc : Closed ops listed) : ∀ n j, ancB ops i n j = true → listed.getD j false = true → listed.getD i false = true := by
  intro n
  induction n with
  | zero =>
    intro j h hl
    simp only [ancB, beq_iff_eq] at h
    subst h
    exact hl
  | succ n ih =>
    intro j h hl
    simp only [ancB, Bool.or_eq_true, beq_iff_eq] at h
    rcases h with h | h
    · subst h; exact hl
    · cases ho : ops[j]? with
      | none => rw [ho] at h; cases h
      | some o =>
        rw [ho] at h
        obtain ⟨e, he, h2⟩ := List.any_eq_true.1 h
        simp only [Bool.and_eq_true] at h2
        exact ih e.on h2.2 (hc j o ho hl e (by simpa using he) h2.1)

def StepOk2 (P : Program) (ops : List Oper) (A : Array Value) (T : Nat → Value → World → Prop) (ja : Nat) (B : Nat → Bool → World → Prop) (R : Nat → World → World → Prop) (i : Nat) (o : Oper) : Prop :=
  ∀ (k : Nat) (b : Bool) (a : Act) (w : World), k < ops.length → B k b w → (i = ja → b = false) → (∀ t, keepB ops i t = true → a.tmps.getD t undef = A.getD t undef) →
    (∀ e ∈ o.after, Region.binds .any e = true → ∀ o', ops[e.on]? = some o' → T e.on (valOf a o') w) → Outcome P (T i) (fun w' => R i w w' ∧ B (k + 1) (b || i == ja) w') ((execOp a.eval o).run P w)
structure RInv2 (ops : List Oper) (A : Array Value) (ds : List Deferred) (T : Nat → Value → World → Prop) (ja : Nat) (B : Nat → Bool → World → Prop) (listed : Array Bool) (a : Act) (w : World) : Prop where
  size : listed.size = ops.length
  count : ∃ k, k + unl listed ops.length = ops.length ∧ B k (listed.getD ja false) w
  defers : a.defers = ds
  tmps : a.tmps.size = A.size
  keep : ∀ t, (∀ (j : Nat) (o : Oper), ops[j]? = some o → o.dst = some t → listed.getD j false = false) → a.tmps.getD t undef = A.getD t undef
  vals : ∀ (j : Nat) (o : Oper), ops[j]? = some o → listed.getD j false = true → T j (valOf a o) w
  closed : Closed ops listed

section
variable {P : Program} {ops : List Oper} {Q : Exit → Act → World → Prop} {A : Array Value} {ds : List Deferred} {T : Nat → Value → World → Prop} {ja : Nat} {B : Nat → Bool → World → Prop} {R : Nat → World → World → Prop}

theorem rinv2_old {listed : Array Bool} {a : Act} {w : World} (inv : RInv2 ops A ds T ja B listed a w) : RInv ops A ds T (fun k w => ∃ b, B k b w) listed a w :=
  ⟨inv.size, (by obtain ⟨k, hk, hB⟩ := inv.count; exact ⟨k, hk, _, hB⟩), inv.defers, inv.tmps, (fun t ht => inv.keep t fun j o ho hd => by
    exfalso
    have : t ∈ dstsOf' ops := List.mem_filterMap.2 ⟨o, List.mem_of_getElem? ho, hd⟩
    have h2 : (dstsOf' ops).contains t = true := by simpa using this
    rw [ht] at h2; cases h2), inv.vals⟩
theorem getD_flag {listed : Array Bool} {i : Nat} (h : listed.getD i true = false) : listed.getD i false = false := by
  rcases Nat.lt_or_ge i listed.size with hi | hi
  · simp [hi] at h ⊢; exact h
  · simp [Array.getElem?_eq_none hi] at h
theorem rinv2_any (hok : RegOk ops A.size) (hT : ∀ i j v w w', i ≠ j → ancB ops j ops.length i = false → T i v w → R j w w' → T i v w') (hN : ∀ i o, ops[i]? = some o → o.dst = none → ∀ v w, T i v w → T i undef w)
    (hstep : ∀ i o, ops[i]? = some o → StepOk2 P ops A T ja B R i o)
    (hend : ∀ (vs : Nat → Value) (w' : World) (k : Nat), k ≤ ops.length → (∃ b, B k b w') → (∀ i o, ops[i]? = some o → T i (vs i) w') → Q .normal ⟨endTmps ops 0 vs A, ds⟩ w') :
    ∀ (fuel : Nat) (listed : Array Bool) (a : Act) (w : World), RInv2 ops A ds T ja B listed a w → unl listed ops.length ≤ fuel → wpAny P .any ops.toArray Q fuel listed a w := by
  intro fuel
  induction fuel with
  | zero =>
    intro listed a w inv hu
    have hall := unl_zero ops.length (by omega : unl listed ops.length = 0)
    refine ⟨?_, rinv_end hok (rinv2_old inv) hall hend⟩
    cases hr : Region.ready .any ops.toArray listed with
    | nil => rfl
    | cons x xs =>
      have hx : x ∈ Region.ready .any ops.toArray listed := by rw [hr]; exact List.mem_cons_self
      obtain ⟨h1, o, ho, _⟩ := mem_ready.1 hx
      have := hall x (by simpa using (Array.getElem?_eq_some_iff.1 ho).1)
      rw [this] at h1
      cases h1
  | succ fuel ih =>
    intro listed a w inv hu
    refine ⟨fun hr => rinv_end hok (rinv2_old inv) (ready_nil hok inv.size hr) hend, fun i hi => ?_⟩
    obtain ⟨hun, o, ho', hdeps⟩ := mem_ready.1 hi
    have ho : ops[i]? = some o := by simpa using ho'
    have hlt := (List.getElem?_eq_some_iff.1 ho).1
    obtain ⟨k, hk, hB⟩ := inv.count
    have hus := unl_set hun ops.length hlt
    have hun' := getD_flag hun
    have hkeep : ∀ t, keepB ops i t = true → a.tmps.getD t undef = A.getD t undef := by
      intro t ht
      refine inv.keep t fun j oj hj hd => ?_
      have h1 := List.all_eq_true.1 ht j (List.mem_range.2 (List.getElem?_eq_some_iff.1 hj).1)
      simp only [hj, hd, bne_self_eq_false, Bool.false_or] at h1
      cases hl : listed.getD j false with
      | false => rfl
      | true =>
        have := anc_listed inv.closed _ _ h1 hl
        rw [hun'] at this; cases this
    have hst := hstep i o ho k _ a w (by omega) hB (fun e => by subst e; exact hun') hkeep (fun e he hb o' ho2 => inv.vals e.on o' ho2 (hdeps e he hb))
    unfold wpOp
    simp only [ho']
    rw [if_pos (by simp [Region.wanted, hok.guard i o ho])]
    refine .inl (outcome_upon hst ?_)
    intro v w' hTv hS
    refine ih _ _ _ ?_ (by omega)
    refine ⟨by simp [inv.size], ⟨k + 1, by omega, ?_⟩, by rw [put_defers]; exact inv.defers, by rw [put_tmps_size]; exact inv.tmps, fun t ht => ?_, fun j oj hj hl => ?_, ?_⟩
    · have := hS.2
      by_cases e : i = ja
      · subst e
        have hsz : i < listed.size := by rw [inv.size]; exact hlt
        simpa [hsz] using this
      · rw [getD_set_ne false e]
        have e2 : (i == ja) = false := by simpa using e
        rwa [e2, Bool.or_false] at this
    · have hne : o.dst ≠ some t := fun e => by
        have := ht i o ho e
        have hsz : i < listed.size := by rw [inv.size]; exact hlt
        simp [hsz] at this
      rw [put_other _ _ _ _ hne]
      refine inv.keep t fun j oj hj hd => ?_
      have := ht j oj hj hd
      have hij : i ≠ j := fun e => hne (by subst e; rw [ho] at hj; injection hj with hj; rw [hj]; exact hd)
      rwa [getD_set_ne false hij] at this
    · by_cases e : i = j
      · subst e
        obtain rfl := Option.some.inj (ho.symm.trans hj)
        cases hd : o.dst with
        | none =>
          have : valOf (a.put none v) o = undef := by simp [valOf, hd]
          rw [this]
          exact hN i o ho hd v w' hTv
        | some d =>
          have hds := hok.size i o d ho hd
          have : valOf (a.put (some d) v) o = v := by
            simp only [valOf, hd, Act.put]
            have : d < a.tmps.size := by rw [inv.tmps]; exact hds
            simp [this]
          rw [this]
          exact hTv
      · rw [getD_set_ne false e] at hl
        have h1 := inv.vals j oj hj hl
        have e2 : valOf (a.put o.dst v) oj = valOf a oj := by
          unfold valOf
          cases hd : oj.dst with
          | none => rfl
          | some d =>
            exact put_other _ _ _ _ (fun e3 => e (dst_apart hok.nodup i j o oj d ho hj e3 hd))
        rw [e2]
        refine hT j i _ _ _ (fun h => e h.symm) ?_ h1 hS.1
        cases ha : ancB ops i ops.length j with
        | false => rfl
        | true =>
          have := anc_listed inv.closed _ _ ha hl
          rw [hun'] at this; cases this
    · intro j oj hj hl e he hb
      by_cases hij : i = j
      · subst hij
        obtain rfl := Option.some.inj (ho.symm.trans hj)
        have := hdeps e he hb
        by_cases h2 : i = e.on
        · rw [← h2]
          have hsz : i < listed.size := by rw [inv.size]; exact hlt
          simp [hsz]
        · rw [getD_set_ne false h2]; exact this
      · rw [getD_set_ne false hij] at hl
        have := inv.closed j oj hj hl e he hb
        by_cases h2 : i = e.on
        · rw [← h2]
          have hsz : i < listed.size := by rw [inv.size]; exact hlt
          simp [hsz]
        · rw [getD_set_ne false h2]; exact this
theorem wp_region_inv2 {id : Nat} {w : World} (T : Nat → Value → World → Prop) (ja : Nat) (B : Nat → Bool → World → Prop) (R : Nat → World → World → Prop) (hm : P.follows .mixedOrders = true) (hok : backB ops A.size = true)
    (hT : ∀ i j v w w', i ≠ j → ancB ops j ops.length i = false → T i v w → R j w w' → T i v w') (hN : ∀ i o, ops[i]? = some o → o.dst = none → ∀ v w, T i v w → T i undef w) (h0 : B 0 false w.drew)
    (hstep : ∀ i o, ops[i]? = some o → StepOk2 P ops A T ja B R i o)
    (hend : ∀ (vs : Nat → Value) (w' : World) (k : Nat), k ≤ ops.length → (∃ b, B k b w') → (∀ i o, ops[i]? = some o → T i (vs i) w') → Q .normal ⟨endTmps ops 0 vs A, ds⟩ w') :
    (Code.region id ops.toArray true).wp P Q ⟨A, ds⟩ w := by
  refine wp_region_any hm ?_
  have hk := regOk hok
  have hsz : ops.toArray.size = ops.length := by simp
  have hno : ∀ j : Nat, (Array.replicate ops.toArray.size false).getD j false = false := by
    intro j
    simp only [Array.getD_eq_getD_getElem?, Array.getElem?_replicate]
    split <;> rfl
  refine rinv2_any (R := R) hk hT hN hstep hend _ _ _ _ ⟨by simp, ⟨0, by rw [hsz, unl_start _ _ (Nat.le_refl _)]; omega, by rw [hno]; exact h0⟩, rfl, rfl, fun t _ => rfl, fun j o hj hl => ?_, fun j o hj hl => ?_⟩ (by rw [hsz, unl_start _ _ (Nat.le_refl _)]; exact Nat.le_refl _)
  · rw [hno j] at hl; cases hl
  · rw [hno j] at hl; cases hl
end
end Go.Proofs.Ytocaonlmlafjmaa

/- The reader of a code: what it holds, and that a pick gives a number in its range and moves on by one. Condition: the reader lies in a block of its own, its place is small. -/
namespace Go.Proofs.Ytocaonlmlafjmaa
open Go.RowKit
set_option linter.unusedVariables false
set_option linter.unusedSimpArgs false

def RdS (w : World) (g p : Nat) : Prop :=
  ∃ A n c l, Blk w g 102 #[.slice A n c, .int .i64 p] ∧ n ≤ 2000 ∧ List.length l = n ∧ Rd w 1 A n (cellsB l) ∧ (∀ z ∈ l, 0 ≤ z ∧ z ≤ 255) ∧ (∀ b off, A = some ⟨b, off, none⟩ → 0 < n → b < g)
theorem RdS.lt {w : World} {g p : Nat} (h : RdS w g p) : g < w.heap.size := by
  obtain ⟨A, n, c, l, h1, _⟩ := h
  exact h1.lt
theorem Rd.only {w w' : World} {size n q : Nat} {A : Option Addr} {xs : List Value} (h : Rd w size A n xs) (hg : w.grownBy w' (some q)) (hq : ∀ b off, A = some ⟨b, off, none⟩ → 0 < n → b ≠ q) : Rd w' size A n xs :=
  ⟨h.1, fun hn => by
    obtain ⟨b, off, e, hb, hc⟩ := h.2 hn
    exact ⟨b, off, e, Nat.lt_of_lt_of_le hb hg.size, fun j u hu => (World.cell?_of_block (hg.block b hb (fun e2 => hq b off e hn (Option.some.inj e2)))).trans (hc j u hu)⟩⟩
theorem RdS.below {w w' : World} {g p : Nat} (h : RdS w g p) (hb : Below w.heap.size w w') : RdS w' g p := by
  obtain ⟨A, n, c, l, h1, h2, h3, h4, h5, h6⟩ := h
  exact ⟨A, n, c, l, h1.below' hb, h2, h3, h4.below hb, h5, h6⟩
theorem RdS.only {w w' : World} {g p q : Nat} (h : RdS w g p) (hg : w.grownBy w' (some q)) (hq : g < q) : RdS w' g p := by
  obtain ⟨A, n, c, l, h1, h2, h3, h4, h5, h6⟩ := h
  exact ⟨A, n, c, l, h1.grown hg (fun e => by injection e with e; omega), h2, h3, h4.only hg (fun b off e hn => by have := h6 b off e hn; omega), h5, h6⟩
theorem RdS.alloc {w : World} {g p : Nat} (h : RdS w g p) (o : Obj) : RdS (w.alloc o) g p := h.below ((Below.refl _ _).alloc (Nat.le_refl _) o)
theorem RdS.drewN {w : World} {g p : Nat} (h : RdS w g p) (k : Nat) : RdS (w.drewN k) g p := h
theorem RdS.setCell {w : World} {g p q i : Nat} (h : RdS w g p) (hq : g < q) (u : Value) : RdS (w.setCell ⟨q, i, none⟩ u) g p :=
  h.only (only_setCell (only_refl w (some q)) (.inl rfl) u) hq

theorem ofInt_i64 (a : Nat) (ha : a < 9223372036854775808) : (BitVec.ofInt 64 (a : Int)).toNat = a := by
  rw [BitVec.ofInt_natCast, BitVec.toNat_ofNat]; exact Nat.mod_eq_of_lt (by omega)
theorem i64_xor_nat (a b : Nat) (ha : a < 9223372036854775808) (hb : b < 9223372036854775808) : bits .xor .i64 (a : Int) (b : Int) = ((a ^^^ b : Nat) : Int) := by
  have hx : a ^^^ b < 2 ^ 63 := Nat.xor_lt_two_pow (by omega) (by omega)
  show IntKind.i64.wrap ((BitVec.ofInt 64 (a : Int) ^^^ BitVec.ofInt 64 (b : Int)).toNat : Int) = _
  rw [BitVec.toNat_xor, ofInt_i64 a ha, ofInt_i64 b hb, IntKind.wrap_i64]
  omega
theorem xor_bd (x y : Int) (hx : 0 ≤ x ∧ x ≤ 1000000000) (hy : 0 ≤ y ∧ y ≤ 1000000000) : ∃ z, bits .xor .i64 x y = z ∧ 0 ≤ z ∧ z ≤ 1073741823 := by
  obtain ⟨a, rfl⟩ := Int.eq_ofNat_of_zero_le hx.1
  obtain ⟨b, rfl⟩ := Int.eq_ofNat_of_zero_le hy.1
  have h : a ^^^ b < 2 ^ 30 := Nat.xor_lt_two_pow (by omega) (by omega)
  exact ⟨_, i64_xor_nat a b (by omega) (by omega), by omega, by omega⟩

def PickP (g p : Nat) (m : Int) (w : World) (e : Ending) (w' : World) : Prop := ∃ k : Int, e = .returned (.int .i64 k) ∧ 0 ≤ k ∧ (k < m ∨ k = 0) ∧ RdS w' g (p + 1) ∧ w.grownBy w' (some g)
theorem RdS.step {w : World} {g p : Nat} {A : Option Addr} {n c : Nat} {l : List Int} (h1 : Blk w g 102 #[.slice A n c, .int .i64 p]) (h2 : n ≤ 2000) (h3 : List.length l = n) (h4 : Rd w 1 A n (cellsB l)) (h5 : ∀ z ∈ l, 0 ≤ z ∧ z ≤ 255) (h6 : ∀ b off, A = some ⟨b, off, none⟩ → 0 < n → b < g) :
    RdS (w.setCell ⟨g, 1, none⟩ (.int .i64 ((p : Int) + 1))) g (p + 1) := by
  refine ⟨A, n, c, l, ?_, h2, h3, h4.only (only_setCell (only_refl w (some g)) (.inl rfl) _) (fun b off e hn => by have := h6 b off e hn; omega), h5, h6⟩
  have := h1.set_ 1 (.int .i64 ((p : Int) + 1))
  exact this

set_option maxRecDepth 100000 in
set_option maxHeartbeats 1000000 in
theorem pick_any (g p : Nat) (m : Int) (w : World) (h : RdS w g p) (hp : p ≤ 1000000) (hm : m ≤ 1000000000) :
    Calls Try.prog 80 #[.pointer (some ⟨g, 0, none⟩), .int .i64 m] w (PickP g p m w) := by
  obtain ⟨A, n, c, l, h1, h2, h3, h4, h5, h6⟩ := h
  have hst := hide (RdS.step h1 h2 h3 h4 h5 h6)
  have hgr := hide (only_setCell (p := ⟨g, 1, none⟩) (only_refl w (some g)) (.inl rfl) (.int .i64 ((p : Int) + 1)))
  have c0 : w.cell? ⟨g, 0, none⟩ = some (.slice A n c) := by rw [h1.cell]; rfl
  have c1 : w.cell? ⟨g, 1, none⟩ = some (.int .i64 p) := by rw [h1.cell]; rfl
  have z1 : w.frozen? ⟨g, 1, none⟩ = false := h1.frozen 1
  have hlt := h1.lt
  by_cases hm1 : m < 1
  · have hd : decide (m < 1) = true := by simpa using hm1
    clear h1 h2 h3 h4 h5 h6
    go_enter Try.func80, Try.ntmps80
    go_wp2
    unfold PickP
    go_ret
    exact ⟨0, rfl, Int.le_refl _, .inr rfl, hst.out, hgr.out⟩
  · have hd : decide (m < 1) = false := by simpa using hm1
    by_cases hn : n = 0
    · subst hn
      clear h1 h2 h3 h4 h5 h6
      go_enter Try.func80, Try.ntmps80
      go_wp2
      unfold PickP
      go_ret
      exact ⟨0, rfl, Int.le_refl _, .inr rfl, hst.out, hgr.out⟩
    · have hnz : ((n : Int) == 0) = false := by simp; omega
      obtain ⟨b, off, rfl, hb, hc⟩ := h4.2 (by omega)
      have hbg := h6 b off rfl (by omega)
      have hat : ∀ j, j < n → ∃ x, w.cell? ⟨b, off + j, none⟩ = some (.int .u8 x) ∧ 0 ≤ x ∧ x ≤ 255 := by
        intro j hj
        have e : l[j]? = some (l[j]'(by omega)) := List.getElem?_eq_getElem (by omega)
        have hx := h5 _ (List.mem_of_getElem? e)
        exact ⟨_, hc j _ (by simp [cellsB, e]), hx⟩
      have hat' := hide hat
      have hbne : ¬ b = g := by omega
      clear h1 h3 h4 h5 h6 hc hat
      by_cases hk : p < n
      · obtain ⟨x, hx, hx0, hx1⟩ := hat'.out p hk
        have hr : 0 ≤ x % m ∧ x % m < m := ⟨Int.emod_nonneg _ (by omega), Int.emod_lt_of_pos _ (by omega)⟩
        go_enter Try.func80, Try.ntmps80
        go_wp2
        unfold PickP
        go_ret
        exact ⟨x % m, rfl, hr.1, .inl hr.2, hst.out, hgr.out⟩
      · obtain ⟨x, hx, hx0, hx1⟩ := hat'.out (p % n) (Nat.mod_lt _ (by omega))
        obtain ⟨y, hy, hy0, hy1⟩ := hat'.out ((p * 7 + 3) % n) (Nat.mod_lt _ (by omega))
        have l0 : ((p % n : Nat) : Int) < (n : Int) := by have := Nat.mod_lt p (show 0 < n by omega); omega
        have l1 : (((p * 7 + 3) % n : Nat) : Int) < (n : Int) := by have := Nat.mod_lt (p * 7 + 3) (show 0 < n by omega); omega
        have d0 : p / n ≤ p := Nat.div_le_self _ _
        have t0 : (p : Int).tmod (n : Int) = ((p % n : Nat) : Int) := rfl
        have t1 : ((p : Int) * 7 + 3).tmod (n : Int) = (((p * 7 + 3) % n : Nat) : Int) := rfl
        have t2 : (p : Int).tdiv (n : Int) = ((p / n : Nat) : Int) := rfl
        generalize p / n = d at t2 d0
        have hq0 : (0 : Int) ≤ (d : Int) := by omega
        have hq1 : (d : Int) ≤ 1000000 := by omega
        have w0 : IntKind.i64.wrap x = x := IntWalk.i64_in _ (by omega)
        have w1 : IntKind.i64.wrap y = y := IntWalk.i64_in _ (by omega)
        have w2 : IntKind.i64.wrap (x * 131) = x * 131 := IntWalk.i64_in _ (by omega)
        have w3 : IntKind.i64.wrap ((p : Int) * 7) = (p : Int) * 7 := IntWalk.i64_in _ (by omega)
        have w4 : IntKind.i64.wrap ((p : Int) * 7 + 3) = (p : Int) * 7 + 3 := IntWalk.i64_in _ (by omega)
        have w5 : IntKind.i64.wrap (y * 1117) = y * 1117 := IntWalk.i64_in _ (by omega)
        have w6 : IntKind.i64.wrap (x * 131 + y * 1117) = x * 131 + y * 1117 := IntWalk.i64_in _ (by omega)
        have w7 : IntKind.i64.wrap ((p : Int) * 29) = (p : Int) * 29 := IntWalk.i64_in _ (by omega)
        have w8 : IntKind.i64.wrap (x * 131 + y * 1117 + (p : Int) * 29) = x * 131 + y * 1117 + (p : Int) * 29 := IntWalk.i64_in _ (by omega)
        have w9 : IntKind.i64.wrap ((d : Nat) : Int) = (d : Int) := IntWalk.i64_in _ (by omega)
        have wa : IntKind.i64.wrap ((d : Int) * 53) = (d : Int) * 53 := IntWalk.i64_in _ (by omega)
        have wb : IntKind.i64.wrap (x * 131 + y * 1117 + (p : Int) * 29 + (d : Int) * 53) = x * 131 + y * 1117 + (p : Int) * 29 + (d : Int) * 53 := IntWalk.i64_in _ (by omega)
        have wc : IntKind.i64.wrap ((p % n : Nat) : Int) = ((p % n : Nat) : Int) := IntWalk.i64_in _ (by omega)
        have wd : IntKind.i64.wrap (((p * 7 + 3) % n : Nat) : Int) = (((p * 7 + 3) % n : Nat) : Int) := IntWalk.i64_in _ (by omega)
        generalize (p * 7 + 3) % n = j1 at hy l1 t1 wd
        generalize p % n = j0 at hx l0 t0 wc
        obtain ⟨X, hX⟩ : ∃ X : Int, x * 131 + y * 1117 + (p : Int) * 29 + (d : Int) * 53 = X := ⟨_, rfl⟩
        have hX0 : 0 ≤ X ∧ X ≤ 1000000000 := by omega
        obtain ⟨z, hz, hz0, hz1⟩ := xor_bd X (X / 64) hX0 ⟨by omega, by omega⟩
        have hr : 0 ≤ z % m ∧ z % m < m := ⟨Int.emod_nonneg _ (by omega), Int.emod_lt_of_pos _ (by omega)⟩
        obtain ⟨hX1, hX2⟩ := hX0
        have hz' := hide hz
        have hnn : ¬ (n : Int) = 0 := by omega
        clear hz
        go_enter Try.func80, Try.ntmps80
        go_wp2
        go_quiet (fail)
        clear w0 w1 w2 w3 w4 w5 w6 w7 w8 w9 wa wb wc wd t0 t1 t2 hX
        have hz := hz'.out
        go_wp2
        unfold PickP
        go_ret
        exact ⟨z % m, rfl, hr.1, .inl hr.2, RdS.drewN hst.out _, only_drewN hgr.out _⟩
end Go.Proofs.Ytocaonlmlafjmaa

/- A reader opened over a code: a fresh block that reads the code's first bytes. Condition: the code's bytes can be read. -/
namespace Go.Proofs.Ytocaonlmlafjmaa
open Go.RowKit
set_option linter.unusedVariables false
set_option linter.unusedSimpArgs false

theorem Rd.take {w : World} {n : Nat} {A : Option Addr} {l : List Int} (h : Rd w 1 A n (cellsB l)) (hl : List.length l = n) (m : Nat) (hm : m ≤ n) : Rd w 1 A m (cellsB (l.take m)) := by
  refine ⟨?_, fun hn => ?_⟩
  · simp [cellsB]; omega
  · obtain ⟨b, off, e, hb, hc⟩ := h.2 (by omega)
    refine ⟨b, off, e, hb, fun j u hu => hc j u ?_⟩
    have e2 : cellsB (l.take m) = (cellsB l).take m := by simp [cellsB]
    rw [e2, List.getElem?_take] at hu
    split at hu
    · exact hu
    · simp at hu
def OpenP (w : World) (e : Ending) (w' : World) : Prop := e = .returned (.pointer (some ⟨w.heap.size, 0, none⟩)) ∧ RdS w' w.heap.size 0 ∧ Below w.heap.size w w'

theorem l20Open_any (w : World) (A : Option Addr) (n c : Nat) (l : List Int) (hl : List.length l = n) (hc : n ≤ c) (hn63 : n < 4611686018427387904) (h : Rd w 1 A n (cellsB l)) (h5 : ∀ z ∈ l, 0 ≤ z ∧ z ≤ 255) :
    Calls Try.prog 75 #[.slice A n c] w (OpenP w) := by
  by_cases hn : n ≤ 2000
  · have hd : decide (2000 < (n : Int)) = false := by simp; omega
    go_enter Try.func75, Try.ntmps75
    go_wp2
    go_ret
    exact ⟨rfl, ⟨A, n, c, l, Blk.new _ _ _, hn, hl, h.alloc _, h5, fun b off e h0 => by
      obtain ⟨b', off', e', hb, _⟩ := h.2 h0
      rw [e] at e'
      cases e'
      exact hb⟩, (Below.refl _ _).alloc (Nat.le_refl _) _⟩
  · have hd : decide (2000 < (n : Int)) = true := by simp; omega
    obtain ⟨b, off, rfl, hb, _⟩ := h.2 (by omega)
    go_enter Try.func75, Try.ntmps75
    go_wp2
    go_ret
    exact ⟨rfl, ⟨_, 2000, c, l.take 2000, Blk.new _ _ _, Nat.le_refl _, by simp; omega, (h.take hl 2000 (by omega)).alloc _, fun z hz => h5 z (List.mem_of_mem_take hz), fun b' off' e h0 => by
      cases e
      exact hb⟩, (Below.refl _ _).alloc (Nat.le_refl _) _⟩
def OddP (g p : Nat) (m : Int) (w : World) (e : Ending) (w' : World) : Prop := ∃ b q, e = .returned (.bool b) ∧ (b = true → 0 < m) ∧ RdS w' g q ∧ p ≤ q ∧ q ≤ p + 1 ∧ w.grownBy w' (some g)
theorem odd_any (g p : Nat) (m : Int) (w : World) (h : RdS w g p) (hp : p ≤ 1000000) (hm : m ≤ 1000000000) :
    Calls Try.prog 102 #[.pointer (some ⟨g, 0, none⟩), .int .i64 m] w (OddP g p m w) := by
  by_cases hm0 : 0 < m
  · have hd : decide (0 < m) = true := by simpa using hm0
    have w0 : IntKind.i64.wrap (m - 1) = m - 1 := IntWalk.i64_in _ (by omega)
    go_enter Try.func102, Try.ntmps102
    go_wp2_with (fail)
    go_at_call 80
    refine (pick_any g p m _ h hp hm).mono ?_
    rintro e w1 ⟨k, rfl, k0, k1, hr, hg⟩
    go_wp2
    go_ret
    exact ⟨_, p + 1, rfl, fun _ => hm0, hr, by omega, by omega, hg⟩
  · have hd : decide (0 < m) = false := by simpa using hm0
    go_enter Try.func102, Try.ntmps102
    go_wp2
    go_ret
    exact ⟨false, p, rfl, (fun e => by cases e), h, by omega, by omega, only_refl _ _⟩
end Go.Proofs.Ytocaonlmlafjmaa

/- The operations of a draw's region, each by what it needs and what it leaves: numbers in a range, rows of such numbers, places of such rows. No condition but those stated. -/
namespace Go.Proofs.Ytocaonlmlafjmaa
open Go.RowKit
set_option linter.unusedVariables false
set_option linter.unusedSimpArgs false
set_option maxRecDepth 100000

def TInt (lo hi : Int) (v : Value) (w : World) : Prop := ∃ x, v = .int .i64 x ∧ lo ≤ x ∧ x ≤ hi
def TBool (v : Value) (w : World) : Prop := ∃ x, v = .bool x
def TRow (g n : Nat) (lo hi : Int) (v : Value) (w : World) : Prop := ∃ b t zs, v = .slice (some ⟨b, 0, none⟩) n n ∧ g < b ∧ Blk w b t (List.map (Value.int .i64) zs).toArray ∧ List.length zs = n ∧ ∀ z ∈ zs, lo ≤ z ∧ z ≤ hi
def TAt (g : Nat) (lo hi : Int) (v : Value) (w : World) : Prop := ∃ b j x, v = .pointer (some ⟨b, j, none⟩) ∧ g < b ∧ b < w.heap.size ∧ w.cell? ⟨b, j, none⟩ = some (.int .i64 x) ∧ lo ≤ x ∧ x ≤ hi
def TPtr (g : Nat) (v : Value) (w : World) : Prop := v = .pointer (some ⟨g, 0, none⟩)
def Two (g b : Nat) (w w' : World) : Prop := w.heap.size ≤ w'.heap.size ∧ ∀ k, k < w.heap.size → k ≠ g → k ≠ b → w'.heap[k]? = w.heap[k]?
theorem two_of {g : Nat} (b : Nat) {w w' : World} (h : w.grownBy w' (some g)) : Two g b w w' := ⟨h.size, fun k hk h1 _ => h.block k hk (fun e => h1 (Option.some.inj e))⟩
def Keeps (g b : Nat) (T : Value → World → Prop) : Prop := ∀ v w w', T v w → Two g b w w' → T v w'
theorem keeps_int {g b : Nat} {lo hi : Int} : Keeps g b (TInt lo hi) := fun _ _ _ h _ => h
theorem keeps_bool {g b : Nat} : Keeps g b TBool := fun _ _ _ h _ => h
theorem keeps_ptr {g b q : Nat} : Keeps g b (TPtr q) := fun _ _ _ h _ => h
theorem keeps_row {g b m n : Nat} {lo hi : Int} (h1 : g ≤ m) (h2 : b ≤ m) : Keeps g b (TRow m n lo hi) := fun _ _ _ ⟨c, t, zs, e, hb, k1, k2, k3⟩ hg => ⟨c, t, zs, e, hb, (hg.2 c k1.lt (by omega) (by omega)).trans k1, k2, k3⟩
theorem keeps_at {g b m : Nat} {lo hi : Int} (h1 : g ≤ m) (h2 : b ≤ m) : Keeps g b (TAt m lo hi) := fun _ _ _ ⟨c, j, x, e, hb, k1, k2, k3⟩ hg =>
  ⟨c, j, x, e, hb, Nat.lt_of_lt_of_le k1 hg.1, (World.cell?_of_block (hg.2 c k1 (by omega) (by omega))).trans k2, k3⟩

def TB (g : Nat) (X : World → Prop) (p0 N : Nat) (w1 : World) (k : Nat) (w : World) : Prop := (∃ p, p ≤ p0 + k ∧ RdS w g p) ∧ Below N w1 w ∧ X w
abbrev TR (g b : Nat) (w w' : World) : Prop := Two g b w w'
theorem two_refl {g b : Nat} (w : World) : Two g b w w := ⟨Nat.le_refl _, fun _ _ _ _ => rfl⟩
theorem TB.more {g p0 N k : Nat} {X : World → Prop} {w1 w : World} (h : TB g X p0 N w1 k w) : TB g X p0 N w1 (k + 1) w := by
  obtain ⟨⟨p, hp, hr⟩, hb⟩ := h
  exact ⟨⟨p, by omega, hr⟩, hb⟩

/-- The place whose value an operation reads from a slot. -/
def depJ (ops : List Oper) (o : Oper) (t : Tmp) : Nat := ((o.after.toList.find? (fun e => Region.binds .any e && (match ops[e.on]? with | some o1 => o1.dst == some t | none => false))).map (·.on)).getD 1000000
def depB (ops : List Oper) (o : Oper) (t : Tmp) : Bool := (o.after.toList.find? (fun e => Region.binds .any e && (match ops[e.on]? with | some o1 => o1.dst == some t | none => false))).isSome
theorem dep_get {ops : List Oper} {o : Oper} {t : Tmp} {T : Nat → Value → World → Prop} {a : Act} {w : World} (hd : depB ops o t = true)
    (h : ∀ e ∈ o.after, Region.binds .any e = true → ∀ o', ops[e.on]? = some o' → T e.on (valOf a o') w) : T (depJ ops o t) (a.tmps.getD t undef) w := by
  obtain ⟨e, he⟩ := Option.isSome_iff_exists.1 hd
  have h1 := List.find?_some he
  have h2 := List.mem_of_find?_eq_some he
  simp only [Bool.and_eq_true] at h1
  have hj : depJ ops o t = e.on := by simp [depJ, he]
  rw [hj]
  cases ho : ops[e.on]? with
  | none => rw [ho] at h1; cases h1.2
  | some o1 =>
    rw [ho] at h1
    have hd1 : o1.dst = some t := by simpa using h1.2
    have := h e (by simpa using h2) h1.1 o1 ho
    unfold valOf at this
    rw [hd1] at this
    exact this

theorem op_move {ρ : Operand → Value} {o : Oper} (x : Operand) (h : o.op = .move x) : execOp ρ o = pure (.value (ρ x)) := by
  obtain ⟨d, op, ty, pos, af, gu⟩ := o
  simp only at h
  subst h
  rfl
theorem op_assign {ρ : Operand → Value} {o : Oper} (x : Operand) (h : o.op = .assign x) : execOp ρ o = pure (.value (ρ x)) := by
  obtain ⟨d, op, ty, pos, af, gu⟩ := o
  simp only at h
  subst h
  rfl
theorem op_call {a : Act} {o : Oper} (f : FuncId) (xs : Array Operand) (ats : Array TypeId) (h : o.op = .call { callee := .value (.func f), args := xs, argTypes := ats }) : execOp a.eval o = callFunc f (#[] ++ xs.map a.eval ++ #[]) := by
  obtain ⟨d, op, ty, pos, af, gu⟩ := o
  simp only at h
  subst h
  rfl
theorem op_bin {a : Act} {o : Oper} (b : BinOp) (ty ty2 : TypeId) (x y : Operand) (h : o.op = .binOp b ty x y ty2) : execOp a.eval o = (do pure (.value (← (do eqGuard b ty x y (a.eval x) (a.eval y); binOp b ty (a.eval x) (a.eval y))))) := by
  obtain ⟨d, op, ty, pos, af, gu⟩ := o
  simp only at h
  subst h
  rfl
theorem op_build {a : Act} {o : Oper} (ty : TypeId) (n : Nat) (ps : Array (Nat × Operand)) (h : o.op = .buildSlice ty n ps) : execOp a.eval o = (do pure (.value (← Instr.buildSlice ty n (ps.map fun (i, x) => (i, a.eval x))))) := by
  obtain ⟨d, op, ty, pos, af, gu⟩ := o
  simp only at h
  subst h
  rfl
theorem op_load {a : Act} {o : Oper} (ty : TypeId) (x : Operand) (h : o.op = .load ty x) : execOp a.eval o = (do pure (.value (← Instr.loadAt ty (a.eval x)))) := by
  obtain ⟨d, op, ty, pos, af, gu⟩ := o
  simp only at h
  subst h
  rfl
theorem op_index {a : Act} {o : Oper} (ty : TypeId) (x y : Operand) (h : o.op = .indexAddr ty x y) : execOp a.eval o = (do pure (.value (← Instr.indexAt ty (a.eval x) (a.eval y)))) := by
  obtain ⟨d, op, ty, pos, af, gu⟩ := o
  simp only at h
  subst h
  rfl
section
variable {ops : List Oper} {A : Array Value} {T : Nat → Value → World → Prop} {g b m p0 N : Nat} {X : World → Prop} {w1 : World} {i : Nat} {o : Oper}
abbrev Step (ops : List Oper) (A : Array Value) (T : Nat → Value → World → Prop) (g b : Nat) (X : World → Prop) (p0 N : Nat) (w1 : World) (i : Nat) (o : Oper) : Prop := StepOk Try.prog ops A T (TB g X p0 N w1) (TR g b) i o

theorem step_move (t : Tmp) (ho : o.op = .move (.tmp t)) (hi : T i = TPtr g) (ht : (dstsOf' ops).contains t = false) (hA : A.getD t undef = .pointer (some ⟨g, 0, none⟩)) : Step ops A T g b X p0 N w1 i o := by
  intro k a w hk hB hkeep hdep
  rw [op_move (.tmp t) ho]
  refine .value ?_ ⟨two_refl _, hB.more⟩
  rw [hi]
  exact (hkeep t ht).trans hA
theorem step_assign (t : Tmp) (ho : o.op = .assign (.tmp t)) (hd : depB ops o t = true) (hi : T (depJ ops o t) = T i) : Step ops A T g b X p0 N w1 i o := by
  intro k a w hk hB hkeep hdep
  rw [op_assign (.tmp t) ho]
  refine .value ?_ ⟨two_refl _, hB.more⟩
  have := dep_get hd hdep
  rw [hi] at this
  exact this
theorem step_pick (t : Tmp) (m : Int) (ats : Array TypeId) (ho : o.op = .call { callee := .value (.func 80), args := #[.tmp t, .const (.int .i64 m)], argTypes := ats }) (hd : depB ops o t = true)
    (hj : T (depJ ops o t) = TPtr g) (hi : T i = TInt 0 (m - 1)) (hm : 1 ≤ m ∧ m ≤ 1000000000) (hN : N ≤ g) (hN1 : N ≤ w1.heap.size) (hp : p0 + ops.length ≤ 1000000) (hX : ∀ w w', X w → w.grownBy w' (some g) → X w') : Step ops A T g b X p0 N w1 i o := by
  intro k a w hk hB hkeep hdep
  have h1 := dep_get hd hdep
  rw [hj] at h1
  unfold TPtr at h1
  obtain ⟨⟨p, hp1, hr⟩, hb, hx⟩ := hB
  have he : execOp a.eval o = callFunc 80 #[.pointer (some ⟨g, 0, none⟩), .int .i64 m] := by
    rw [op_call _ _ _ ho, ← h1]
    simp [Act.eval]
  rw [he]
  refine .enter ?_
  refine (pick_any g p m w hr (by omega) hm.2).mono ?_
  rintro e w' ⟨y, rfl, x0, x1, hr', hg⟩
  refine ⟨_, rfl, ?_, two_of b hg, ⟨p + 1, by omega, hr'⟩, Below.only hb hg (Nat.le_trans hN1 hb.size) hN, hX _ _ hx hg⟩
  rw [hi]
  exact ⟨y, rfl, x0, by omega⟩
theorem step_mulC (t : Tmp) (c lo hi lo' hi' : Int) (ho : o.op = .binOp .mul 3 (.tmp t) (.const (.int .i64 c)) 3) (hd : depB ops o t = true) (hj : T (depJ ops o t) = TInt lo hi) (hi2 : T i = TInt lo' hi')
    (hb : ∀ x, lo ≤ x → x ≤ hi → lo' ≤ x * c ∧ x * c ≤ hi') (h63 : -9223372036854775808 ≤ lo' ∧ hi' ≤ 9223372036854775807) : Step ops A T g b X p0 N w1 i o := by
  intro k a w hk hB hkeep hdep
  have h1 := dep_get hd hdep
  rw [hj] at h1
  obtain ⟨x, hx, x0, x1⟩ := h1
  have hb' := hb x x0 x1
  have w0 : IntKind.i64.wrap (x * c) = x * c := IntWalk.i64_in _ (by omega)
  rw [op_bin _ _ _ _ _ ho]
  have e1 : a.eval (.tmp t) = .int .i64 x := hx
  have e2 : a.eval (.const (.int .i64 c)) = .int .i64 c := rfl
  rw [e1, e2]
  simp [go_sem]
  refine .value ?_ ⟨two_refl _, hB.more⟩
  rw [hi2]
  exact ⟨x * c, by rw [w0], hb'.1, hb'.2⟩
theorem step_load (t : Tmp) (lo hi : Int) (ho : o.op = .load 3 (.tmp t)) (hd : depB ops o t = true) (hj : T (depJ ops o t) = TAt m lo hi) (hi2 : T i = TInt lo hi) : Step ops A T g b X p0 N w1 i o := by
  intro k a w hk hB hkeep hdep
  have h1 := dep_get hd hdep
  rw [hj] at h1
  obtain ⟨bb, j, x, hx, hb, hlt, hc, x0, x1⟩ := h1
  rw [op_load _ _ ho]
  have e1 : a.eval (.tmp t) = .pointer (some ⟨bb, j, none⟩) := hx
  rw [e1]
  simp [go_sem, hc]
  refine .value ?_ ⟨two_refl _, hB.more⟩
  rw [hi2]
  exact ⟨x, rfl, x0, x1⟩
theorem step_index (s t : Tmp) (n : Nat) (lo hi : Int) (u : Int) (ho : o.op = .indexAddr 60 (.tmp s) (.tmp t)) (hd : depB ops o s = true) (hj : T (depJ ops o s) = TRow m n lo hi) (hd2 : depB ops o t = true) (hj2 : T (depJ ops o t) = TInt 0 u) (hm : u < (n : Int))
    (hi2 : T i = TAt m lo hi) : Step ops A T g b X p0 N w1 i o := by
  intro k a w hk hB hkeep hdep
  have h1 := dep_get hd hdep
  have h2 := dep_get hd2 hdep
  rw [hj] at h1
  rw [hj2] at h2
  obtain ⟨bb, ty, zs, hx, hb, hblk, hzs, hz⟩ := h1
  obtain ⟨y, hy, y0, y1⟩ := h2
  obtain ⟨y, rfl⟩ := Int.eq_ofNat_of_zero_le y0
  rw [op_index _ _ _ ho]
  have e1 : a.eval (.tmp s) = .slice (some ⟨bb, 0, none⟩) n n := hx
  have e2 : a.eval (.tmp t) = .int .i64 y := hy
  have hyn : (y : Int) < (n : Int) := by omega
  rw [e1, e2]
  simp [go_sem, hyn]
  have hyz : y < List.length zs := by omega
  refine .value ?_ ⟨two_refl _, hB.more⟩
  rw [hi2]
  refine ⟨bb, y, zs[y], ?_, hb, hblk.lt, ?_, hz _ (List.getElem_mem _)⟩
  · simp
  · rw [hblk.cell]; simp [hyz]
theorem step_build (n : Nat) (ps : Array (Nat × Operand)) (lo hi : Int) (ho : o.op = .buildSlice 60 n ps) (hi2 : T i = TRow m n lo hi) (hn : 0 < n ∧ n ≤ 1000)
    (hN : N ≤ w1.heap.size) (hX : ∀ w w', X w → w.grownBy w' (some g) → X w') (hm : ∀ w, X w → g < w.heap.size → m < w.heap.size)
    (hps : ∀ a w, (∀ e ∈ o.after, Region.binds .any e = true → ∀ o', ops[e.on]? = some o' → T e.on (valOf a o') w) → ∃ zs, (ps.map fun (i, x) => (i, a.eval x)).toList = ((List.map (Value.int .i64) zs).zipIdx 0).map (fun x => (x.2, x.1)) ∧ List.length zs = n ∧ ∀ z ∈ zs, lo ≤ z ∧ z ≤ hi) : Step ops A T g b X p0 N w1 i o := by
  intro k a w hk hB hkeep hdep
  obtain ⟨zs, h1, h2, h3⟩ := hps a w hdep
  obtain ⟨⟨p, hp1, hr⟩, hb, hx⟩ := hB
  have hgs := hr.lt
  rw [op_build _ _ _ ho]
  have hu : (Try.prog).underlying 60 = some (.slice 3) := by kernel_rfl
  have hsz : ((Try.prog).info? 3).map (·.size) = some 1 := by kernel_rfl
  have hzz : (((Try.prog).info? 3).bind (·.zero)).isSome = true := by kernel_rfl
  obtain ⟨ie, hie⟩ : ∃ ie, (Try.prog).info? 3 = some ie := by
    cases h : (Try.prog).info? 3 with
    | none => rw [h] at hsz; cases hsz
    | some ie => exact ⟨ie, rfl⟩
  rw [hie] at hsz hzz
  simp only [Option.map_some, Option.some.injEq, Option.bind_some] at hsz hzz
  obtain ⟨z, hz⟩ := Option.isSome_iff_exists.1 hzz
  have hrun := run_buildSlice (P := Try.prog) w 60 3 n (ps.map fun (i, x) => (i, a.eval x)) (List.map (Value.int .i64) zs).toArray ie z hu hie hz (by rw [hsz]; omega) (by rw [hsz]; omega) (by
    rw [h1, hsz]
    exact Great.fill_flat _ _ (fun v hv => by obtain ⟨n, _, rfl⟩ := List.mem_map.1 hv; rfl) (by simp [h2]))
  simp only [Sem.run_bind, hrun, Result.andThen_ok, Sem.run_pure]
  refine .value ?_ ⟨two_of b (only_alloc (only_refl _ _) _), ⟨p, by omega, hr.alloc _⟩, hb.alloc (Nat.le_trans hN hb.size) _, hX _ _ hx (only_alloc (only_refl _ _) _)⟩
  rw [hi2]
  exact ⟨_, _, zs, rfl, hm w hx hgs, Blk.new _ _ _, h2, h3⟩
theorem step_eqC (t : Tmp) (c lo hi : Int) (ho : o.op = .binOp .eql 3 (.tmp t) (.const (.int .i64 c)) 3) (hd : depB ops o t = true) (hj : T (depJ ops o t) = TInt lo hi) (hi2 : T i = TBool) : Step ops A T g b X p0 N w1 i o := by
  intro k a w hk hB hkeep hdep
  have h1 := dep_get hd hdep
  rw [hj] at h1
  obtain ⟨x, hx, x0, x1⟩ := h1
  rw [op_bin _ _ _ _ _ ho]
  have e1 : a.eval (.tmp t) = .int .i64 x := hx
  have e2 : a.eval (.const (.int .i64 c)) = .int .i64 c := rfl
  rw [e1, e2]
  simp [go_sem]
  refine .value ?_ ⟨two_refl _, hB.more⟩
  rw [hi2]
  exact ⟨_, rfl⟩
theorem step_moveI (t : Tmp) (x lo hi : Int) (ho : o.op = .move (.tmp t)) (hi2 : T i = TInt lo hi) (ht : (dstsOf' ops).contains t = false) (hA : A.getD t undef = .int .i64 x) (hx : lo ≤ x ∧ x ≤ hi) : Step ops A T g b X p0 N w1 i o := by
  intro k a w hk hB hkeep hdep
  rw [op_move (.tmp t) ho]
  refine .value ?_ ⟨two_refl _, hB.more⟩
  rw [hi2]
  exact ⟨x, (hkeep t ht).trans hA, hx.1, hx.2⟩
def ElOk (ops : List Oper) (o : Oper) (T : Nat → Value → World → Prop) (lo hi : Int) (x : Operand) : Prop :=
  (∃ z, x = .const (.int .i64 z) ∧ lo ≤ z ∧ z ≤ hi) ∨ (∃ t lo' hi', x = .tmp t ∧ depB ops o t = true ∧ T (depJ ops o t) = TInt lo' hi' ∧ lo ≤ lo' ∧ hi' ≤ hi)
def Els (ops : List Oper) (o : Oper) (T : Nat → Value → World → Prop) (lo hi : Int) : List Operand → Prop
  | [] => True
  | x :: r => ElOk ops o T lo hi x ∧ Els ops o T lo hi r
theorem els_get {lo hi : Int} {a : Act} {w : World} (hdep : ∀ e ∈ o.after, Region.binds .any e = true → ∀ o', ops[e.on]? = some o' → T e.on (valOf a o') w) :
    ∀ xs, Els ops o T lo hi xs → ∃ zs, xs.map a.eval = List.map (Value.int .i64) zs ∧ ∀ z ∈ zs, lo ≤ z ∧ z ≤ hi := by
  intro xs
  induction xs with
  | nil => intro _; exact ⟨[], rfl, fun z hz => by cases hz⟩
  | cons x r ih =>
    intro h
    obtain ⟨zs, h1, h2⟩ := ih h.2
    have hx : ∃ z, a.eval x = .int .i64 z ∧ lo ≤ z ∧ z ≤ hi := by
      rcases h.1 with ⟨z, rfl, hz⟩ | ⟨t, lo', hi', rfl, hd, hj, h3, h4⟩
      · exact ⟨z, rfl, hz⟩
      · have h5 := dep_get hd hdep
        rw [hj] at h5
        obtain ⟨z, hz, z0, z1⟩ := h5
        exact ⟨z, hz, by omega, by omega⟩
    obtain ⟨z, hz, hz2⟩ := hx
    refine ⟨z :: zs, by simp [hz, h1], fun y hy => ?_⟩
    rcases List.mem_cons.1 hy with rfl | hy
    · exact hz2
    · exact h2 y hy
theorem step_list (n : Nat) (ps : Array (Nat × Operand)) (lo hi : Int) (ho : o.op = .buildSlice 60 n ps) (hxs : ps.toList = ((ps.toList.map Prod.snd).zipIdx 0).map fun x => (x.2, x.1)) (hlen : ps.toList.length = n) (hi2 : T i = TRow m n lo hi) (hn : 0 < n ∧ n ≤ 1000)
    (hN : N ≤ w1.heap.size) (hX : ∀ w w', X w → w.grownBy w' (some g) → X w') (hm : ∀ w, X w → g < w.heap.size → m < w.heap.size) (hels : Els ops o T lo hi (ps.toList.map Prod.snd)) : Step ops A T g b X p0 N w1 i o := by
  refine step_build n ps lo hi ho hi2 hn hN hX hm (fun a w hdep => ?_)
  obtain ⟨zs, h1, h2⟩ := els_get hdep _ hels
  refine ⟨zs, ?_, ?_, h2⟩
  · rw [← h1, Array.toList_map, List.zipIdx_map, List.map_map]
    conv => lhs; rw [hxs]
    rw [List.map_map]
    rfl
  · have := congrArg List.length h1
    simp at this hlen
    omega
def Steps (ops : List Oper) (A : Array Value) (T : Nat → Value → World → Prop) (g b : Nat) (X : World → Prop) (p0 N : Nat) (w1 : World) : List Oper → Nat → Prop
  | [], _ => True
  | o :: r, i => Step ops A T g b X p0 N w1 i o ∧ Steps ops A T g b X p0 N w1 r (i + 1)
theorem steps_get (l : List Oper) : ∀ s, Steps ops A T g b X p0 N w1 l s → ∀ i o, l[i]? = some o → Step ops A T g b X p0 N w1 (s + i) o := by
  induction l with
  | nil => intro s _ i o h; simp at h
  | cons x r ih =>
    intro s h i o ho
    cases i with
    | zero => simp at ho; subst ho; exact h.1
    | succ i =>
      have := ih (s + 1) h.2 i o (by simpa using ho)
      rwa [show s + (i + 1) = s + 1 + i by omega]
def KeepAll (g b : Nat) : List (Value → World → Prop) → Prop
  | [] => True
  | P :: r => Keeps g b P ∧ KeepAll g b r
theorem keep_get {g b : Nat} : ∀ (Ts : List (Value → World → Prop)), KeepAll g b Ts → ∀ i, Keeps g b (Ts.getD i fun _ _ => True) := by
  intro Ts
  induction Ts with
  | nil => intro _ i v w w' _ _; simp
  | cons P r ih =>
    intro h i
    cases i with
    | zero => exact h.1
    | succ i => simpa using ih h.2 i
end
def TAny (v : Value) (w : World) : Prop := True
theorem keeps_any {g b : Nat} : Keeps g b TAny := fun _ _ _ h _ => h
theorem wp_draw2 {id : Nat} {A : Array Value} {ds : List Deferred} {Q : Exit → Act → World → Prop} {ops : List Oper} (Ts : List (Value → World → Prop)) (g b m : Nat) (X : World → Prop) (p0 N : Nat) (w : World)
    (hok : backB ops A.size = true) (hdst : ops.dropLast.all (fun o => o.dst.isSome) = true) (hlast : (Ts.getD (ops.length - 1) fun _ _ => True) undef = fun _ => True) (hr : RdS w g p0) (hN : N ≤ w.heap.size) (hk : KeepAll g b Ts)
    (h0 : X w) (hX : ∀ w w', X w → w.grownBy w' (some g) → X w') (hm : ∀ w, X w → g < w.heap.size → m < w.heap.size)
    (hsteps : N ≤ w.heap.size → Steps ops A (fun i => Ts.getD i fun _ _ => True) g b X p0 N w ops 0)
    (hend : ∀ (vs : Nat → Value) (w' : World) (q : Nat), q ≤ p0 + ops.length → RdS w' g q → Below N w w' → X w' → (∀ i o, ops[i]? = some o → (Ts.getD i fun _ _ => True) (vs i) w') → Q .normal ⟨endTmps ops 0 vs A, ds⟩ w') :
    (Code.region id ops.toArray true).wp Try.prog Q ⟨A, ds⟩ w := by
  refine wp_region_inv (fun i => Ts.getD i fun _ _ => True) (TB g X p0 N w) (TR g b) (by kernel_rfl) hok (fun i v w w' h1 h2 => keep_get Ts hk i v w w' h1 h2) (fun i o ho hd v w _ => ?_) ⟨⟨p0, by omega, hr⟩, (Below.refl _ _).drew, hX _ _ h0 (only_drew (only_refl _ _))⟩ (fun i o ho => by simpa using steps_get ops 0 (hsteps hN) i o ho) (fun vs w' k hk hB hT => ?_)
  · have hi := (List.getElem?_eq_some_iff.1 ho).1
    by_cases hl : i = ops.length - 1
    · subst hl
      show (Ts.getD (ops.length - 1) fun _ _ => True) undef w
      rw [hlast]
      trivial
    · have hmem : o ∈ ops.dropLast := by
        refine List.mem_of_getElem? (i := i) ?_
        rw [List.getElem?_dropLast, if_pos (by omega)]
        exact ho
      have := List.all_eq_true.1 hdst o hmem
      rw [hd] at this
      cases this
  · obtain ⟨⟨q, hq, hr'⟩, hb, hx⟩ := hB
    exact hend vs w' q (by omega) hr' hb hx hT
theorem wp_draw {id : Nat} {A : Array Value} {ds : List Deferred} {Q : Exit → Act → World → Prop} {ops : List Oper} (Ts : List (Value → World → Prop)) (g p0 N : Nat) (w : World)
    (hok : backB ops A.size = true) (hdst : ops.all (fun o => o.dst.isSome) = true) (hr : RdS w g p0) (hN : N ≤ w.heap.size) (hk : KeepAll g g Ts)
    (hsteps : N ≤ w.heap.size → (∀ w w' : World, True → w.grownBy w' (some g) → True) → (∀ w : World, True → g < w.heap.size → g < w.heap.size) → Steps ops A (fun i => Ts.getD i fun _ _ => True) g g (fun _ => True) p0 N w ops 0)
    (hend : ∀ (vs : Nat → Value) (w' : World) (q : Nat), q ≤ p0 + ops.length → RdS w' g q → Below N w w' → (∀ i o, ops[i]? = some o → (Ts.getD i fun _ _ => True) (vs i) w') → Q .normal ⟨endTmps ops 0 vs A, ds⟩ w') :
    (Code.region id ops.toArray true).wp Try.prog Q ⟨A, ds⟩ w := by
  refine wp_region_inv (fun i => Ts.getD i fun _ _ => True) (TB g (fun _ => True) p0 N w) (TR g g) (by kernel_rfl) hok (fun i v w w' h1 h2 => keep_get Ts hk i v w w' h1 h2) (fun i o ho hd => ?_) ⟨⟨p0, by omega, hr⟩, (Below.refl _ _).drew, trivial⟩ (fun i o ho => by simpa using steps_get ops 0 (hsteps hN (fun _ _ _ _ => trivial) (fun _ _ h => h)) i o ho) (fun vs w' k hk hB hT => ?_)
  · have := List.all_eq_true.1 hdst o (List.mem_of_getElem? ho)
    rw [hd] at this
    cases this
  · obtain ⟨⟨q, hq, hr'⟩, hb, hx⟩ := hB
    exact hend vs w' q (by omega) hr' hb hT
end Go.Proofs.Ytocaonlmlafjmaa

/- The operations of a draw's region, each by what it needs and what it leaves, over the second invariant; a list that grows by one drawn element. No condition but those stated. -/
namespace Go.Proofs.Ytocaonlmlafjmaa
open Go.RowKit
set_option linter.unusedVariables false
set_option linter.unusedSimpArgs false
set_option maxRecDepth 100000

/-- Below block N all but block g is as it was. -/
structure Outer (N g : Nat) (w w' : World) : Prop where
  os : w'.os = w.os
  tape : w'.tape = w.tape
  output : w'.output = w.output
  size : w.heap.size ≤ w'.heap.size
  block : ∀ k, k < N → k ≠ g → w'.heap[k]? = w.heap[k]?
theorem Outer.refl (N g : Nat) (w : World) : Outer N g w w := ⟨rfl, rfl, rfl, Nat.le_refl _, fun _ _ _ => rfl⟩
theorem Outer.trans {N g : Nat} {a b c : World} (h : Outer N g a b) (k : Outer N g b c) : Outer N g a c :=
  ⟨k.os.trans h.os, k.tape.trans h.tape, k.output.trans h.output, Nat.le_trans h.size k.size, fun j h1 h2 => (k.block j h1 h2).trans (h.block j h1 h2)⟩
theorem Outer.grown {N g : Nat} {w w' : World} (h : w.grownBy w' (some g)) (hN : N ≤ w.heap.size) : Outer N g w w' :=
  ⟨h.os, h.tape, h.output, h.size, fun k h1 h2 => h.block k (Nat.lt_of_lt_of_le h1 hN) (fun e => h2 (Option.some.inj e))⟩
theorem Outer.row {N g : Nat} {w w' : World} {rb : Option Nat} (h : w.grownBy w' rb) (hN : N ≤ w.heap.size) (hr : ∀ b, rb = some b → N ≤ b) : Outer N g w w' :=
  ⟨h.os, h.tape, h.output, h.size, fun k h1 h2 => h.block k (Nat.lt_of_lt_of_le h1 hN) (fun e => by have := hr k e.symm; omega)⟩
theorem Outer.drew {N g : Nat} (w : World) : Outer N g w w.drew := ⟨rfl, rfl, rfl, Nat.le_refl _, fun _ _ _ => rfl⟩
theorem Outer.to_grown {g : Nat} {w w' : World} (h : Outer w.heap.size g w w') : w.grownBy w' (some g) :=
  ⟨h.os, h.tape, h.output, h.size, fun k h1 h2 => h.block k h1 (fun e => h2 (by rw [e]))⟩
theorem Outer.below {N g : Nat} {w w' : World} (h : Outer N g w w') (hg : N ≤ g) : Below N w w' := ⟨h.os, h.tape, h.output, h.size, fun k hk => h.block k hk (by omega)⟩
theorem Outer.mono {N M g : Nat} {w w' : World} (h : Outer N g w w') (hM : M ≤ N) : Outer M g w w' := ⟨h.os, h.tape, h.output, h.size, fun k hk => h.block k (by omega)⟩
theorem only_alloc' (w : World) (o : Obj) (g : Nat) : w.grownBy (w.alloc o) (some g) := only_alloc (only_refl _ _) o

def SB (g : Nat) (X : Bool → World → Prop) (p0 D N : Nat) (w1 : World) (k : Nat) (b : Bool) (w : World) : Prop := (∃ p, p ≤ p0 + D * k ∧ RdS w g p) ∧ Outer N g w1 w ∧ X b w
def SR (g ja : Nat) (rb : Option Nat) (j : Nat) (w w' : World) : Prop := if j = ja then w.grownBy w' rb else w.grownBy w' (some g)
theorem SR.of {g ja : Nat} {rb : Option Nat} {j : Nat} {w w' : World} (hj : j ≠ ja) (h : w.grownBy w' (some g)) : SR g ja rb j w w' := by
  unfold SR; rw [if_neg hj]; exact h
theorem SR.at_ {g ja : Nat} {rb : Option Nat} {w w' : World} (h : w.grownBy w' rb) : SR g ja rb ja w w' := by
  unfold SR; rw [if_pos rfl]; exact h
theorem or_ne {b : Bool} {i ja : Nat} (h : i ≠ ja) : (b || i == ja) = b := by
  have : (i == ja) = false := by simpa using h
  rw [this, Bool.or_false]
def HX (g : Nat) (X : Bool → World → Prop) : Prop := ∀ b w w', X b w → w.grownBy w' (some g) → X b w'
def XT (b : Bool) (w : World) : Prop := True
theorem HX.true_ {g : Nat} : HX g XT := fun _ _ _ _ _ => trivial

section
variable {ops : List Oper} {A : Array Value} {T : Nat → Value → World → Prop} {g p0 D N ja : Nat} {rb : Option Nat} {X : Bool → World → Prop} {w1 : World} {i : Nat} {o : Oper}
abbrev Step2 (ops : List Oper) (A : Array Value) (T : Nat → Value → World → Prop) (g : Nat) (X : Bool → World → Prop) (p0 D N ja : Nat) (rb : Option Nat) (w1 : World) (i : Nat) (o : Oper) : Prop :=
  StepOk2 Try.prog ops A T ja (SB g X p0 D N w1) (SR g ja rb) i o
abbrev Deps (ops : List Oper) (T : Nat → Value → World → Prop) (o : Oper) (a : Act) (w : World) : Prop := ∀ e ∈ o.after, Region.binds .any e = true → ∀ o', ops[e.on]? = some o' → T e.on (valOf a o') w
abbrev Keep2 (ops : List Oper) (A : Array Value) (i : Nat) (a : Act) : Prop := ∀ t, keepB ops i t = true → a.tmps.getD t undef = A.getD t undef
/-- What every step of a region that draws is told of it. -/
structure Ctx (g : Nat) (X : Bool → World → Prop) (N : Nat) (w1 : World) : Prop where
  hx : HX g X
  hn : N ≤ w1.heap.size
  hg : g < w1.heap.size

theorem st_pure (hj : i ≠ ja) (h : ∀ a w, w1.heap.size ≤ w.heap.size → Keep2 ops A i a → Deps ops T o a w → ∃ v, (execOp a.eval o).run Try.prog w = .ok (.value v) w ∧ T i v w) : Step2 ops A T g X p0 D N ja rb w1 i o := by
  intro k b a w hk hB hb hkeep hdep
  obtain ⟨v, hr, hT⟩ := h a w hB.2.1.size hkeep hdep
  rw [hr]
  obtain ⟨⟨p, hp, hrd⟩, ho, hx⟩ := hB
  refine .value hT ⟨SR.of hj (only_refl _ _), ⟨p, by rw [Nat.mul_add]; omega, hrd⟩, ho, ?_⟩
  rw [or_ne hj]; exact hx
theorem st_alloc (c : Ctx g X N w1) (hj : i ≠ ja) (h : ∀ a w, w1.heap.size ≤ w.heap.size → Keep2 ops A i a → Deps ops T o a w → ∃ v ob, (execOp a.eval o).run Try.prog w = .ok (.value v) (w.alloc ob) ∧ T i v (w.alloc ob)) : Step2 ops A T g X p0 D N ja rb w1 i o := by
  intro k b a w hk hB hb hkeep hdep
  obtain ⟨v, ob, hr, hT⟩ := h a w hB.2.1.size hkeep hdep
  rw [hr]
  obtain ⟨⟨p, hp, hrd⟩, ho, hx⟩ := hB
  have hg := only_alloc' w ob g
  refine .value hT ⟨SR.of hj hg, ⟨p, by rw [Nat.mul_add]; omega, hrd.alloc ob⟩, ho.trans (Outer.grown hg (Nat.le_trans c.hn ho.size)), ?_⟩
  rw [or_ne hj]; exact c.hx _ _ _ hx hg

/-- What a draw leaves. -/
def DrawP (g p D : Nat) (R : Value → World → Prop) (w : World) (e : Ending) (w' : World) : Prop := ∃ v q, e = .returned v ∧ R v w' ∧ q ≤ p + D ∧ RdS w' g q ∧ w.grownBy w' (some g)
/-- A function that draws: whatever the world, from a reader not too far on. -/
def Draws (f : FuncId) (g : Nat) (more : List Value) (M D N : Nat) (R : Value → World → Prop) : Prop :=
  ∀ (w : World) (p : Nat), RdS w g p → p ≤ M → N ≤ w.heap.size → Calls Try.prog f (.pointer (some ⟨g, 0, none⟩) :: more).toArray w (DrawP g p D R w)
theorem Draws.mono {f : FuncId} {g M D N M' D' N' : Nat} {more : List Value} {R R' : Value → World → Prop} (h : Draws f g more M D N R) (hM : M' ≤ M) (hD : D ≤ D') (hN : N ≤ N') (hR : ∀ v w, R v w → R' v w) : Draws f g more M' D' N' R' := by
  intro w p h1 h2 h3
  refine (h w p h1 (by omega) (by omega)).mono ?_
  rintro e w' ⟨v, q, he, hv, hq, hr, hg⟩
  exact ⟨v, q, he, hR _ _ hv, by omega, hr, hg⟩

/-- A call of f enters its body. -/
def Enters (f : FuncId) : Prop := ∀ (args : Array Value) (w : World), (callFunc f args).run Try.prog w = .ok (.enter f args) w
theorem enters_of {f : FuncId} (h : ((Try.prog).funcs[f]?).map (fun fn => (fn.name == "runtime.NumGoroutine") || fn.body.isNone) = some false) : Enters f := by
  intro args w
  cases hf : (Try.prog).funcs[f]? with
  | none => rw [hf] at h; cases h
  | some fn =>
    rw [hf] at h
    simp only [Option.map_some, Option.some.injEq, Bool.or_eq_false_iff] at h
    cases hb : fn.body with
    | none => rw [hb] at h; cases h.2
    | some c =>
      have h1 : fn.name ≠ "runtime.NumGoroutine" := by simpa using h.1
      simp [callFunc, hf, h1, hb]
theorem st_enter {f : FuncId} {R : Value → World → Prop} (c : Ctx g X N w1) (hj : i ≠ ja) (hen : Enters f) (hR : ∀ v w, R v w → T i v w)
    (h : ∀ a w, Keep2 ops A i a → Deps ops T o a w → ∃ more, execOp a.eval o = callFunc f (.pointer (some ⟨g, 0, none⟩) :: more).toArray ∧ Draws f g more (p0 + D * ops.length) D w1.heap.size R) : Step2 ops A T g X p0 D N ja rb w1 i o := by
  intro k b a w hk hB hb hkeep hdep
  obtain ⟨⟨p, hp, hrd⟩, ho, hx⟩ := hB
  obtain ⟨more, he, hf⟩ := h a w hkeep hdep
  rw [he, hen]
  refine .enter ?_
  have hle : D * k ≤ D * ops.length := Nat.mul_le_mul_left D (by omega)
  refine (hf w p hrd (by omega) ho.size).mono ?_
  rintro e w' ⟨v, q, rfl, hv, hq, hr', hg⟩
  refine ⟨v, rfl, hR _ _ hv, SR.of hj hg, ⟨q, by rw [Nat.mul_add]; omega, hr'⟩, ho.trans (Outer.grown hg (Nat.le_trans c.hn ho.size)), ?_⟩
  rw [or_ne hj]; exact c.hx _ _ _ hx hg
/-- A draw with one more argument, a constant. -/
theorem st_draw (f : FuncId) (t : Tmp) (cv : Value) (ats : Array TypeId) {R : Value → World → Prop} (ho : o.op = .call { callee := .value (.func f), args := #[.tmp t, .const cv], argTypes := ats }) (hd : depB ops o t = true) (hj : T (depJ ops o t) = TPtr g)
    (c : Ctx g X N w1) (hja : i ≠ ja) (hen : Enters f) (hf : Draws f g [cv] (p0 + D * ops.length) D w1.heap.size R) (hR : T i = R) : Step2 ops A T g X p0 D N ja rb w1 i o := by
  refine st_enter c hja hen (fun v w h => hR ▸ h) fun a w hk hdep => ⟨[cv], ?_, hf⟩
  have h1 := dep_get hd hdep
  rw [hj] at h1
  unfold TPtr at h1
  rw [op_call _ _ _ ho]
  simp [Act.eval, ← h1]
/-- A draw with no other argument. -/
theorem st_draw1 (f : FuncId) (t : Tmp) (ats : Array TypeId) {R : Value → World → Prop} (ho : o.op = .call { callee := .value (.func f), args := #[.tmp t], argTypes := ats }) (hd : depB ops o t = true) (hj : T (depJ ops o t) = TPtr g)
    (c : Ctx g X N w1) (hja : i ≠ ja) (hen : Enters f) (hf : Draws f g [] (p0 + D * ops.length) D w1.heap.size R) (hR : T i = R) : Step2 ops A T g X p0 D N ja rb w1 i o := by
  refine st_enter c hja hen (fun v w h => hR ▸ h) fun a w hk hdep => ⟨[], ?_, hf⟩
  have h1 := dep_get hd hdep
  rw [hj] at h1
  unfold TPtr at h1
  rw [op_call _ _ _ ho]
  simp [Act.eval, ← h1]
theorem pick_draws (g M N : Nat) (m : Int) (hm : 1 ≤ m ∧ m ≤ 1000000000) (hM : M ≤ 1000000) : Draws 80 g [.int .i64 m] M 1 N (TInt 0 (m - 1)) := by
  intro w p h1 h2 h3
  refine (pick_any g p m w h1 (by omega) hm.2).mono ?_
  rintro e w' ⟨y, rfl, x0, x1, hr', hg⟩
  exact ⟨_, _, rfl, ⟨y, rfl, x0, by omega⟩, Nat.le_refl _, hr', hg⟩
theorem st_move (t : Tmp) (hj : i ≠ ja) (ho : o.op = .move (.tmp t)) (hk : keepB ops i t = true) (hT : ∀ w, w1.heap.size ≤ w.heap.size → T i (A.getD t undef) w) : Step2 ops A T g X p0 D N ja rb w1 i o := by
  refine st_pure hj fun a w hs hkeep hdep => ⟨A.getD t undef, ?_, hT w hs⟩
  rw [op_move (.tmp t) ho]
  show (pure (Next.value (a.tmps.getD t undef)) : Sem Next).run Try.prog w = _
  rw [hkeep t hk]
  rfl
theorem st_assign (t : Tmp) (hj : i ≠ ja) (ho : o.op = .assign (.tmp t)) (hd : depB ops o t = true) (hi : T (depJ ops o t) = T i) : Step2 ops A T g X p0 D N ja rb w1 i o := by
  refine st_pure hj fun a w hs hkeep hdep => ⟨a.tmps.getD t undef, ?_, ?_⟩
  · rw [op_assign (.tmp t) ho]; rfl
  · have := dep_get hd hdep
    rw [hi] at this
    exact this
end

/-! ### an element of a row, whatever its kind -/
structure EK {α : Type} (t e : TypeId) (size bytes : Nat) (C : α → List Value) (V : α → Value) : Prop where
  ht : (Try.prog).underlying t = some (.slice e)
  info : ∃ i z, (Try.prog).info? e = some i ∧ i.zero = some z ∧ i.size = size ∧ i.bytes = bytes ∧ z.cells.size = size
  pos : 0 < size ∧ size ≤ 100 ∧ bytes ≤ 1000
  len : ∀ x, (C x).length = size
  one : ∀ x, ∀ u ∈ C x, u.oneCell' = true
  cells : ∀ x, (V x).cells = (C x).toArray
theorem info_of {e : TypeId} {z : Value} {size bytes : Nat} (h : (Try.prog.info? e).map (fun i => (i.zero, i.size, i.bytes)) = some (some z, size, bytes)) (hz : z.cells.size = size) :
    ∃ i z, (Try.prog).info? e = some i ∧ i.zero = some z ∧ i.size = size ∧ i.bytes = bytes ∧ z.cells.size = size := by
  obtain ⟨i0, hi, hz0, hz1, hz2⟩ := info_parts h
  exact ⟨i0, z, hi, hz0, hz1, hz2, hz⟩
theorem run_build1 {α : Type} {t e : TypeId} {size bytes : Nat} {C : α → List Value} {V : α → Value} (ek : EK t e size bytes C V) (x : α) (w : World) :
    (Instr.buildSlice t 1 #[(0, V x)]).run Try.prog w = .ok (.slice (some ⟨w.heap.size, 0, none⟩) 1 1) (w.alloc (.cells (C x).toArray e)) := by
  obtain ⟨i, z, hi, hz, hs, hby, hzs⟩ := ek.info
  obtain ⟨p1, p2, p3⟩ := ek.pos
  have := Great.fill_whole (s := size) p1 [V x] ((Array.range (1 * size)).map (z.cells[· % z.cells.size]!)) (fun v hv => by
    simp at hv; subst hv; rw [ek.cells]; simp [ek.len]) (by simp)
  refine run_buildSlice w t e 1 _ _ i z ek.ht hi hz (by rw [hs]; omega) (by rw [hs]; omega) ?_
  rw [hs]
  refine this.trans ?_
  simp [ek.cells]

def TOne {α : Type} (C : α → List Value) (e : TypeId) (ok : α → Prop) (H : Nat) (v : Value) (w : World) : Prop := ∃ x b, v = .slice (some ⟨b, 0, none⟩) 1 1 ∧ ok x ∧ H ≤ b ∧ Blk w b e (C x).toArray
def TEl {α : Type} (V : α → Value) (ok : α → Prop) (v : Value) (w : World) : Prop := ∃ x, v = V x ∧ ok x
def TGrown {α : Type} (C : α → List Value) (e : TypeId) (size N n : Nat) (xs : List Value) (ok : α → Prop) (v : Value) (w : World) : Prop := ∃ x, ok x ∧ w.ownsRow N e size v (n + 1) (xs ++ C x)
def TIs (x : Value) (v : Value) (w : World) : Prop := v = x
def XApp (N : Nat) (e : TypeId) (size : Nat) (v : Value) (n : Nat) (xs : List Value) (b : Bool) (w : World) : Prop := b = false → w.ownsRow N e size v n xs
def TApp {α : Type} (vOut : Value) (g : Nat) (V : α → Value) (ok : α → Prop) (C : α → List Value) (e : TypeId) (H size N n : Nat) (xs : List Value) (i : Nat) : Value → World → Prop :=
  ([TIs vOut, TPtr g, TEl V ok, TOne C e ok H, TGrown C e size N n xs ok, TGrown C e size N n xs ok] : List (Value → World → Prop)).getD i fun _ _ => True
def appB (o0 o1 o2 o3 o4 o5 : Oper) (tOut tR s0 s1 s2 s3 s4 : Tmp) (n : Nat) : Bool :=
  let ops := [o0, o1, o2, o3, o4, o5]
  backB ops n && ops.all (fun o => o.dst.isSome) && keepB ops 0 tOut && keepB ops 1 tR && depB ops o2 s1 && (depJ ops o2 s1 == 1) && depB ops o3 s2 && (depJ ops o3 s2 == 2) && depB ops o4 s0 && (depJ ops o4 s0 == 0) && depB ops o4 s3 && (depJ ops o4 s3 == 3) && depB ops o5 s4 && (depJ ops o5 s4 == 4) && ancB ops 4 6 5
theorem op_append {a : Act} {o : Oper} (s x : Operand) (t : TypeId) (ho : o.op = .call { callee := .builtin .append, args := #[s, x], argTypes := #[t, t] }) (w : World) (r : Value) (w' : World)
    (hr : (Builtin.append_ #[t, t] o.type #[a.eval s, a.eval x]).run Try.prog w = .ok r w') : (execOp a.eval o).run Try.prog w = .ok (.value r) w' := by
  unfold execOp
  simp only [ho, resolve, invoke, builtin, Sem.run_bind, Sem.run_pure, Result.andThen_ok, List.map_toArray, List.map_cons, List.map_nil, hr]
/-- 'out = append(out, f(r, c))', f a draw. -/
theorem wp_drawApp {α : Type} {t e : TypeId} {size bytes : Nat} {C : α → List Value} {V : α → Value} (ek : EK t e size bytes C V) (ok : α → Prop) {id : Nat} {A : Array Value} {ds : List Deferred} {Q : Exit → Act → World → Prop} {o0 o1 o2 o3 o4 o5 : Oper}
    (tOut tR s0 s1 s2 s3 s4 : Tmp) (f : FuncId) (cv : Value) (ats : Array TypeId) (g p0 D N n : Nat) (xs : List Value) (vOut : Value) (w : World)
    (h0 : o0.op = .move (.tmp tOut)) (h1 : o1.op = .move (.tmp tR)) (h2 : o2.op = .call { callee := .value (.func f), args := #[.tmp s1, .const cv], argTypes := ats }) (h3 : o3.op = .buildSlice t 1 #[(0, .tmp s2)])
    (h4 : o4.op = .call { callee := .builtin .append, args := #[.tmp s0, .tmp s3], argTypes := #[t, t] }) (h5 : o5.op = .assign (.tmp s4))
    (hB : appB o0 o1 o2 o3 o4 o5 tOut tR s0 s1 s2 s3 s4 A.size = true) (hA0 : A.getD tOut undef = vOut) (hA1 : A.getD tR undef = .pointer (some ⟨g, 0, none⟩)) (hen : Enters f)
    (hf : Draws f g [cv] (p0 + D * 6) D w.heap.size (TEl V ok)) (hr : RdS w g p0) (hN : N ≤ w.heap.size) (hg : g < N) (hown : w.ownsRow N e size vOut n xs) (hn : n ≤ 1000000)
    (hend : ∀ (vs : Nat → Value) (w' : World) (q : Nat) (v : Value) (x : α), vs 5 = v → q ≤ p0 + D * 6 → RdS w' g q → Outer N g w w' → ok x → w'.ownsRow N e size v (n + 1) (xs ++ C x) → Q .normal ⟨endTmps [o0, o1, o2, o3, o4, o5] 0 vs A, ds⟩ w') :
    (Code.region id (List.toArray [o0, o1, o2, o3, o4, o5]) true).wp Try.prog Q ⟨A, ds⟩ w := by
  simp only [appB, Bool.and_eq_true, beq_iff_eq] at hB
  obtain ⟨⟨⟨⟨⟨⟨⟨⟨⟨⟨⟨⟨⟨⟨b1, b2⟩, b3⟩, b4⟩, b5⟩, b6⟩, b7⟩, b8⟩, b9⟩, b10⟩, b11⟩, b12⟩, b13⟩, b14⟩, b15⟩ := hB
  have hrb : ∀ k, vOut.ownBlock = some k → N ≤ k ∧ k < w.heap.size := fun k hk => hown.lt k hk
  have hx : HX g (XApp N e size vOut n xs) := fun b u u' hxx hgg hb => own_keep (hxx hb) fun k hk => hgg.block k ((hxx hb).lt k hk).2 (fun e => by have := (hrb k hk).1; injection e with e; omega)
  have c : Ctx g (XApp N e size vOut n xs) N w := ⟨hx, hN, by omega⟩
  refine wp_region_inv2 (TApp vOut g V ok C e w.heap.size size N n xs) 4 (SB g (XApp N e size vOut n xs) p0 D N w) (SR g 4 vOut.ownBlock) (by kernel_rfl) b1 ?_ ?_ ⟨⟨p0, by omega, (show RdS w.drew g p0 from hr)⟩, Outer.drew w, fun _ => own_below hown ⟨rfl, rfl, rfl, Nat.le_refl _, fun _ _ => rfl⟩⟩ ?_ ?_
  · intro i j v u u' hij han hT hR
    have gone : ∀ {H : Nat} {z : Value}, TOne C e ok w.heap.size z u → TOne C e ok w.heap.size z u' := by
      rintro _ z ⟨x, b, rfl, hx1, hx2, hx3⟩
      refine ⟨x, b, rfl, hx1, hx2, ?_⟩
      unfold SR at hR
      split at hR
      · exact hx3.grown hR (fun e => by have := hrb b e.symm; omega)
      · exact hx3.grown hR (fun e => by injection e with e; omega)
    have ggr : j ≠ 4 → ∀ {z : Value}, TGrown C e size N n xs ok z u → TGrown C e size N n xs ok z u' := by
      rintro hj z ⟨x, hx1, hx2⟩
      refine ⟨x, hx1, own_keep hx2 fun k hk => ?_⟩
      unfold SR at hR
      rw [if_neg hj] at hR
      exact hR.block k (hx2.lt k hk).2 (fun e => by have := (hx2.lt k hk).1; injection e with e; omega)
    match i, hT with
    | 0, hT => exact hT
    | 1, hT => exact hT
    | 2, hT => exact hT
    | 3, hT => exact gone (H := 0) hT
    | 4, hT => exact ggr (fun e => hij e.symm) hT
    | 5, hT => exact ggr (fun e => by subst e; have h9 : ancB [o0, o1, o2, o3, o4, o5] 4 6 5 = false := han; rw [b15] at h9; cases h9) hT
    | (i + 6), _ => trivial
  · intro i o ho hd
    have := List.all_eq_true.1 b2 o (List.mem_of_getElem? ho)
    rw [hd] at this
    cases this
  · intro i o ho
    match i, ho with
    | 0, ho =>
      simp at ho; subst ho
      exact st_move tOut (by omega) h0 b3 (fun u _ => hA0)
    | 1, ho =>
      simp at ho; subst ho
      exact st_move tR (by omega) h1 b4 (fun u _ => hA1)
    | 2, ho =>
      simp at ho; subst ho
      exact st_draw f s1 cv ats h2 b5 (by rw [b6]; rfl) c (by omega) hen hf rfl
    | 3, ho =>
      simp at ho; subst ho
      refine st_alloc c (by omega) fun a u hs hk hdep => ?_
      have h9 := dep_get (ops := [o0, o1, o2, o3, o4, o5]) (T := TApp vOut g V ok C e w.heap.size size N n xs) b7 hdep
      rw [b8] at h9
      obtain ⟨x, hx1, hx2⟩ := h9
      refine ⟨.slice (some ⟨u.heap.size, 0, none⟩) 1 1, .cells (C x).toArray e, ?_, x, u.heap.size, rfl, hx2, hs, Blk.new _ _ _⟩
      rw [op_build _ _ _ h3]
      have e1 : a.eval (.tmp s2) = V x := hx1
      simp only [List.map_toArray, List.map_cons, List.map_nil, e1, Sem.run_bind, run_build1 ek x u, Result.andThen_ok, Sem.run_pure]
    | 4, ho =>
      simp at ho; subst ho
      intro k b a u hk hB hb hkeep hdep
      have hbf := hb rfl
      subst hbf
      have d0 := dep_get (ops := [o0, o1, o2, o3, o4, o5]) (T := TApp vOut g V ok C e w.heap.size size N n xs) b9 hdep
      rw [b10] at d0
      have d3 := dep_get (ops := [o0, o1, o2, o3, o4, o5]) (T := TApp vOut g V ok C e w.heap.size size N n xs) b11 hdep
      rw [b12] at d3
      obtain ⟨x, bb, hy1, hy2, hy3, hy4⟩ := d3
      obtain ⟨⟨p, hp, hrd⟩, ho, hxx⟩ := hB
      obtain ⟨i0, z, hi, hz, hs, hby, hzs⟩ := ek.info
      obtain ⟨p1, p2, p3⟩ := ek.pos
      have hbytes : (n + 1) * bytes ≤ 1000001 * 1000 := Nat.mul_le_mul (by omega) p3
      obtain ⟨g', cap, u', hrun, q1, q2, q3, q4⟩ := run_append_lies (P := Try.prog) u t o4.type N e i0 z size bytes ek.ht hi hz hs hby hzs p1 vOut n xs (hxx rfl) ⟨bb, 0, none⟩ 1 1 (C x) (by rw [ek.len]; omega)
        (World.news_of_block (cs := (C x).toArray) hy4) (ek.one x) (by omega) (by unfold maxLen; omega) (by omega) (Nat.le_trans hN ho.size) _ rfl
      have e0 : a.eval (.tmp s0) = vOut := d0
      have e3 : a.eval (.tmp s3) = .slice (some ⟨bb, 0, none⟩) 1 1 := hy1
      rw [op_append _ _ _ h4 u _ u' (by rw [e0, e3]; exact hrun)]
      have hO := Outer.row (g := g) q2 (Nat.le_trans hN ho.size) (fun k hk => (hrb k hk).1)
      refine .value ⟨x, hy2, q1⟩ ⟨SR.at_ q2, ⟨p, by rw [Nat.mul_add]; omega, ?_⟩, ho.trans hO, fun h => by cases h⟩
      cases hv : vOut.ownBlock with
      | none =>
        rw [hv] at q2
        exact hrd.below (⟨q2.os, q2.tape, q2.output, q2.size, fun k hk => q2.block k hk (by simp)⟩)
      | some k =>
        rw [hv] at q2
        exact hrd.only q2 (by have := (hrb k hv).1; omega)
    | 5, ho =>
      simp at ho; subst ho
      exact st_assign s4 (by omega) h5 b13 (by rw [b14]; rfl)
    | (i + 6), ho => simp at ho
  · intro vs w' k hk ⟨b, ⟨q, hq, hr'⟩, ho, hx'⟩ hT
    obtain ⟨x, hx1, hx2⟩ := hT 5 o5 rfl
    have hle : D * k ≤ D * 6 := Nat.mul_le_mul_left D hk
    exact hend vs w' q _ x rfl (by omega) hr' ho hx1 hx2
end Go.Proofs.Ytocaonlmlafjmaa
