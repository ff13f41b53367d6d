/- A region that draws its order, proved by an invariant: each operation, run when those that it waits for have run, leaves a value of its own kind; no operation disturbs another's value. For whatever program. No condition but those stated. -/
import Derived.Orders
import Derived.Tactics
namespace Go.Proofs.Ytfhhfibjjpiccaa
set_option linter.unusedVariables false
set_option linter.unusedSimpArgs false

/-- What an operation must come to. -/
def Outcome (P : Program) (T : Value → World → Prop) (S : World → Prop) : Result Next → Prop
  | .ok (.value v) w' => T v w' ∧ S w'
  | .ok .skip w' => T undef w' ∧ S w'
  | .ok (.enter f args) w' => Calls P f args w' fun e w'' => ∃ v, e = .returned v ∧ T v w'' ∧ S w''
  | _ => False
theorem Outcome.value {P : Program} {T : Value → World → Prop} {S : World → Prop} {v : Value} {w : World} (h1 : T v w) (h2 : S w) : Outcome P T S (.ok (.value v) w) := ⟨h1, h2⟩
theorem Outcome.skip {P : Program} {T : Value → World → Prop} {S : World → Prop} {w : World} (h1 : T undef w) (h2 : S w) : Outcome P T S (.ok .skip w) := ⟨h1, h2⟩
theorem Outcome.enter {P : Program} {T : Value → World → Prop} {S : World → Prop} {f : FuncId} {args : Array Value} {w : World} (h : Calls P f args w fun e w'' => ∃ v, e = .returned v ∧ T v w'' ∧ S w'') : Outcome P T S (.ok (.enter f args) w) := h

theorem outcome_upon {P : Program} {T : Value → World → Prop} {S : World → Prop} {r : Result Next} {o : Oper} {a : Act} {K : Act → World → Prop} {Q : Exit → Act → World → Prop}
    (h : Outcome P T S r) (hK : ∀ v w', T v w' → S w' → K (a.put o.dst v) w') : o.upon P a K Q r := by
  cases r with
  | halt x w => exact h.elim
  | ok x w =>
    cases x with
    | value v => exact hK v w h.1 h.2
    | skip => exact hK undef w h.1 h.2
    | enter f args =>
      refine Calls.mono h ?_
      rintro e w'' ⟨v, rfl, hT, hS⟩
      exact hK v w'' hT hS
    | _ => exact h.elim

def unl (listed : Array Bool) : Nat → Nat
  | 0 => 0
  | m + 1 => unl listed m + (if listed.getD m true = true then 0 else 1)
theorem unl_past {listed : Array Bool} {i : Nat} (m : Nat) (h : m ≤ i) : unl (listed.setIfInBounds i true) m = unl listed m := by
  induction m with
  | zero => rfl
  | succ m ih => rw [unl, unl, ih (by omega), getD_set_ne true (by omega)]
theorem unl_set {listed : Array Bool} {i : Nat} (hi : listed.getD i true = false) (m : Nat) (h : i < m) : unl (listed.setIfInBounds i true) m + 1 = unl listed m := by
  induction m with
  | zero => omega
  | succ m ih =>
    by_cases e : i = m
    · subst e
      have hlt : i < listed.size := by
        rcases Nat.lt_or_ge i listed.size with h' | h'
        · exact h'
        · simp [Array.getElem?_eq_none h'] at hi
      rw [unl, unl, unl_past i (Nat.le_refl _), hi]
      simp [hlt]
    · rw [unl, unl, ← ih (by omega), getD_set_ne true e]
      omega
theorem unl_zero {listed : Array Bool} (m : Nat) (h : unl listed m = 0) : ∀ i, i < m → listed.getD i true = true := by
  induction m with
  | zero => intro i hi; omega
  | succ m ih =>
    intro i hi
    rw [unl] at h
    by_cases e : i = m
    · subst e
      cases hb : listed.getD i true with
      | true => rfl
      | false => rw [hb] at h; simp at h
    · exact ih (by omega) i (by omega)
theorem unl_start (n m : Nat) (h : m ≤ n) : unl (Array.replicate n false) m = m := by
  induction m with
  | zero => rfl
  | succ m ih =>
    rw [unl, ih (by omega)]
    simp [show m < n by omega]

/-- The slots that a region writes. -/
def dstsOf' (ops : List Oper) : List Tmp := ops.filterMap Oper.dst
def endTmps : List Oper → Nat → (Nat → Value) → Array Value → Array Value
  | [], _, _, A => A
  | o :: rest, i, vs, A => endTmps rest (i + 1) vs (match o.dst with | some d => A.setIfInBounds d (vs i) | none => A)
def valOf (a : Act) (o : Oper) : Value := match o.dst with | some d => a.tmps.getD d undef | none => undef

/-- Edges lead back; no guards; no slot written twice, all within the frame. -/
def backB (ops : List Oper) (n : Nat) : Bool :=
  ((List.range ops.length).all fun i => match ops[i]? with | some o => o.guard.isNone && o.after.all (fun e => !(Region.binds .any e) || decide (e.on < i)) && (match o.dst with | some d => decide (d < n) | none => true) | none => true) && decide (dstsOf' ops).Nodup

structure RegOk (ops : List Oper) (n : Nat) : Prop where
  guard : ∀ (i : Nat) (o : Oper), ops[i]? = some o → o.guard = none
  back : ∀ (i : Nat) (o : Oper), ops[i]? = some o → ∀ e ∈ o.after, Region.binds .any e = true → e.on < i
  size : ∀ (i : Nat) (o : Oper) (d : Nat), ops[i]? = some o → o.dst = some d → d < n
  nodup : (dstsOf' ops).Nodup
theorem regOk {ops : List Oper} {n : Nat} (h : backB ops n = true) : RegOk ops n := by
  simp only [backB, Bool.and_eq_true, decide_eq_true_eq] at h
  have hall : ∀ (i : Nat) (o : Oper), ops[i]? = some o → (o.guard.isNone && o.after.all (fun e => !(Region.binds .any e) || decide (e.on < i)) && (match o.dst with | some d => decide (d < n) | none => true)) = true := by
    intro i o ho
    have := List.all_eq_true.1 h.1 i (List.mem_range.2 (List.getElem?_eq_some_iff.1 ho).1)
    rwa [ho] at this
  refine ⟨fun i o ho => ?_, fun i o ho e he hbd => ?_, fun i o d ho hd => ?_, h.2⟩
  · have := hall i o ho
    simp only [Bool.and_eq_true] at this
    exact Option.isNone_iff_eq_none.1 this.1.1
  · have := hall i o ho
    simp only [Bool.and_eq_true] at this
    have h2 := Array.all_eq_true_iff_forall_mem.1 this.1.2 e he
    simpa [hbd] using h2
  · have := hall i o ho
    simp only [Bool.and_eq_true, hd] at this
    simpa using this.2
theorem dst_apart {ops : List Oper} (h : (dstsOf' ops).Nodup) : ∀ (i j : Nat) (o o' : Oper) (d : Nat), ops[i]? = some o → ops[j]? = some o' → o.dst = some d → o'.dst = some d → i = j := by
  induction ops with
  | nil => intro i j o o' d hi; simp at hi
  | cons x l ih =>
    have hl : (dstsOf' l).Nodup := by
      unfold dstsOf' at h ⊢
      rw [List.filterMap_cons] at h
      split at h
      · exact h
      · exact (List.nodup_cons.1 h).2
    have hx : ∀ d, x.dst = some d → d ∉ dstsOf' l := by
      intro d hd
      unfold dstsOf' at h
      rw [List.filterMap_cons, hd] at h
      exact (List.nodup_cons.1 h).1
    have mem : ∀ (k : Nat) (o : Oper) (d : Nat), l[k]? = some o → o.dst = some d → d ∈ dstsOf' l := fun k o d hk hd => List.mem_filterMap.2 ⟨o, List.mem_of_getElem? hk, hd⟩
    intro i j o o' d hi hj hd hd'
    cases i with
    | zero =>
      cases j with
      | zero => rfl
      | succ j =>
        simp at hi hj
        subst hi
        exact absurd (mem j o' d hj hd') (hx d hd)
    | succ i =>
      cases j with
      | zero =>
        simp at hi hj
        subst hj
        exact absurd (mem i o d hi hd) (hx d hd')
      | succ j =>
        simp at hi hj
        rw [ih hl i j o o' d hi hj hd hd']

theorem endTmps_size (ops : List Oper) : ∀ (i : Nat) (vs : Nat → Value) (A : Array Value), (endTmps ops i vs A).size = A.size := by
  induction ops with
  | nil => intro i vs A; rfl
  | cons o l ih => intro i vs A; rw [endTmps, ih]; cases o.dst <;> simp
theorem endTmps_at (ops : List Oper) (h : (dstsOf' ops).Nodup) : ∀ (i : Nat) (vs : Nat → Value) (A : Array Value) (t : Nat), t < A.size →
    (endTmps ops i vs A).getD t undef = match (List.range ops.length).find? (fun j => (ops[j]?).bind Oper.dst == some t) with | some j => vs (i + j) | none => A.getD t undef := by
  induction ops with
  | nil => intro i vs A t ht; rfl
  | cons o l ih =>
    intro i vs A t ht
    have hl : (dstsOf' l).Nodup := by
      unfold dstsOf' at h ⊢
      rw [List.filterMap_cons] at h
      split at h
      · exact h
      · exact (List.nodup_cons.1 h).2
    have hsz : t < (match o.dst with | some d => A.setIfInBounds d (vs i) | none => A).size := by cases o.dst <;> simpa using ht
    rw [endTmps, ih hl _ _ _ _ hsz]
    rw [List.length_cons, List.range_succ_eq_map, List.find?_cons]
    by_cases e : o.dst = some t
    · have hn : (List.range l.length).find? (fun j => (l[j]?).bind Oper.dst == some t) = none := by
        rw [List.find?_eq_none]
        intro j hj
        simp only [beq_iff_eq]
        intro hj2
        obtain ⟨o', ho', hd'⟩ := Option.bind_eq_some_iff.1 hj2
        have := dst_apart h 0 (j + 1) o o' t rfl (by simpa using ho') e hd'
        omega
      rw [hn]
      simp [e, ht]
    · have e2 : ((((o :: l)[0]?).bind Oper.dst == some t)) = false := by simpa using e
      rw [e2]
      dsimp only
      rw [List.find?_map]
      have e3 : ((fun j => ((o :: l)[j]?).bind Oper.dst == some t) ∘ Nat.succ) = fun j => (l[j]?).bind Oper.dst == some t := by
        funext j; simp
      rw [e3]
      cases hf : (List.range l.length).find? (fun j => (l[j]?).bind Oper.dst == some t) with
      | some j => simp; congr 1; omega
      | none =>
        simp only [Option.map_none]
        cases hd : o.dst with
        | none => rfl
        | some d =>
          have : d ≠ t := fun e' => e (by rw [hd, e'])
          simp [Array.getElem?_setIfInBounds_ne this]

def StepOk (P : Program) (ops : List Oper) (A : Array Value) (T : Nat → Value → World → Prop) (B : Nat → World → Prop) (R : World → World → Prop) (i : Nat) (o : Oper) : Prop :=
  ∀ (k : Nat) (a : Act) (w : World), k < ops.length → B k w → (∀ t, (dstsOf' ops).contains t = false → a.tmps.getD t undef = A.getD t undef) →
    (∀ e ∈ o.after, Region.binds .any e = true → ∀ o', ops[e.on]? = some o' → T e.on (valOf a o') w) → Outcome P (T i) (fun w' => R w w' ∧ B (k + 1) w') ((execOp a.eval o).run P w)
structure RInv (ops : List Oper) (A : Array Value) (ds : List Deferred) (T : Nat → Value → World → Prop) (B : Nat → World → Prop) (listed : Array Bool) (a : Act) (w : World) : Prop where
  size : listed.size = ops.length
  count : ∃ k, k + unl listed ops.length = ops.length ∧ B k w
  defers : a.defers = ds
  tmps : a.tmps.size = A.size
  keep : ∀ t, (dstsOf' ops).contains t = false → a.tmps.getD t undef = A.getD t undef
  vals : ∀ j o, ops[j]? = some o → listed.getD j false = true → T j (valOf a o) w

section
variable {P : Program} {ops : List Oper} {Q : Exit → Act → World → Prop} {A : Array Value} {ds : List Deferred} {T : Nat → Value → World → Prop} {B : Nat → World → Prop} {R : World → World → Prop}

theorem ready_nil (hok : RegOk ops A.size) {listed : Array Bool} (hs : listed.size = ops.length) (h : Region.ready .any ops.toArray listed = []) : ∀ i, i < ops.length → listed.getD i true = true := by
  intro i
  induction i using Nat.strongRecOn with
  | _ i ih =>
    intro hi
    cases hb : listed.getD i true with
    | true => rfl
    | false =>
      have ho : ops[i]? = some (ops[i]'hi) := List.getElem?_eq_getElem hi
      have : i ∈ Region.ready .any ops.toArray listed := mem_ready.2 ⟨hb, ops[i]'hi, by simp, fun e he hbd => by
        have hlt := hok.back i _ ho e he hbd
        have h1 := ih e.on hlt (by omega)
        have hsz : e.on < listed.size := by omega
        simp [hsz] at h1 ⊢
        exact h1⟩
      rw [h] at this
      cases this
theorem rinv_end (hok : RegOk ops A.size) {listed : Array Bool} {a : Act} {w : World} (inv : RInv ops A ds T B listed a w) (hall : ∀ i, i < ops.length → listed.getD i true = true)
    (hend : ∀ (vs : Nat → Value) (w' : World) (k : Nat), k ≤ ops.length → B k w' → (∀ i o, ops[i]? = some o → T i (vs i) w') → Q .normal ⟨endTmps ops 0 vs A, ds⟩ w') : Q .normal a w := by
  obtain ⟨k, hk, hB⟩ := inv.count
  have h := hend (fun i => match ops[i]? with | some o => valOf a o | none => undef) w k (by omega) hB (fun i o ho => by
    have hi := (List.getElem?_eq_some_iff.1 ho).1
    have h1 := hall i hi
    have hsz : i < listed.size := by rw [inv.size]; exact hi
    simp only [ho]
    exact inv.vals i o ho (by simp [hsz] at h1 ⊢; exact h1))
  have e : a = ⟨endTmps ops 0 (fun i => match ops[i]? with | some o => valOf a o | none => undef) A, ds⟩ := by
    have he : a.tmps = endTmps ops 0 (fun i => match ops[i]? with | some o => valOf a o | none => undef) A := by
      apply Array.ext
      · rw [endTmps_size, inv.tmps]
      · intro t h1 h2
        have ht : t < A.size := by rw [← inv.tmps]; exact h1
        have e1 := endTmps_at ops hok.nodup 0 (fun i => match ops[i]? with | some o => valOf a o | none => undef) A t ht
        have g1 : a.tmps.getD t undef = a.tmps[t] := by simp [h1]
        have g2 : (endTmps ops 0 (fun i => match ops[i]? with | some o => valOf a o | none => undef) A).getD t undef = (endTmps ops 0 (fun i => match ops[i]? with | some o => valOf a o | none => undef) A)[t] := by simp [h2]
        rw [← g1, ← g2, e1]
        cases hf : (List.range ops.length).find? (fun j => (ops[j]?).bind Oper.dst == some t) with
        | some j =>
          have hj := List.find?_some hf
          simp only [beq_iff_eq] at hj
          obtain ⟨o, ho, hd⟩ := Option.bind_eq_some_iff.1 hj
          simp [ho, valOf, hd]
        | none =>
          refine inv.keep t ?_
          cases hc : (dstsOf' ops).contains t with
          | false => rfl
          | true =>
            exfalso
            have hmem : t ∈ dstsOf' ops := by simpa using hc
            obtain ⟨o, ho, hd⟩ := List.mem_filterMap.1 hmem
            obtain ⟨j, hj⟩ := List.mem_iff_getElem?.1 ho
            have := List.find?_eq_none.1 hf j (List.mem_range.2 (List.getElem?_eq_some_iff.1 hj).1)
            simp [hj, hd] at this
    obtain ⟨tm, df⟩ := a
    have hd := inv.defers
    simp at hd he
    subst hd
    rw [← he]
  rw [e]
  exact h
theorem put_tmps_size (a : Act) (d : Option Tmp) (v : Value) : (a.put d v).tmps.size = a.tmps.size := by cases d <;> simp [Act.put]
theorem put_defers (a : Act) (d : Option Tmp) (v : Value) : (a.put d v).defers = a.defers := by cases d <;> rfl
theorem put_other (a : Act) (d : Option Tmp) (v : Value) (t : Tmp) (h : d ≠ some t) : (a.put d v).tmps.getD t undef = a.tmps.getD t undef := by
  cases d with
  | none => rfl
  | some d =>
    have : d ≠ t := fun e => h (by rw [e])
    simp [Act.put, Array.getElem?_setIfInBounds_ne this]
theorem rinv_any (hok : RegOk ops A.size) (hT : ∀ i v w w', T i v w → R w w' → T i v w') (hN : ∀ i o, ops[i]? = some o → o.dst = none → ∀ v w, T i v w → T i undef w)
    (hstep : ∀ i o, ops[i]? = some o → StepOk P ops A T B R i o)
    (hend : ∀ (vs : Nat → Value) (w' : World) (k : Nat), k ≤ ops.length → B k w' → (∀ i o, ops[i]? = some o → T i (vs i) w') → Q .normal ⟨endTmps ops 0 vs A, ds⟩ w') :
    ∀ (fuel : Nat) (listed : Array Bool) (a : Act) (w : World), RInv ops A ds T B listed a w → unl listed ops.length ≤ fuel → wpAny P .any ops.toArray Q fuel listed a w := by
  intro fuel
  induction fuel with
  | zero =>
    intro listed a w inv hu
    have hall := unl_zero ops.length (by omega : unl listed ops.length = 0)
    refine ⟨?_, rinv_end hok inv hall hend⟩
    cases hr : Region.ready .any ops.toArray listed with
    | nil => rfl
    | cons x xs =>
      have hx : x ∈ Region.ready .any ops.toArray listed := by rw [hr]; exact List.mem_cons_self
      obtain ⟨h1, o, ho, _⟩ := mem_ready.1 hx
      have := hall x (by simpa using (Array.getElem?_eq_some_iff.1 ho).1)
      rw [this] at h1
      cases h1
  | succ fuel ih =>
    intro listed a w inv hu
    refine ⟨fun hr => rinv_end hok inv (ready_nil hok inv.size hr) hend, fun i hi => ?_⟩
    obtain ⟨hun, o, ho', hdeps⟩ := mem_ready.1 hi
    have ho : ops[i]? = some o := by simpa using ho'
    have hlt := (List.getElem?_eq_some_iff.1 ho).1
    obtain ⟨k, hk, hB⟩ := inv.count
    have hus := unl_set hun ops.length hlt
    have hst := hstep i o ho k a w (by omega) hB inv.keep (fun e he hb o' ho2 => inv.vals e.on o' ho2 (hdeps e he hb))
    unfold wpOp
    simp only [ho']
    rw [if_pos (by simp [Region.wanted, hok.guard i o ho])]
    refine .inl (outcome_upon hst ?_)
    intro v w' hTv hS
    refine ih _ _ _ ?_ (by omega)
    refine ⟨by simp [inv.size], ⟨k + 1, by omega, hS.2⟩, by rw [put_defers]; exact inv.defers, by rw [put_tmps_size]; exact inv.tmps, fun t ht => ?_, fun j oj hj hl => ?_⟩
    · rw [put_other _ _ _ _ (fun e => by
        have : t ∈ dstsOf' ops := List.mem_filterMap.2 ⟨o, List.mem_of_getElem? ho, e⟩
        have h2 : (dstsOf' ops).contains t = true := by simpa using this
        rw [ht] at h2; cases h2)]
      exact inv.keep t ht
    · by_cases e : i = j
      · subst e
        obtain rfl := Option.some.inj (ho.symm.trans hj)
        cases hd : o.dst with
        | none =>
          have : valOf (a.put none v) o = undef := by simp [valOf, hd]
          rw [this]
          exact hN i o ho hd v w' hTv
        | some d =>
          have hds := hok.size i o d ho hd
          have : valOf (a.put (some d) v) o = v := by
            simp only [valOf, hd, Act.put]
            have : d < a.tmps.size := by rw [inv.tmps]; exact hds
            simp [this]
          rw [this]
          exact hTv
      · rw [getD_set_ne false e] at hl
        have h1 := inv.vals j oj hj hl
        have e2 : valOf (a.put o.dst v) oj = valOf a oj := by
          unfold valOf
          cases hd : oj.dst with
          | none => rfl
          | some d =>
            exact put_other _ _ _ _ (fun e3 => e (dst_apart hok.nodup i j o oj d ho hj e3 hd))
        rw [e2]
        exact hT j _ _ _ h1 hS.1
theorem wp_region_inv {id : Nat} {w : World} (T : Nat → Value → World → Prop) (B : Nat → World → Prop) (R : World → World → Prop) (hm : P.follows .mixedOrders = true) (hok : backB ops A.size = true)
    (hT : ∀ i v w w', T i v w → R w w' → T i v w') (hN : ∀ i o, ops[i]? = some o → o.dst = none → ∀ v w, T i v w → T i undef w) (h0 : B 0 w.drew)
    (hstep : ∀ i o, ops[i]? = some o → StepOk P ops A T B R i o)
    (hend : ∀ (vs : Nat → Value) (w' : World) (k : Nat), k ≤ ops.length → B k w' → (∀ i o, ops[i]? = some o → T i (vs i) w') → Q .normal ⟨endTmps ops 0 vs A, ds⟩ w') :
    (Code.region id ops.toArray true).wp P Q ⟨A, ds⟩ w := by
  refine wp_region_any hm ?_
  have hk := regOk hok
  have hsz : ops.toArray.size = ops.length := by simp
  refine rinv_any (R := R) hk hT hN hstep hend _ _ _ _ ⟨by simp, ⟨0, by rw [hsz, unl_start _ _ (Nat.le_refl _)]; omega, h0⟩, rfl, rfl, fun t _ => rfl, fun j o hj hl => ?_⟩ (by rw [hsz, unl_start _ _ (Nat.le_refl _)]; exact Nat.le_refl _)
  exfalso
  have hj2 := (List.getElem?_eq_some_iff.1 hj).1
  simp [hj2] at hl
end
end Go.Proofs.Ytfhhfibjjpiccaa
