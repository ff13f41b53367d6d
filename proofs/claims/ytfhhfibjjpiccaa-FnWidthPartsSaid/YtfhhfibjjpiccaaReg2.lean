/- A region that draws its order, once more: an operation may read a slot that a later one writes, and one operation may disturb what ran before it is asked for. For whatever program. No condition but those stated. -/
import Derived.Test.YtfhhfibjjpiccaaRegion
namespace Go.Proofs.Ytfhhfibjjpiccaa
set_option linter.unusedVariables false
set_option linter.unusedSimpArgs false

/-- Operation j waits, by its edges, for operation i (or is i). -/
def ancB (ops : List Oper) (i : Nat) : Nat → Nat → Bool
  | 0, j => j == i
  | n + 1, j => j == i || (match ops[j]? with | some o => o.after.toList.any (fun e => Region.binds .any e && ancB ops i n e.on) | none => false)
/-- Whoever writes slot t waits for operation i. -/
def keepB (ops : List Oper) (i : Nat) (t : Tmp) : Bool := (List.range ops.length).all fun j => match ops[j]? with | some o => (o.dst != some t) || ancB ops i ops.length j | none => true

def Closed (ops : List Oper) (listed : Array Bool) : Prop := ∀ j o, ops[j]? = some o → listed.getD j false = true → ∀ e ∈ o.after, Region.binds .any e = true → listed.getD e.on false = true
theorem anc_listed {ops : List Oper} {i : Nat} {listed : Array Bool} (hc : Closed ops listed) : ∀ n j, ancB ops i n j = true → listed.getD j false = true → listed.getD i false = true := by
  intro n
  induction n with
  | zero =>
    intro j h hl
    simp only [ancB, beq_iff_eq] at h
    subst h
    exact hl
  | succ n ih =>
    intro j h hl
    simp only [ancB, Bool.or_eq_true, beq_iff_eq] at h
    rcases h with h | h
    · subst h; exact hl
    · cases ho : ops[j]? with
      | none => rw [ho] at h; cases h
      | some o =>
        rw [ho] at h
        obtain ⟨e, he, h2⟩ := List.any_eq_true.1 h
        simp only [Bool.and_eq_true] at h2
        exact ih e.on h2.2 (hc j o ho hl e (by simpa using he) h2.1)

def StepOk2 (P : Program) (ops : List Oper) (A : Array Value) (T : Nat → Value → World → Prop) (ja : Nat) (B : Nat → Bool → World → Prop) (R : Nat → World → World → Prop) (i : Nat) (o : Oper) : Prop :=
  ∀ (k : Nat) (b : Bool) (a : Act) (w : World), k < ops.length → B k b w → (i = ja → b = false) → (∀ t, keepB ops i t = true → a.tmps.getD t undef = A.getD t undef) →
    (∀ e ∈ o.after, Region.binds .any e = true → ∀ o', ops[e.on]? = some o' → T e.on (valOf a o') w) → Outcome P (T i) (fun w' => R i w w' ∧ B (k + 1) (b || i == ja) w') ((execOp a.eval o).run P w)
structure RInv2 (ops : List Oper) (A : Array Value) (ds : List Deferred) (T : Nat → Value → World → Prop) (ja : Nat) (B : Nat → Bool → World → Prop) (listed : Array Bool) (a : Act) (w : World) : Prop where
  size : listed.size = ops.length
  count : ∃ k, k + unl listed ops.length = ops.length ∧ B k (listed.getD ja false) w
  defers : a.defers = ds
  tmps : a.tmps.size = A.size
  keep : ∀ t, (∀ (j : Nat) (o : Oper), ops[j]? = some o → o.dst = some t → listed.getD j false = false) → a.tmps.getD t undef = A.getD t undef
  vals : ∀ (j : Nat) (o : Oper), ops[j]? = some o → listed.getD j false = true → T j (valOf a o) w
  closed : Closed ops listed

section
variable {P : Program} {ops : List Oper} {Q : Exit → Act → World → Prop} {A : Array Value} {ds : List Deferred} {T : Nat → Value → World → Prop} {ja : Nat} {B : Nat → Bool → World → Prop} {R : Nat → World → World → Prop}

theorem rinv2_old {listed : Array Bool} {a : Act} {w : World} (inv : RInv2 ops A ds T ja B listed a w) : RInv ops A ds T (fun k w => ∃ b, B k b w) listed a w :=
  ⟨inv.size, (by obtain ⟨k, hk, hB⟩ := inv.count; exact ⟨k, hk, _, hB⟩), inv.defers, inv.tmps, (fun t ht => inv.keep t fun j o ho hd => by
    exfalso
    have : t ∈ dstsOf' ops := List.mem_filterMap.2 ⟨o, List.mem_of_getElem? ho, hd⟩
    have h2 : (dstsOf' ops).contains t = true := by simpa using this
    rw [ht] at h2; cases h2), inv.vals⟩
theorem getD_flag {listed : Array Bool} {i : Nat} (h : listed.getD i true = false) : listed.getD i false = false := by
  rcases Nat.lt_or_ge i listed.size with hi | hi
  · simp [hi] at h ⊢; exact h
  · simp [Array.getElem?_eq_none hi] at h
theorem rinv2_any (hok : RegOk ops A.size) (hT : ∀ i j v w w', i ≠ j → ancB ops j ops.length i = false → T i v w → R j w w' → T i v w') (hN : ∀ i o, ops[i]? = some o → o.dst = none → ∀ v w, T i v w → T i undef w)
    (hstep : ∀ i o, ops[i]? = some o → StepOk2 P ops A T ja B R i o)
    (hend : ∀ (vs : Nat → Value) (w' : World) (k : Nat), k ≤ ops.length → (∃ b, B k b w') → (∀ i o, ops[i]? = some o → T i (vs i) w') → Q .normal ⟨endTmps ops 0 vs A, ds⟩ w') :
    ∀ (fuel : Nat) (listed : Array Bool) (a : Act) (w : World), RInv2 ops A ds T ja B listed a w → unl listed ops.length ≤ fuel → wpAny P .any ops.toArray Q fuel listed a w := by
  intro fuel
  induction fuel with
  | zero =>
    intro listed a w inv hu
    have hall := unl_zero ops.length (by omega : unl listed ops.length = 0)
    refine ⟨?_, rinv_end hok (rinv2_old inv) hall hend⟩
    cases hr : Region.ready .any ops.toArray listed with
    | nil => rfl
    | cons x xs =>
      have hx : x ∈ Region.ready .any ops.toArray listed := by rw [hr]; exact List.mem_cons_self
      obtain ⟨h1, o, ho, _⟩ := mem_ready.1 hx
      have := hall x (by simpa using (Array.getElem?_eq_some_iff.1 ho).1)
      rw [this] at h1
      cases h1
  | succ fuel ih =>
    intro listed a w inv hu
    refine ⟨fun hr => rinv_end hok (rinv2_old inv) (ready_nil hok inv.size hr) hend, fun i hi => ?_⟩
    obtain ⟨hun, o, ho', hdeps⟩ := mem_ready.1 hi
    have ho : ops[i]? = some o := by simpa using ho'
    have hlt := (List.getElem?_eq_some_iff.1 ho).1
    obtain ⟨k, hk, hB⟩ := inv.count
    have hus := unl_set hun ops.length hlt
    have hun' := getD_flag hun
    have hkeep : ∀ t, keepB ops i t = true → a.tmps.getD t undef = A.getD t undef := by
      intro t ht
      refine inv.keep t fun j oj hj hd => ?_
      have h1 := List.all_eq_true.1 ht j (List.mem_range.2 (List.getElem?_eq_some_iff.1 hj).1)
      simp only [hj, hd, bne_self_eq_false, Bool.false_or] at h1
      cases hl : listed.getD j false with
      | false => rfl
      | true =>
        have := anc_listed inv.closed _ _ h1 hl
        rw [hun'] at this; cases this
    have hst := hstep i o ho k _ a w (by omega) hB (fun e => by subst e; exact hun') hkeep (fun e he hb o' ho2 => inv.vals e.on o' ho2 (hdeps e he hb))
    unfold wpOp
    simp only [ho']
    rw [if_pos (by simp [Region.wanted, hok.guard i o ho])]
    refine .inl (outcome_upon hst ?_)
    intro v w' hTv hS
    refine ih _ _ _ ?_ (by omega)
    refine ⟨by simp [inv.size], ⟨k + 1, by omega, ?_⟩, by rw [put_defers]; exact inv.defers, by rw [put_tmps_size]; exact inv.tmps, fun t ht => ?_, fun j oj hj hl => ?_, ?_⟩
    · have := hS.2
      by_cases e : i = ja
      · subst e
        have hsz : i < listed.size := by rw [inv.size]; exact hlt
        simpa [hsz] using this
      · rw [getD_set_ne false e]
        have e2 : (i == ja) = false := by simpa using e
        rwa [e2, Bool.or_false] at this
    · have hne : o.dst ≠ some t := fun e => by
        have := ht i o ho e
        have hsz : i < listed.size := by rw [inv.size]; exact hlt
        simp [hsz] at this
      rw [put_other _ _ _ _ hne]
      refine inv.keep t fun j oj hj hd => ?_
      have := ht j oj hj hd
      have hij : i ≠ j := fun e => hne (by subst e; rw [ho] at hj; injection hj with hj; rw [hj]; exact hd)
      rwa [getD_set_ne false hij] at this
    · by_cases e : i = j
      · subst e
        obtain rfl := Option.some.inj (ho.symm.trans hj)
        cases hd : o.dst with
        | none =>
          have : valOf (a.put none v) o = undef := by simp [valOf, hd]
          rw [this]
          exact hN i o ho hd v w' hTv
        | some d =>
          have hds := hok.size i o d ho hd
          have : valOf (a.put (some d) v) o = v := by
            simp only [valOf, hd, Act.put]
            have : d < a.tmps.size := by rw [inv.tmps]; exact hds
            simp [this]
          rw [this]
          exact hTv
      · rw [getD_set_ne false e] at hl
        have h1 := inv.vals j oj hj hl
        have e2 : valOf (a.put o.dst v) oj = valOf a oj := by
          unfold valOf
          cases hd : oj.dst with
          | none => rfl
          | some d =>
            exact put_other _ _ _ _ (fun e3 => e (dst_apart hok.nodup i j o oj d ho hj e3 hd))
        rw [e2]
        refine hT j i _ _ _ (fun h => e h.symm) ?_ h1 hS.1
        cases ha : ancB ops i ops.length j with
        | false => rfl
        | true =>
          have := anc_listed inv.closed _ _ ha hl
          rw [hun'] at this; cases this
    · intro j oj hj hl e he hb
      by_cases hij : i = j
      · subst hij
        obtain rfl := Option.some.inj (ho.symm.trans hj)
        have := hdeps e he hb
        by_cases h2 : i = e.on
        · rw [← h2]
          have hsz : i < listed.size := by rw [inv.size]; exact hlt
          simp [hsz]
        · rw [getD_set_ne false h2]; exact this
      · rw [getD_set_ne false hij] at hl
        have := inv.closed j oj hj hl e he hb
        by_cases h2 : i = e.on
        · rw [← h2]
          have hsz : i < listed.size := by rw [inv.size]; exact hlt
          simp [hsz]
        · rw [getD_set_ne false h2]; exact this
theorem wp_region_inv2 {id : Nat} {w : World} (T : Nat → Value → World → Prop) (ja : Nat) (B : Nat → Bool → World → Prop) (R : Nat → World → World → Prop) (hm : P.follows .mixedOrders = true) (hok : backB ops A.size = true)
    (hT : ∀ i j v w w', i ≠ j → ancB ops j ops.length i = false → T i v w → R j w w' → T i v w') (hN : ∀ i o, ops[i]? = some o → o.dst = none → ∀ v w, T i v w → T i undef w) (h0 : B 0 false w.drew)
    (hstep : ∀ i o, ops[i]? = some o → StepOk2 P ops A T ja B R i o)
    (hend : ∀ (vs : Nat → Value) (w' : World) (k : Nat), k ≤ ops.length → (∃ b, B k b w') → (∀ i o, ops[i]? = some o → T i (vs i) w') → Q .normal ⟨endTmps ops 0 vs A, ds⟩ w') :
    (Code.region id ops.toArray true).wp P Q ⟨A, ds⟩ w := by
  refine wp_region_any hm ?_
  have hk := regOk hok
  have hsz : ops.toArray.size = ops.length := by simp
  have hno : ∀ j : Nat, (Array.replicate ops.toArray.size false).getD j false = false := by
    intro j
    simp only [Array.getD_eq_getD_getElem?, Array.getElem?_replicate]
    split <;> rfl
  refine rinv2_any (R := R) hk hT hN hstep hend _ _ _ _ ⟨by simp, ⟨0, by rw [hsz, unl_start _ _ (Nat.le_refl _)]; omega, by rw [hno]; exact h0⟩, rfl, rfl, fun t _ => rfl, fun j o hj hl => ?_, fun j o hj hl => ?_⟩ (by rw [hsz, unl_start _ _ (Nat.le_refl _)]; exact Nat.le_refl _)
  · rw [hno j] at hl; cases hl
  · rw [hno j] at hl; cases hl
end
end Go.Proofs.Ytfhhfibjjpiccaa
