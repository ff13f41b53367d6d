/- Several of my texts in one: DrStep, DrEnds. Their conditions stand at each. -/
import Derived.Test.YtocaonlmlafjmaaKRead
import Derived.Test.YtocaonlmlafjmaaKDrIt
import Derived.Test.YtocaonlmlafjmaaKItems
/- More operations of a draw's region: sums, differences, the smaller and the greater of two, the length of a row that stands, and its places. No condition but those stated. -/
namespace Go.Proofs.Ytocaonlmlafjmaa
open Go.RowKit
set_option linter.unusedVariables false
set_option linter.unusedSimpArgs false
set_option maxRecDepth 100000

/-- A row of numbers that lies behind block m, whatever its room. -/
def TPl (m n : Nat) (lo hi : Int) (v : Value) (w : World) : Prop := ∃ b c zs, v = .slice (some ⟨b, 0, none⟩) n c ∧ m < b ∧ b < w.heap.size ∧ List.length zs = n ∧ (∀ (j : Nat) (z : Int), zs[j]? = some z → w.cell? ⟨b, j, none⟩ = some (.int .i64 z)) ∧ ∀ z ∈ zs, lo ≤ z ∧ z ≤ hi
theorem keeps_pl {g b m n : Nat} {lo hi : Int} (h1 : g ≤ m) (h2 : b ≤ m) : Keeps g b (TPl m n lo hi) := fun _ _ _ ⟨c, d, zs, e, hb, k1, k2, k3, k4⟩ hg =>
  ⟨c, d, zs, e, hb, Nat.lt_of_lt_of_le k1 hg.1, k2, fun j z hz => (World.cell?_of_block (hg.2 c k1 (by omega) (by omega))).trans (k3 j z hz), k4⟩
section
variable {ops : List Oper} {A : Array Value} {T : Nat → Value → World → Prop} {g b m p0 N : Nat} {X : World → Prop} {w1 : World} {i : Nat} {o : Oper}
theorem step_movePl (t : Tmp) (n : Nat) (lo hi : Int) (ho : o.op = .move (.tmp t)) (hi2 : T i = TPl m n lo hi) (ht : (dstsOf' ops).contains t = false) (hA : ∀ w, X w → TPl m n lo hi (A.getD t undef) w) : Step ops A T g b X p0 N w1 i o := by
  intro k a w hk hB hkeep hdep
  rw [op_move (.tmp t) ho]
  refine .value ?_ ⟨two_refl _, hB.more⟩
  rw [hi2]
  have e : a.eval (.tmp t) = A.getD t undef := hkeep t ht
  rw [e]
  exact hA w hB.2.2
theorem step_moveR (t : Tmp) (lo hi : Int) (ho : o.op = .move (.tmp t)) (hi2 : T i = TInt lo hi) (ht : (dstsOf' ops).contains t = false) (hA : ∃ x, A.getD t undef = .int .i64 x ∧ lo ≤ x ∧ x ≤ hi) : Step ops A T g b X p0 N w1 i o := by
  obtain ⟨x, hx, h1, h2⟩ := hA
  exact step_moveI t x lo hi ho hi2 ht hx ⟨h1, h2⟩
theorem step_indexPl (s t : Tmp) (n : Nat) (lo hi u : Int) (ho : o.op = .indexAddr 60 (.tmp s) (.tmp t)) (hd : depB ops o s = true) (hj : T (depJ ops o s) = TPl m n lo hi) (hd2 : depB ops o t = true) (hj2 : T (depJ ops o t) = TInt 0 u) (hm : u < (n : Int))
    (hi2 : T i = TAt m lo hi) : Step ops A T g b X p0 N w1 i o := by
  intro k a w hk hB hkeep hdep
  have h1 := dep_get hd hdep
  have h2 := dep_get hd2 hdep
  rw [hj] at h1
  rw [hj2] at h2
  obtain ⟨bb, c, zs, hx, hb, hlt, hzs, hc, hz⟩ := h1
  obtain ⟨y, hy, y0, y1⟩ := h2
  obtain ⟨y, rfl⟩ := Int.eq_ofNat_of_zero_le y0
  rw [op_index _ _ _ ho]
  have e1 : a.eval (.tmp s) = .slice (some ⟨bb, 0, none⟩) n c := hx
  have e2 : a.eval (.tmp t) = .int .i64 y := hy
  have hyn : (y : Int) < (n : Int) := by omega
  rw [e1, e2]
  simp [go_sem, hyn]
  have hyz : y < List.length zs := by omega
  refine .value ?_ ⟨two_refl _, hB.more⟩
  rw [hi2]
  refine ⟨bb, y, zs[y], ?_, hb, hlt, hc y _ (List.getElem?_eq_getElem hyz), hz _ (List.getElem_mem _)⟩
  simp
theorem step_addC (t : Tmp) (c lo hi : Int) (ho : o.op = .binOp .add 3 (.tmp t) (.const (.int .i64 c)) 3) (hd : depB ops o t = true) (hj : T (depJ ops o t) = TInt lo hi) (hi2 : T i = TInt (lo + c) (hi + c))
    (h63 : -9223372036854775808 ≤ lo + c ∧ hi + c ≤ 9223372036854775807) : Step ops A T g b X p0 N w1 i o := by
  intro k a w hk hB hkeep hdep
  have h1 := dep_get hd hdep
  rw [hj] at h1
  obtain ⟨x, hx, x0, x1⟩ := h1
  have w0 : IntKind.i64.wrap (x + c) = x + c := IntWalk.i64_in _ (by omega)
  rw [op_bin _ _ _ _ _ ho]
  have e1 : a.eval (.tmp t) = .int .i64 x := hx
  have e2 : a.eval (.const (.int .i64 c)) = .int .i64 c := rfl
  rw [e1, e2]
  simp [go_sem]
  refine .value ?_ ⟨two_refl _, hB.more⟩
  rw [hi2]
  exact ⟨x + c, by rw [w0], by omega, by omega⟩
theorem step_subC (t : Tmp) (c lo hi : Int) (ho : o.op = .binOp .sub 3 (.tmp t) (.const (.int .i64 c)) 3) (hd : depB ops o t = true) (hj : T (depJ ops o t) = TInt lo hi) (hi2 : T i = TInt (lo - c) (hi - c))
    (h63 : -9223372036854775808 ≤ lo - c ∧ hi - c ≤ 9223372036854775807) : Step ops A T g b X p0 N w1 i o := by
  intro k a w hk hB hkeep hdep
  have h1 := dep_get hd hdep
  rw [hj] at h1
  obtain ⟨x, hx, x0, x1⟩ := h1
  have w0 : IntKind.i64.wrap (x - c) = x - c := IntWalk.i64_in _ (by omega)
  rw [op_bin _ _ _ _ _ ho]
  have e1 : a.eval (.tmp t) = .int .i64 x := hx
  have e2 : a.eval (.const (.int .i64 c)) = .int .i64 c := rfl
  rw [e1, e2]
  simp [go_sem]
  refine .value ?_ ⟨two_refl _, hB.more⟩
  rw [hi2]
  exact ⟨x - c, by rw [w0], by omega, by omega⟩
theorem step_add (s t : Tmp) (lo hi lo' hi' : Int) (ho : o.op = .binOp .add 3 (.tmp s) (.tmp t) 3) (hd : depB ops o s = true) (hj : T (depJ ops o s) = TInt lo hi) (hd2 : depB ops o t = true) (hj2 : T (depJ ops o t) = TInt lo' hi') (hi2 : T i = TInt (lo + lo') (hi + hi'))
    (h63 : -9223372036854775808 ≤ lo + lo' ∧ hi + hi' ≤ 9223372036854775807) : Step ops A T g b X p0 N w1 i o := by
  intro k a w hk hB hkeep hdep
  have h1 := dep_get hd hdep
  have h2 := dep_get hd2 hdep
  rw [hj] at h1
  rw [hj2] at h2
  obtain ⟨x, hx, x0, x1⟩ := h1
  obtain ⟨y, hy, y0, y1⟩ := h2
  have w0 : IntKind.i64.wrap (x + y) = x + y := IntWalk.i64_in _ (by omega)
  rw [op_bin _ _ _ _ _ ho]
  have e1 : a.eval (.tmp s) = .int .i64 x := hx
  have e2 : a.eval (.tmp t) = .int .i64 y := hy
  rw [e1, e2]
  simp [go_sem]
  refine .value ?_ ⟨two_refl _, hB.more⟩
  rw [hi2]
  exact ⟨x + y, by rw [w0], by omega, by omega⟩
theorem step_sub (s t : Tmp) (lo hi lo' hi' : Int) (ho : o.op = .binOp .sub 3 (.tmp s) (.tmp t) 3) (hd : depB ops o s = true) (hj : T (depJ ops o s) = TInt lo hi) (hd2 : depB ops o t = true) (hj2 : T (depJ ops o t) = TInt lo' hi') (hi2 : T i = TInt (lo - hi') (hi - lo'))
    (h63 : -9223372036854775808 ≤ lo - hi' ∧ hi - lo' ≤ 9223372036854775807) : Step ops A T g b X p0 N w1 i o := by
  intro k a w hk hB hkeep hdep
  have h1 := dep_get hd hdep
  have h2 := dep_get hd2 hdep
  rw [hj] at h1
  rw [hj2] at h2
  obtain ⟨x, hx, x0, x1⟩ := h1
  obtain ⟨y, hy, y0, y1⟩ := h2
  have w0 : IntKind.i64.wrap (x - y) = x - y := IntWalk.i64_in _ (by omega)
  rw [op_bin _ _ _ _ _ ho]
  have e1 : a.eval (.tmp s) = .int .i64 x := hx
  have e2 : a.eval (.tmp t) = .int .i64 y := hy
  rw [e1, e2]
  simp [go_sem]
  refine .value ?_ ⟨two_refl _, hB.more⟩
  rw [hi2]
  exact ⟨x - y, by rw [w0], by omega, by omega⟩
theorem step_len (t : Tmp) (n : Nat) (lo hi : Int) (ats : Array TypeId) (ho : o.op = .call { callee := .builtin .len, args := #[.tmp t], argTypes := ats }) (hd : depB ops o t = true) (hj : T (depJ ops o t) = TPl m n lo hi) (hi2 : T i = TInt (n : Int) (n : Int)) (hat : (Try.prog).underlying 60 = some (.slice 3)) (hats : ats = #[60]) : Step ops A T g b X p0 N w1 i o := by
  subst hats
  intro k a w hk hB hkeep hdep
  have h1 := dep_get hd hdep
  rw [hj] at h1
  obtain ⟨bb, c, zs, hx, hb, hlt, hzs, hc, hz⟩ := h1
  have e1 : a.tmps[t]?.getD undef = .slice (some ⟨bb, 0, none⟩) n c := by rw [← Array.getD_eq_getD_getElem?]; exact hx
  unfold execOp
  simp [ho, resolve, invoke, builtin, go_sem, e1, hat]
  refine .value ?_ ⟨two_refl _, hB.more⟩
  rw [hi2]
  exact ⟨n, rfl, by omega, by omega⟩
theorem step_min (s t : Tmp) (lo hi lo' hi' lo2 hi2' : Int) (ats : Array TypeId) (ho : o.op = .call { callee := .builtin .min, args := #[.tmp s, .tmp t], argTypes := ats }) (hd : depB ops o s = true) (hj : T (depJ ops o s) = TInt lo hi) (hd2 : depB ops o t = true) (hj2 : T (depJ ops o t) = TInt lo' hi') (hi2 : T i = TInt lo2 hi2')
    (hb1 : lo2 ≤ lo ∧ lo2 ≤ lo') (hb2 : hi ≤ hi2' ∨ hi' ≤ hi2') : Step ops A T g b X p0 N w1 i o := by
  intro k a w hk hB hkeep hdep
  have h1 := dep_get hd hdep
  have h2 := dep_get hd2 hdep
  rw [hj] at h1
  rw [hj2] at h2
  obtain ⟨x, hx, x0, x1⟩ := h1
  obtain ⟨y, hy, y0, y1⟩ := h2
  have e1 : a.tmps[s]?.getD undef = .int .i64 x := by rw [← Array.getD_eq_getD_getElem?]; exact hx
  have e2 : a.tmps[t]?.getD undef = .int .i64 y := by rw [← Array.getD_eq_getD_getElem?]; exact hy
  unfold execOp
  simp [ho, resolve, invoke, builtin, go_sem, e1, e2]
  refine .value ?_ ⟨two_refl _, hB.more⟩
  rw [hi2]
  refine ⟨_, rfl, ?_, ?_⟩ <;> omega
theorem step_maxC (t : Tmp) (c lo hi lo2 hi2' : Int) (ats : Array TypeId) (ho : o.op = .call { callee := .builtin .max, args := #[.const (.int .i64 c), .tmp t], argTypes := ats }) (hd : depB ops o t = true) (hj : T (depJ ops o t) = TInt lo hi) (hi2 : T i = TInt lo2 hi2')
    (hb1 : lo2 ≤ c ∨ lo2 ≤ lo) (hb2 : c ≤ hi2' ∧ hi ≤ hi2') : Step ops A T g b X p0 N w1 i o := by
  intro k a w hk hB hkeep hdep
  have h1 := dep_get hd hdep
  rw [hj] at h1
  obtain ⟨y, hy, y0, y1⟩ := h1
  have e2 : a.tmps[t]?.getD undef = .int .i64 y := by rw [← Array.getD_eq_getD_getElem?]; exact hy
  unfold execOp
  simp [ho, resolve, invoke, builtin, go_sem, e2]
  refine .value ?_ ⟨two_refl _, hB.more⟩
  rw [hi2]
  refine ⟨_, rfl, ?_, ?_⟩ <;> omega
/-- A region that draws, each operation with a slot of its own, over a world's predicate. -/
theorem wp_draw3 {id : Nat} {A : Array Value} {ds : List Deferred} {Q : Exit → Act → World → Prop} {ops : List Oper} (Ts : List (Value → World → Prop)) (g b m : Nat) (X : World → Prop) (p0 N : Nat) (w : World)
    (hok : backB ops A.size = true) (hdst : ops.all (fun o => o.dst.isSome) = true) (hr : RdS w g p0) (hN : N ≤ w.heap.size) (hk : KeepAll g b Ts)
    (h0 : X w) (hX : ∀ w w', X w → w.grownBy w' (some g) → X w') (hm : ∀ w, X w → g < w.heap.size → m < w.heap.size)
    (hsteps : N ≤ w.heap.size → Steps ops A (fun i => Ts.getD i fun _ _ => True) g b X p0 N w ops 0)
    (hend : ∀ (vs : Nat → Value) (w' : World) (q : Nat), q ≤ p0 + ops.length → RdS w' g q → Below N w w' → X w' → (∀ i o, ops[i]? = some o → (Ts.getD i fun _ _ => True) (vs i) w') → Q .normal ⟨endTmps ops 0 vs A, ds⟩ w') :
    (Code.region id ops.toArray true).wp Try.prog Q ⟨A, ds⟩ w := by
  refine wp_region_inv (fun i => Ts.getD i fun _ _ => True) (TB g X p0 N w) (TR g b) (by kernel_rfl) hok (fun i v w w' h1 h2 => keep_get Ts hk i v w w' h1 h2) (fun i o ho hd => ?_) ⟨⟨p0, by omega, hr⟩, (Below.refl _ _).drew, hX _ _ h0 (only_drew (only_refl _ _))⟩ (fun i o ho => by simpa using steps_get ops 0 (hsteps hN) i o ho) (fun vs w' k hk hB hT => ?_)
  · have := List.all_eq_true.1 hdst o (List.mem_of_getElem? ho)
    rw [hd] at this
    cases this
  · obtain ⟨⟨q, hq, hr'⟩, hb, hx⟩ := hB
    exact hend vs w' q (by omega) hr' hb hx hT
end
end Go.Proofs.Ytocaonlmlafjmaa

/- What the draws of lines give: items and two numbers. Condition: the reader's block is its own. -/
namespace Go.Proofs.Ytocaonlmlafjmaa
open Go.RowKit
set_option linter.unusedVariables false
set_option linter.unusedSimpArgs false
set_option maxRecDepth 100000

def EndP (g p : Nat) (w : World) (e : Ending) (w' : World) : Prop := ∃ (y z : Int) (q : Nat), e = .returned (.tuple #[.int .i64 y, .int .i64 z]) ∧ (-3 ≤ y ∧ y ≤ 100) ∧ (-3 ≤ z ∧ z ≤ 100) ∧ RdS w' g q ∧ w.grownBy w' (some g)
def EnRel (w : World) (np : Nat) (v : Value) (wr : World) : Prop := ∃ P : List Int, P.length = np ∧ (∀ z ∈ P, -1 ≤ z ∧ z ≤ 62) ∧ wr.ownsRow w.heap.size 3 1 v np (cellsN P) ∧ Below w.heap.size w wr
theorem en_step {w w2 w3 : World} {np g3 cap3 : Nat} {v : Value} {P : List Int} {z : Int} (hP : P.length = np) (hPb : ∀ z ∈ P, -1 ≤ z ∧ z ≤ 62) (hz : -1 ≤ z ∧ z ≤ 62) (hown2 : w2.ownsRow w.heap.size 3 1 v np (cellsN P)) (hb2 : Below w.heap.size w w2)
    (hown3 : w3.ownsRow w.heap.size 3 1 (.slice (some ⟨g3, 0, none⟩) (np + 1) cap3) (np + 1) (cellsN P ++ [.int .i64 z])) (hg3 : (w2.alloc (.cells #[.int .i64 z] 3)).grownBy w3 v.ownBlock) : EnRel w (np + 1) (.slice (some ⟨g3, 0, none⟩) (np + 1) cap3) w3 := by
  refine ⟨P ++ [z], by simp [hP], fun y hy => ?_, by simpa [cellsN] using hown3, (hb2.alloc hb2.size _).grown hg3 (by simp; have := hb2.size; omega) (fun kk hkk => (hown2.lt kk hkk).1)⟩
  rcases List.mem_append.1 hy with hy | hy
  · exact hPb y hy
  · simp at hy; subst hy; exact hz
theorem own_pl {w : World} {base g n : Nat} {t : TypeId} {v : Value} {P : List Int} (h : w.ownsRow base t 1 v n (cellsN P)) (hn : 0 < n) (hP : P.length = n) (hg : g < base) (hb : ∀ z ∈ P, -1 ≤ z ∧ z ≤ 62) :
    ∃ b c, v = .slice (some ⟨b, 0, none⟩) n c ∧ base ≤ b ∧ TPl g n (-1) 62 v w := by
  rcases h.2 with ⟨_, h0⟩ | ⟨b, cap, cur, hv, hbb, hh, hnc, hcm, hcs, htk⟩
  · omega
  · refine ⟨b, cap, hv, hbb, b, cap, P, hv, by omega, Blk.lt (t := t) hh, hP, fun j z hz => ?_, hb⟩
    have hk := h.cells (g := b) (by rw [hv]; rfl) j (.int .i64 z) (by simp [cellsN, hz])
    simpa [Addr.add_lit] using hk
set_option maxHeartbeats 4000000 in
theorem l20Ends_any (g p : Nat) (A : Option Addr) (n c : Nat) (L : List I) (w : World) (h : RdS w g p) (hp : p ≤ 100000) (hn : n ≤ 62) (hL : L.length = n) (hrd : Rd w 7 A n (cellsI L)) :
    Calls Try.prog 98 #[.pointer (some ⟨g, 0, none⟩), .slice A n c] w (EndP g p w) := by
  have hgl := h.lt
  have hnm : n ≤ maxLen := by unfold maxLen; omega
  obtain ⟨i0, hi, hz0, hz1, hz2⟩ := info_parts int_info
  have h' := hide h
  have hL' := hide hL
  have hrd' := hide hrd
  have hst := hide (show EnRel w 1 (.slice (some ⟨w.heap.size, 0, none⟩) 1 1) (w.alloc (.cells #[.int .i64 (-1)] 3)) from
    ⟨[-1], rfl, fun z hz => by simp at hz; omega, own_row7 (Blk.new w 3 #[.int .i64 (-1)]) (Nat.le_refl _) rfl (by unfold maxLen; omega), (Below.refl _ _).alloc (Nat.le_refl _) _⟩)
  clear h hL hrd
  go_enter Try.func98, Try.ntmps98
  go_wp2
  go_loopw [6, 7] (fun v i wr => ∃ k np : Nat, k ≤ n ∧ 1 ≤ np ∧ np ≤ k + 1 ∧ i = .int .i64 k ∧ EnRel w np v wr) (fun _ i _ => n - (intOf i).toNat)
  case atStart => exact ⟨0, 1, Nat.zero_le _, Nat.le_refl _, by omega, rfl, hst.out⟩
  case round =>
    clear hst
    obtain ⟨k, np, hk, hnp1, hnp2, rfl, P, hP, hPb, hown, hb⟩ := hrel
    have hP' := hide hP
    have hPb' := hide hPb
    have hb' := hide hb
    have hbs := hb.size
    clear hP hPb
    by_cases hlt : k < n
    · have hlti : (k : Int) < (n : Int) := by omega
      have hown' := hide hown
      have hmay := hide (specMay A n c L (k : Int) wr hnm hL'.out (hrd'.out.below hb))
      clear hown hb
      go_wp2_with fail
      go_at_call 33
      refine hmay.out.mono ?_
      rintro e w2 ⟨rfl, hb2⟩
      have hown2 := hide (own_below hown'.out hb2)
      have hbl2 := hide (hb'.out.trans (hb2.mono hbs))
      have hs2 := hbl2.out.size
      clear hb2 hmay hown' hb'
      cases hv : (items60 L && mayI L (k : Int)) with
      | false =>
        go_wp2
        go_roundw
        case rel => exact ⟨k + 1, np, by omega, by omega, by omega, by go_num, P, hP'.out, hPb'.out, hown2.out, hbl2.out⟩
        case measure => simp [intOf]; omega
      | true =>
        go_wp2_with (at_builtin; refine wpList_append_lies _ rfl _ _ 60 rfl w.heap.size 3 i0 (.int .i64 0) 1 8 Try.underlying60 hi hz0 hz1 hz2 rfl (by decide) _ _ _ rfl (hown2.out.alloc _) ⟨w2.heap.size, 0, none⟩ 1 1 [.int .i64 (k : Int)] rfl rfl (fun j u hj => cell_one_at (by simp) hj) (one_cells _) (by omega) (by unfold maxLen; omega) (by omega) (by simp; omega) _ rfl ?_)
        intro g3 cap3 w3 hown3 hg3 hat3 hlt3
        have hfin := hide (en_step hP'.out hPb'.out (by omega) hown2.out hbl2.out hown3 hg3)
        clear hown3 hg3 hat3 hlt3
        go_wp2
        go_roundw
        case rel => exact ⟨k + 1, np + 1, by omega, by omega, by omega, by go_num, hfin.out⟩
        case measure => simp [intOf]; omega
    · obtain rfl : k = n := by omega
      obtain ⟨b6, c6, rfl, hbb, hpl⟩ := own_pl hown hnp1 hP'.out hgl hPb'.out
      have hr0 := h'.out.below hb
      have hg0 := only_of_below hb (some g)
      clear hown hb hrd'
      go_wp2_with (fail)
      go_at_call 102
      refine (odd_any g p 9 wr hr0 (by omega) (by omega)).mono ?_
      rintro e w2 ⟨bo, q, rfl, hbo, hr2, hq1, hq2, hg2⟩
      have hgg2 := only_trans hg0 hg2
      have hpl2 := keeps_pl (Nat.le_refl g) (Nat.le_refl g) _ _ _ hpl (two_of g hg2)
      clear hr0 hg0 hg2 hpl hbo
      cases bo with
      | true =>
        go_wp2_with (fail)
        go_at_call 80
        refine (pick_any g q ((k : Int) + 2) w2 hr2 (by omega) (by omega)).mono ?_
        rintro e w3 ⟨x, rfl, x0, x1, hr3, hg3⟩
        have hgg3 := only_trans hgg2 hg3
        clear hr2 hg3 hgg2 hpl2
        go_wp2_with (fail)
        go_at_call 80
        refine (pick_any g (q + 1) ((k : Int) + 2) w3 hr3 (by omega) (by omega)).mono ?_
        rintro e w4 ⟨y, rfl, y0, y1, hr4, hg4⟩
        have hgg4 := hide (only_trans hgg3 hg4)
        have hr4' := hide hr4
        clear hr3 hg4 hgg3 hr4
        go_wp2
        unfold EndP
        go_ret2
        exact ⟨_, _, _, rfl, by omega, by omega, hr4'.out, hgg4.out⟩
      | false =>
        go_wp2_with (fail)
        go_at_call 80
        refine (pick_any g q (np : Int) w2 hr2 (by omega) (by omega)).mono ?_
        rintro e w3 ⟨x, rfl, x0, x1, hr3, hg3⟩
        have hgg3 := only_trans hgg2 hg3
        have hpl3 := keeps_pl (Nat.le_refl g) (Nat.le_refl g) _ _ _ hpl2 (two_of g hg3)
        have hxn : x ≤ (np : Int) - 1 := by omega
        clear hr2 hg3 hgg2 hpl2
        go_wp2_with (fail)
        have hX : ∀ W W', (w.grownBy W (some g) ∧ TPl g np (-1) 62 (.slice (some ⟨b6, 0, none⟩) np c6) W) → W.grownBy W' (some g) → (w.grownBy W' (some g) ∧ TPl g np (-1) 62 (.slice (some ⟨b6, 0, none⟩) np c6) W') :=
          fun W W' h1 h2 => ⟨only_trans h1.1 h2, keeps_pl (Nat.le_refl g) (Nat.le_refl g) _ _ _ h1.2 (two_of g h2)⟩
        refine wp_draw3 [TPl g np (-1) 62, TInt 0 ((np : Int) - 1), TAt g (-1) 62, TInt (-1) 62, TPl g np (-1) 62, TPl g np (-1) 62, TInt (np : Int) (np : Int), TInt ((np : Int) - 1) ((np : Int) - 1), TInt 0 ((np : Int) - 1), TInt (0 + 1) ((np : Int) - 1 + 1), TPtr g, TInt 0 (4 - 1), TInt (0 + 1 + 0) ((np : Int) - 1 + 1 + (4 - 1)), TInt 0 ((np : Int) - 1), TAt g (-1) 62, TInt (-1) 62, TInt (-1) 62, TInt (-1) 62] g g g (fun W => w.grownBy W (some g) ∧ TPl g np (-1) 62 (.slice (some ⟨b6, 0, none⟩) np c6) W) (q + 1) 0 w3 (by kernel_rfl) (by kernel_rfl) hr3 (Nat.zero_le _) ?_ ⟨hgg3, hpl3⟩ hX (fun W _ h => h) (fun hN1 => ?_) ?_
        · (repeat (first | exact trivial | refine ⟨keeps_pl (Nat.le_refl g) (Nat.le_refl g), ?_⟩ | refine ⟨keeps_int, ?_⟩ | refine ⟨keeps_ptr, ?_⟩ | refine ⟨keeps_at (Nat.le_refl g) (Nat.le_refl g), ?_⟩))
        · clear hgg3 hpl3 hr3
          refine ⟨step_movePl _ np (-1) 62 rfl rfl (by kernel_rfl) (fun W hW => hW.2), ?_⟩
          refine ⟨step_moveI _ (x : Int) 0 ((np : Int) - 1) rfl rfl (by kernel_rfl) rfl (by omega), ?_⟩
          refine ⟨step_indexPl _ _ np (-1) 62 ((np : Int) - 1) rfl (by kernel_rfl) rfl (by kernel_rfl) rfl (by omega) rfl, ?_⟩
          refine ⟨step_load _ _ _ rfl (by kernel_rfl) rfl rfl, ?_⟩
          refine ⟨step_movePl _ np (-1) 62 rfl rfl (by kernel_rfl) (fun W hW => hW.2), ?_⟩
          refine ⟨step_movePl _ np (-1) 62 rfl rfl (by kernel_rfl) (fun W hW => hW.2), ?_⟩
          refine ⟨step_len _ np (-1) 62 _ rfl (by kernel_rfl) rfl rfl (by kernel_rfl) rfl, ?_⟩
          refine ⟨step_subC _ 1 (np : Int) (np : Int) rfl (by kernel_rfl) rfl rfl (by omega), ?_⟩
          refine ⟨step_moveI _ (x : Int) 0 ((np : Int) - 1) rfl rfl (by kernel_rfl) rfl (by omega), ?_⟩
          refine ⟨step_addC _ 1 0 ((np : Int) - 1) rfl (by kernel_rfl) rfl rfl (by omega), ?_⟩
          refine ⟨step_move _ rfl rfl (by kernel_rfl) rfl, ?_⟩
          refine ⟨step_pick _ _ _ rfl (by kernel_rfl) rfl rfl (by omega) (by omega) (by omega) (by first | (simp; done) | (simp; omega)) hX, ?_⟩
          refine ⟨step_add _ _ (0 + 1) ((np : Int) - 1 + 1) 0 (4 - 1) rfl (by kernel_rfl) rfl (by kernel_rfl) rfl rfl (by omega), ?_⟩
          refine ⟨step_min _ _ ((np : Int) - 1) ((np : Int) - 1) (0 + 1 + 0) ((np : Int) - 1 + 1 + (4 - 1)) 0 ((np : Int) - 1) _ rfl (by kernel_rfl) rfl (by kernel_rfl) rfl rfl (by omega) (by omega), ?_⟩
          refine ⟨step_indexPl _ _ np (-1) 62 ((np : Int) - 1) rfl (by kernel_rfl) rfl (by kernel_rfl) rfl (by omega) rfl, ?_⟩
          refine ⟨step_load _ _ _ rfl (by kernel_rfl) rfl rfl, ?_⟩
          refine ⟨step_assign _ rfl (by kernel_rfl) rfl, ?_⟩
          refine ⟨step_assign _ rfl (by kernel_rfl) rfl, ?_⟩
          exact trivial
        · intro vs w4 q4 hq4 hr4 hb4 hx4 hT
          obtain ⟨y, hy, y0, y1⟩ := hT 16 _ rfl
          obtain ⟨z, hz, z0, z1⟩ := hT 17 _ rfl
          have hr4' := hide hr4
          have hx4' := hide hx4.1
          clear hT hq4 hr4 hb4 hx4 hr3 hgg3 hpl3 hX
          simp only [endTmps, Nat.reduceAdd, List.setIfInBounds_toArray, List.set_cons_succ, List.set_cons_zero]
          rw [hy, hz]
          go_wp2
          unfold EndP
          go_ret2
          exact ⟨y, z, _, rfl, by omega, by omega, hr4'.out, hx4'.out⟩
def LinD (w : World) (e : Ending) (w' : World) : Prop := ∃ (L : List I) (v : Value) (n : Nat) (y z : Int), e = .returned (.tuple #[v, .int .i64 y, .int .i64 z]) ∧ n ≤ 62 ∧ L.length = n ∧ (-3 ≤ y ∧ y ≤ 100) ∧ (-3 ≤ z ∧ z ≤ 100) ∧ w'.ownsRow w.heap.size 29 7 v n (cellsI L) ∧ Below w.heap.size w w'
set_option maxHeartbeats 1000000 in
theorem drawLG (w : World) (A : Option Addr) (n c : Nat) (l : List Int) (hl : List.length l = n) (hc : n ≤ c) (hn63 : n < 4611686018427387904) (h : Rd w 1 A n (cellsB l)) (h5 : ∀ z ∈ l, 0 ≤ z ∧ z ≤ 255) :
    Calls Try.prog 63 #[.slice A n c] w (LinD w) := by
  go_enter Try.func63, Try.ntmps63
  go_wp2_with (fail)
  refine (l20Open_any w A n c l hl hc hn63 h h5).mono ?_
  rintro e w1 ⟨rfl, hr, hb⟩
  have hz1 := hb.size
  have hg0 : w.heap.size < w1.heap.size := hr.lt
  clear h h5 hl
  go_wp2_with (fail)
  refine (l20Items_any w.heap.size 0 12 w1 hr (by omega) (by omega)).mono ?_
  rintro e w3 ⟨L, v, k, q, rfl, hk, hL, hown, hq, hr3, hg3⟩
  obtain ⟨A1, c1, rfl, _, hrd⟩ := own_form hown
  have hne := hide (fun kk hkk => hown.lt kk hkk)
  have hL' := hide hL
  clear hr
  go_wp2_with (fail)
  refine (l20Ends_any w.heap.size q A1 k c1 L w3 hr3 (by omega) hk hL hrd).mono ?_
  rintro e w4 ⟨y, z, q4, rfl, hy, hz, hr4, hg4⟩
  have hown4 := hide (own_mono (own_keep hown (fun kk hkk => hg4.block kk ((hne.out kk hkk).2) (fun e => by have := (hne.out kk hkk).1; injection e with e; omega))) hz1)
  have hb3 := Below.only hb hg3 hz1 (Nat.le_refl _)
  have hb4 := hide (Below.only hb3 hg4 hb3.size (Nat.le_refl _))
  clear hb hb3 hg3 hg4 hr3 hr4 hown hrd hL hne
  go_wp2
  unfold LinD
  refine bodyPost_ret (v := .tuple #[.slice A1 k c1, .int .i64 y, .int .i64 z]) (by simp [results, Try.results63, go_sem]) rfl ⟨L, _, k, y, z, rfl, hk, hL'.out, hy, hz, hown4.out, hb4.out⟩
theorem drawLI (w : World) (A : Option Addr) (n c : Nat) (l : List Int) (hl : List.length l = n) (hc : n ≤ c) (hn63 : n < 4611686018427387904) (h : Rd w 1 A n (cellsB l)) (h5 : ∀ z ∈ l, 0 ≤ z ∧ z ≤ 255) :
    Calls Try.prog 68 #[.slice A n c] w (LinD w) := by
  have hd := hide (drawLG w A n c l hl hc hn63 h h5)
  clear h h5 hl
  go_enter Try.func68, Try.ntmps68
  go_wp2_with (fail)
  refine hd.out.mono ?_
  rintro e w1 ⟨L, v, k, y, z, rfl, hk, hL, hy, hz, hown, hb⟩
  have hown' := hide hown
  have hL' := hide hL
  have hb' := hide hb
  clear hown hL hb hd
  go_wp2
  unfold LinD
  refine bodyPost_ret (v := .tuple #[v, .int .i64 y, .int .i64 z]) (by simp [results, Try.results68, go_sem]) rfl ⟨L, _, k, y, z, rfl, hk, hL'.out, hy, hz, hown'.out, hb'.out⟩
end Go.Proofs.Ytocaonlmlafjmaa
