/- What the draw of an item gives: some item. Condition: the reader's block is its own. -/
import Derived.Test.YtocaonlmlafjmaaDrGlue
import Derived.Test.YtocaonlmlafjmaaExI
namespace Go.Proofs.Ytocaonlmlafjmaa
open Go.RowKit
set_option linter.unusedVariables false
set_option linter.unusedSimpArgs false
set_option maxRecDepth 100000

theorem sz_set (w : World) (p : Addr) (v : Value) : (w.setCell p v).heap.size = w.heap.size := by simp [World.setCell]
structure ItAt (w0 : World) (g r b p : Nat) (x : I) (w : World) : Prop where
  hg : g < w0.heap.size
  hr : w0.heap.size ≤ r
  hb : r < b
  own : w0.grownBy w (some g)
  rd : RdS w g p
  res : Blk w r 29 #[.int .i64 0, .int .i64 0, .int .i64 0, .int .i64 0, .int .i64 0, .int .i64 0, .bool false]
  it : Blk w b 29 #[.int .i64 x.k, .int .i64 x.g.w, .int .i64 x.g.st, .int .i64 x.g.sh, .int .i64 x.g.o, .int .i64 x.c, .bool x.m]
section
variable {w0 w w' : World} {g r b p p' : Nat} {x : I}
theorem ItAt.step (h : ItAt w0 g r b p x w) (hg : w.grownBy w' (some g)) (hr : RdS w' g p') : ItAt w0 g r b p' x w' :=
  ⟨h.hg, h.hr, h.hb, only_trans h.own hg, hr, h.res.grown hg (fun e => by injection e with e; have := h.hg; have := h.hr; omega), h.it.grown hg (fun e => by injection e with e; have := h.hg; have := h.hr; have := h.hb; omega)⟩
theorem ItAt.alloc (h : ItAt w0 g r b p x w) (ob : Obj) : ItAt w0 g r b p x (w.alloc ob) :=
  ⟨h.hg, h.hr, h.hb, only_alloc h.own ob, h.rd.alloc ob, h.res.alloc ob, h.it.alloc ob⟩
theorem ItAt.setG (h : ItAt w0 g r b p x w) (y : G) : ItAt w0 g r b p ⟨x.k, y, x.c, x.m⟩ ((((w.setCell ⟨b, 1, none⟩ (.int .i64 y.w)).setCell ⟨b, 2, none⟩ (.int .i64 y.st)).setCell ⟨b, 3, none⟩ (.int .i64 y.sh)).setCell ⟨b, 4, none⟩ (.int .i64 y.o)) := by
  have h1 := h.hg
  have h2 := h.hr
  have h3 := h.hb
  have hgb : g < b := by omega
  have hr : r ≠ b := by omega
  have hw : w0.heap.size ≤ b := by omega
  exact ⟨h1, h2, h3, only_setCell (only_setCell (only_setCell (only_setCell h.own (.inr hw) _) (.inr hw) _) (.inr hw) _) (.inr hw) _, (((h.rd.setCell hgb _).setCell hgb _).setCell hgb _).setCell hgb _,
    (((h.res.far hr _).far hr _).far hr _).far hr _, (((h.it.set_ 1 (.int .i64 y.w)).set_ 2 (.int .i64 y.st)).set_ 3 (.int .i64 y.sh)).set_ 4 (.int .i64 y.o)⟩
theorem ItAt.setK (h : ItAt w0 g r b p x w) (k : Int) : ItAt w0 g r b p ⟨k, x.g, x.c, x.m⟩ (w.setCell ⟨b, 0, none⟩ (.int .i64 k)) := by
  have h1 := h.hg
  have h2 := h.hr
  have h3 := h.hb
  exact ⟨h1, h2, h3, only_setCell h.own (.inr (by show w0.heap.size ≤ b; omega)) _, h.rd.setCell (by omega) _, h.res.far (by show r ≠ b; omega) _, h.it.set_ 0 (.int .i64 k)⟩
theorem ItAt.setC (h : ItAt w0 g r b p x w) (c : Int) : ItAt w0 g r b p ⟨x.k, x.g, c, x.m⟩ (w.setCell ⟨b, 5, none⟩ (.int .i64 c)) := by
  have h1 := h.hg
  have h2 := h.hr
  have h3 := h.hb
  exact ⟨h1, h2, h3, only_setCell h.own (.inr (by show w0.heap.size ≤ b; omega)) _, h.rd.setCell (by omega) _, h.res.far (by show r ≠ b; omega) _, h.it.set_ 5 (.int .i64 c)⟩
theorem ItAt.setM (h : ItAt w0 g r b p x w) (m : Bool) : ItAt w0 g r b p ⟨x.k, x.g, x.c, m⟩ (w.setCell ⟨b, 6, none⟩ (.bool m)) := by
  have h1 := h.hg
  have h2 := h.hr
  have h3 := h.hb
  exact ⟨h1, h2, h3, only_setCell h.own (.inr (by show w0.heap.size ≤ b; omega)) _, h.rd.setCell (by omega) _, h.res.far (by show r ≠ b; omega) _, h.it.set_ 6 (.bool m)⟩
theorem ItAt.setAll (h : ItAt w0 g r b p x w) (y : I) : ItAt w0 g r b p y (((((((w.setCell ⟨b, 0, none⟩ (.int .i64 y.k)).setCell ⟨b, 1, none⟩ (.int .i64 y.g.w)).setCell ⟨b, 2, none⟩ (.int .i64 y.g.st)).setCell ⟨b, 3, none⟩ (.int .i64 y.g.sh)).setCell ⟨b, 4, none⟩ (.int .i64 y.g.o)).setCell ⟨b, 5, none⟩ (.int .i64 y.c)).setCell ⟨b, 6, none⟩ (.bool y.m)) :=
  ((((h.setK y.k).setG y.g).setC y.c).setM y.m)
theorem ItAt.out_rd (h : ItAt w0 g r b p x w) : RdS (((((((w.setCell ⟨r, 0, none⟩ (.int .i64 x.k)).setCell ⟨r, 1, none⟩ (.int .i64 x.g.w)).setCell ⟨r, 2, none⟩ (.int .i64 x.g.st)).setCell ⟨r, 3, none⟩ (.int .i64 x.g.sh)).setCell ⟨r, 4, none⟩ (.int .i64 x.g.o)).setCell ⟨r, 5, none⟩ (.int .i64 x.c)).setCell ⟨r, 6, none⟩ (.bool x.m)) g p := by
  have hgr : g < r := by have := h.hg; have := h.hr; omega
  exact ((((((h.rd.setCell hgr _).setCell hgr _).setCell hgr _).setCell hgr _).setCell hgr _).setCell hgr _).setCell hgr _
theorem ItAt.out_own (h : ItAt w0 g r b p x w) : w0.grownBy (((((((w.setCell ⟨r, 0, none⟩ (.int .i64 x.k)).setCell ⟨r, 1, none⟩ (.int .i64 x.g.w)).setCell ⟨r, 2, none⟩ (.int .i64 x.g.st)).setCell ⟨r, 3, none⟩ (.int .i64 x.g.sh)).setCell ⟨r, 4, none⟩ (.int .i64 x.g.o)).setCell ⟨r, 5, none⟩ (.int .i64 x.c)).setCell ⟨r, 6, none⟩ (.bool x.m)) (some g) := by
  have hw := h.hr
  exact only_setCell (only_setCell (only_setCell (only_setCell (only_setCell (only_setCell (only_setCell h.own (.inr hw) _) (.inr hw) _) (.inr hw) _) (.inr hw) _) (.inr hw) _) (.inr hw) _) (.inr hw) _
end
def ItemP (g p : Nat) (w : World) (e : Ending) (w' : World) : Prop := ∃ (x : I) (q : Nat), e = .returned (iVal x) ∧ q ≤ p + 60 ∧ RdS w' g q ∧ w.grownBy w' (some g)
set_option maxHeartbeats 4000000 in
theorem l20Item_any (g p : Nat) (m : Int) (w : World) (h : RdS w g p) (hp : p ≤ 800000) (hm : 0 ≤ m ∧ m ≤ 1000000) :
    Calls Try.prog 74 #[.pointer (some ⟨g, 0, none⟩), .int .i64 m] w (ItemP g p w) := by
  have hgl0 := h.lt
  have hk0 := (Blk.new w 29 #[.int .i64 0, .int .i64 0, .int .i64 0, .int .i64 0, .int .i64 0, .int .i64 0, .bool false]).alloc (.cells (cellsN [1, 1, 2, 2, 3]).toArray 3)
  have ho0 := only_alloc (only_alloc (only_refl w (some g)) (.cells #[.int .i64 0, .int .i64 0, .int .i64 0, .int .i64 0, .int .i64 0, .int .i64 0, .bool false] 29)) (.cells (cellsN [1, 1, 2, 2, 3]).toArray 3)
  have hs0 := (h.alloc (.cells #[.int .i64 0, .int .i64 0, .int .i64 0, .int .i64 0, .int .i64 0, .int .i64 0, .bool false] 29)).alloc (.cells (cellsN [1, 1, 2, 2, 3]).toArray 3)
  have hrow := Blk.new (w.alloc (.cells #[.int .i64 0, .int .i64 0, .int .i64 0, .int .i64 0, .int .i64 0, .int .i64 0, .bool false] 29)) 3 (cellsN [1, 1, 2, 2, 3]).toArray
  rw [World.size_alloc] at hrow
  clear h
  go_enter Try.func74, Try.ntmps74
  go_wp2_with (fail)
  show Calls _ _ _ ((w.alloc (.cells #[.int .i64 0, .int .i64 0, .int .i64 0, .int .i64 0, .int .i64 0, .int .i64 0, .bool false] 29)).alloc (.cells (cellsN [1, 1, 2, 2, 3]).toArray 3)) _
  have hrl := hk0.lt
  generalize (w.alloc (.cells #[.int .i64 0, .int .i64 0, .int .i64 0, .int .i64 0, .int .i64 0, .int .i64 0, .bool false] 29)).alloc (.cells (cellsN [1, 1, 2, 2, 3]).toArray 3) = wa at hk0 ho0 hs0 hrow hrl ⊢
  go_at_call 80
  refine (pick_any g p 5 _ hs0 (by omega) (by omega)).mono ?_
  rintro e w1 ⟨k, rfl, k0, k1, hs1, hg1⟩
  have hk1 := hk0.grown hg1 (fun e => by injection e with e; omega)
  have hrow1 := hrow.grown hg1 (fun e => by injection e with e; omega)
  have ho1 := only_trans ho0 hg1
  have hb1 := hide (show w.heap.size < w1.heap.size from hk1.lt)
  obtain ⟨k, rfl⟩ := Int.eq_ofNat_of_zero_le k0
  have hk5 : k < 5 := by omega
  have hi5 : (k : Int) < 5 := by omega
  obtain ⟨c, hc, hc3⟩ : ∃ c : Int, ([1, 1, 2, 2, 3] : List Int)[k]? = some c ∧ (c = 1 ∨ c = 2 ∨ c = 3) := by
    have : k = 0 ∨ k = 1 ∨ k = 2 ∨ k = 3 ∨ k = 4 := by omega
    rcases this with rfl | rfl | rfl | rfl | rfl <;> exact ⟨_, rfl, by omega⟩
  obtain ⟨mc, mfc⟩ := hrow1.intAt hc
  have H1 := hide (show ItAt w g w.heap.size w1.heap.size (p + 1) ⟨c, ⟨0, 0, 0, 0⟩, 0, false⟩ (w1.alloc (.cells #[.int .i64 c, .int .i64 0, .int .i64 0, .int .i64 0, .int .i64 0, .int .i64 0, .bool false] 29)) from
    ⟨hgl0, Nat.le_refl _, hb1.out, only_alloc ho1 _, hs1.alloc _, hk1.alloc _, Blk.new w1 _ _⟩)
  clear hk0 ho0 hs0 hrow hg1 hk1 hrow1 ho1 hs1 k0 k1 hc hrl
  have hgr := H1.out.hg
  have hwr : w.heap.size < w1.heap.size := hb1.out
  rcases hc3 with rfl | rfl | rfl
  · go_wp2_with (fail)
    clear mc mfc
    generalize w1.alloc (.cells #[.int .i64 1, .int .i64 0, .int .i64 0, .int .i64 0, .int .i64 0, .int .i64 0, .bool false] 29) = w2 at H1 ⊢
    generalize hbe : w1.heap.size = b at H1 hwr ⊢
    go_at_call 80
    refine (pick_any g (p + 1) 30 _ H1.out.rd (by omega) (by omega)).mono ?_
    rintro e w3 ⟨z, rfl, z0, z1, hsw3, hgw3⟩
    have H3 := hide (H1.out.step hgw3 hsw3)
    clear hsw3 hgw3
    obtain ⟨na0, na1, na2, na3, na4, na5, na6⟩ := H3.out.it.c7
    obtain ⟨na7, na8, na9, na10, na11, na12, na13⟩ := H3.out.it.f7
    clear H1
    go_wp2_with (fail)
    obtain ⟨x, Hx⟩ : ∃ x, Hid (ItAt w g w.heap.size b (p + 1 + 1) x ((((w3.setCell ⟨b, 1, none⟩ (.int .i64 (1 + z))).setCell ⟨b, 2, none⟩ (.int .i64 0)).setCell ⟨b, 3, none⟩ (.int .i64 0)).setCell ⟨b, 4, none⟩ (.int .i64 0))) := ⟨_, hide (H3.out.setG ⟨1 + z, 0, 0, 0⟩)⟩
    generalize (((w3.setCell ⟨b, 1, none⟩ (.int .i64 (1 + z))).setCell ⟨b, 2, none⟩ (.int .i64 0)).setCell ⟨b, 3, none⟩ (.int .i64 0)).setCell ⟨b, 4, none⟩ (.int .i64 0) = w7 at Hx ⊢
    obtain ⟨q, hq⟩ : ∃ q, q = p + 1 + 1 := ⟨_, rfl⟩
    rw [← hq] at Hx
    have hqb : q ≤ p + 12 := by omega
    clear hq H3 na0 na1 na2 na3 na4 na5 na6 na7 na8 na9 na10 na11 na12 na13 z0 z1
    go_at_call 102
    refine (odd_any g q m _ Hx.out.rd (by omega) (by omega)).mono ?_
    rintro e w8 ⟨bo, q2, rfl, hbo, hr8, hq1, hq2, hg8⟩
    have H8 := hide (Hx.out.step hg8 hr8)
    clear hbo hr8 hg8 Hx
    cases bo with
    | false =>
      obtain ⟨ka0, ka1, ka2, ka3, ka4, ka5, ka6⟩ := H8.out.it.c7
      obtain ⟨ka7, ka8, ka9, ka10, ka11, ka12, ka13⟩ := H8.out.it.f7
      obtain ⟨ja0, ja1, ja2, ja3, ja4, ja5, ja6⟩ := H8.out.res.c7
      obtain ⟨ja7, ja8, ja9, ja10, ja11, ja12, ja13⟩ := H8.out.res.f7
      have hne : ¬ b = w.heap.size := by have := H8.out.hb; omega
      have hne2 : ¬ w.heap.size = b := by have := H8.out.hb; omega
      go_wp2
      refine bodyPost_ret (v := iVal x) (by simp [results, Try.results74, go_sem, iVal, ja0, ja1, ja2, ja3, ja4, ja5, ja6, ja7, ja8, ja9, ja10, ja11, ja12, ja13, ka0, ka1, ka2, ka3, ka4, ka5, ka6, ka7, ka8, ka9, ka10, ka11, ka12, ka13, hne, hne2]) rfl ⟨x, q2, rfl, by omega, H8.out.out_rd, H8.out.out_own⟩
    | true =>
      go_wp2_with (fail)
      go_at_call 80
      refine (pick_any g (q2) 5 _ H8.out.rd (by omega) (by omega)).mono ?_
      rintro e w9 ⟨t, rfl, t0, t1, hsw9, hgw9⟩
      have H9 := hide (H8.out.step hgw9 hsw9)
      clear hsw9 hgw9
      clear H8
      by_cases e0 : t = 0
      · subst e0
        go_wp2_with (fail)
        have hrow := Blk.new w9 3 (cellsN [0, 4]).toArray
        have Ha := hide (H9.out.alloc (.cells (cellsN [0, 4]).toArray 3))
        have hgl := H9.out.rd.lt
        show Calls _ _ _ (w9.alloc (.cells (cellsN [0, 4]).toArray 3)) _
        generalize w9.alloc (.cells (cellsN [0, 4]).toArray 3) = wa at hrow Ha ⊢
        generalize w9.heap.size = d at hrow hgl ⊢
        go_at_call 80
        refine (pick_any g (q2 + 1) 2 _ Ha.out.rd (by omega) (by omega)).mono ?_
        rintro e w10 ⟨k, rfl, k0, k1, hs, hg⟩
        have H10 := hide (Ha.out.step hg hs)
        have hrow2 := hrow.grown hg (fun e => by injection e with e; omega)
        obtain ⟨k, rfl⟩ := Int.eq_ofNat_of_zero_le k0
        have hkk : k < 2 := by omega
        have hik : (k : Int) < 2 := by omega
        obtain ⟨c, hc⟩ : ∃ c : Int, ([0, 4] : List Int)[k]? = some c := by
          have : k = 0 ∨ k = 1 := by omega
          rcases this with rfl | rfl <;> exact ⟨_, rfl⟩
        obtain ⟨mc, mfc⟩ := hrow2.intAt hc
        clear hrow hrow2 hs hg hc Ha hgl k0 k1
        obtain ⟨ka0, ka1, ka2, ka3, ka4, ka5, ka6⟩ := H10.out.it.c7
        obtain ⟨ka7, ka8, ka9, ka10, ka11, ka12, ka13⟩ := H10.out.it.f7
        obtain ⟨ja0, ja1, ja2, ja3, ja4, ja5, ja6⟩ := H10.out.res.c7
        obtain ⟨ja7, ja8, ja9, ja10, ja11, ja12, ja13⟩ := H10.out.res.f7
        have hne : ¬ b = w.heap.size := by have := H10.out.hb; omega
        have hne2 : ¬ w.heap.size = b := by have := H10.out.hb; omega
        have Hf := hide (H10.out.setK c)
        clear H10
        go_wp2
        refine bodyPost_ret (v := iVal ⟨c, x.g, x.c, x.m⟩) (by simp [results, Try.results74, go_sem, iVal, ja0, ja1, ja2, ja3, ja4, ja5, ja6, ja7, ja8, ja9, ja10, ja11, ja12, ja13, ka0, ka1, ka2, ka3, ka4, ka5, ka6, ka7, ka8, ka9, ka10, ka11, ka12, ka13, hne, hne2]) rfl ⟨⟨c, x.g, x.c, x.m⟩, q2 + 1 + 1, rfl, by omega, Hf.out.out_rd, Hf.out.out_own⟩
      have d0 : (t == 0) = false := by simpa using e0
      by_cases e1 : t = 1
      · subst e1
        go_wp2_with (fail)
        go_at_call 103
        refine (l20Glue_any g (q2 + 1) 1 _ H9.out.rd (by omega) (by omega)).mono ?_
        rintro e w10 ⟨y, q3, rfl, hy, hq3, hr10, hg10⟩
        have H10 := hide (H9.out.step hg10 hr10)
        clear hy hr10 hg10 H9
        unfold gVal
        obtain ⟨ka0, ka1, ka2, ka3, ka4, ka5, ka6⟩ := H10.out.it.c7
        obtain ⟨ka7, ka8, ka9, ka10, ka11, ka12, ka13⟩ := H10.out.it.f7
        obtain ⟨ja0, ja1, ja2, ja3, ja4, ja5, ja6⟩ := H10.out.res.c7
        obtain ⟨ja7, ja8, ja9, ja10, ja11, ja12, ja13⟩ := H10.out.res.f7
        have hne : ¬ b = w.heap.size := by have := H10.out.hb; omega
        have hne2 : ¬ w.heap.size = b := by have := H10.out.hb; omega
        have Hf := hide (H10.out.setG y)
        clear H10
        go_wp2
        refine bodyPost_ret (v := iVal ⟨x.k, y, x.c, x.m⟩) (by simp [results, Try.results74, go_sem, iVal, ja0, ja1, ja2, ja3, ja4, ja5, ja6, ja7, ja8, ja9, ja10, ja11, ja12, ja13, ka0, ka1, ka2, ka3, ka4, ka5, ka6, ka7, ka8, ka9, ka10, ka11, ka12, ka13, hne, hne2]) rfl ⟨⟨x.k, y, x.c, x.m⟩, q3, rfl, by omega, Hf.out.out_rd, Hf.out.out_own⟩
      have d1 : (t == 1) = false := by simpa using e1
      by_cases e2 : t = 2
      · subst e2
        go_wp2_with (fail)
        have hrow := Blk.new w9 3 (cellsN [-1, 10001]).toArray
        have Ha := hide (H9.out.alloc (.cells (cellsN [-1, 10001]).toArray 3))
        have hgl := H9.out.rd.lt
        show Calls _ _ _ (w9.alloc (.cells (cellsN [-1, 10001]).toArray 3)) _
        generalize w9.alloc (.cells (cellsN [-1, 10001]).toArray 3) = wa at hrow Ha ⊢
        generalize w9.heap.size = d at hrow hgl ⊢
        go_at_call 80
        refine (pick_any g (q2 + 1) 2 _ Ha.out.rd (by omega) (by omega)).mono ?_
        rintro e w10 ⟨k, rfl, k0, k1, hs, hg⟩
        have H10 := hide (Ha.out.step hg hs)
        have hrow2 := hrow.grown hg (fun e => by injection e with e; omega)
        obtain ⟨k, rfl⟩ := Int.eq_ofNat_of_zero_le k0
        have hkk : k < 2 := by omega
        have hik : (k : Int) < 2 := by omega
        obtain ⟨c, hc⟩ : ∃ c : Int, ([-1, 10001] : List Int)[k]? = some c := by
          have : k = 0 ∨ k = 1 := by omega
          rcases this with rfl | rfl <;> exact ⟨_, rfl⟩
        obtain ⟨mc, mfc⟩ := hrow2.intAt hc
        clear hrow hrow2 hs hg hc Ha hgl k0 k1
        obtain ⟨ka0, ka1, ka2, ka3, ka4, ka5, ka6⟩ := H10.out.it.c7
        obtain ⟨ka7, ka8, ka9, ka10, ka11, ka12, ka13⟩ := H10.out.it.f7
        obtain ⟨ja0, ja1, ja2, ja3, ja4, ja5, ja6⟩ := H10.out.res.c7
        obtain ⟨ja7, ja8, ja9, ja10, ja11, ja12, ja13⟩ := H10.out.res.f7
        have hne : ¬ b = w.heap.size := by have := H10.out.hb; omega
        have hne2 : ¬ w.heap.size = b := by have := H10.out.hb; omega
        have Hf := hide (H10.out.setC c)
        clear H10
        go_wp2
        refine bodyPost_ret (v := iVal ⟨x.k, x.g, c, x.m⟩) (by simp [results, Try.results74, go_sem, iVal, ja0, ja1, ja2, ja3, ja4, ja5, ja6, ja7, ja8, ja9, ja10, ja11, ja12, ja13, ka0, ka1, ka2, ka3, ka4, ka5, ka6, ka7, ka8, ka9, ka10, ka11, ka12, ka13, hne, hne2]) rfl ⟨⟨x.k, x.g, c, x.m⟩, q2 + 1 + 1, rfl, by omega, Hf.out.out_rd, Hf.out.out_own⟩
      have d2 : (t == 2) = false := by simpa using e2
      by_cases e3 : t = 3
      · subst e3
        obtain ⟨ka0, ka1, ka2, ka3, ka4, ka5, ka6⟩ := H9.out.it.c7
        obtain ⟨ka7, ka8, ka9, ka10, ka11, ka12, ka13⟩ := H9.out.it.f7
        obtain ⟨ja0, ja1, ja2, ja3, ja4, ja5, ja6⟩ := H9.out.res.c7
        obtain ⟨ja7, ja8, ja9, ja10, ja11, ja12, ja13⟩ := H9.out.res.f7
        have hne : ¬ b = w.heap.size := by have := H9.out.hb; omega
        have hne2 : ¬ w.heap.size = b := by have := H9.out.hb; omega
        have Hf := hide (H9.out.setAll ⟨1, ⟨0, 0, 0, 0⟩, 0, true⟩)
        clear H9
        go_wp2
        refine bodyPost_ret (v := iVal ⟨1, ⟨0, 0, 0, 0⟩, 0, true⟩) (by simp [results, Try.results74, go_sem, iVal, ja0, ja1, ja2, ja3, ja4, ja5, ja6, ja7, ja8, ja9, ja10, ja11, ja12, ja13, ka0, ka1, ka2, ka3, ka4, ka5, ka6, ka7, ka8, ka9, ka10, ka11, ka12, ka13, hne, hne2]) rfl ⟨⟨1, ⟨0, 0, 0, 0⟩, 0, true⟩, q2 + 1, rfl, by omega, Hf.out.out_rd, Hf.out.out_own⟩
      have d3 : (t == 3) = false := by simpa using e3
      obtain ⟨ka0, ka1, ka2, ka3, ka4, ka5, ka6⟩ := H9.out.it.c7
      obtain ⟨ka7, ka8, ka9, ka10, ka11, ka12, ka13⟩ := H9.out.it.f7
      obtain ⟨ja0, ja1, ja2, ja3, ja4, ja5, ja6⟩ := H9.out.res.c7
      obtain ⟨ja7, ja8, ja9, ja10, ja11, ja12, ja13⟩ := H9.out.res.f7
      have hne : ¬ b = w.heap.size := by have := H9.out.hb; omega
      have hne2 : ¬ w.heap.size = b := by have := H9.out.hb; omega
      have Hf := hide (H9.out.setAll ⟨3, ⟨1, 1, 0, 0⟩, 0, false⟩)
      clear H9
      go_wp2
      refine bodyPost_ret (v := iVal ⟨3, ⟨1, 1, 0, 0⟩, 0, false⟩) (by simp [results, Try.results74, go_sem, iVal, ja0, ja1, ja2, ja3, ja4, ja5, ja6, ja7, ja8, ja9, ja10, ja11, ja12, ja13, ka0, ka1, ka2, ka3, ka4, ka5, ka6, ka7, ka8, ka9, ka10, ka11, ka12, ka13, hne, hne2]) rfl ⟨⟨3, ⟨1, 1, 0, 0⟩, 0, false⟩, q2 + 1, rfl, by omega, Hf.out.out_rd, Hf.out.out_own⟩
  · go_wp2_with (fail)
    clear mc mfc
    generalize w1.alloc (.cells #[.int .i64 2, .int .i64 0, .int .i64 0, .int .i64 0, .int .i64 0, .int .i64 0, .bool false] 29) = w2 at H1 ⊢
    generalize hbe : w1.heap.size = b at H1 hwr ⊢
    go_at_call 80
    refine (pick_any g (p + 1) 3 _ H1.out.rd (by omega) (by omega)).mono ?_
    rintro e w3 ⟨z, rfl, z0, z1, hsw3, hgw3⟩
    have H3 := hide (H1.out.step hgw3 hsw3)
    clear hsw3 hgw3
    clear H1
    go_wp2_with (fail)
    go_at_call 80
    refine (pick_any g (p + 1 + 1) 4 _ H3.out.rd (by omega) (by omega)).mono ?_
    rintro e w4 ⟨y, rfl, y0, y1, hsw4, hgw4⟩
    have H4 := hide (H3.out.step hgw4 hsw4)
    clear hsw4 hgw4
    clear H3
    go_wp2_with (fail)
    go_at_call 80
    refine (pick_any g (p + 1 + 1 + 1) 3 _ H4.out.rd (by omega) (by omega)).mono ?_
    rintro e w5 ⟨v, rfl, v0, v1, hsw5, hgw5⟩
    have H5 := hide (H4.out.step hgw5 hsw5)
    clear hsw5 hgw5
    clear H4
    obtain ⟨na0, na1, na2, na3, na4, na5, na6⟩ := H5.out.it.c7
    obtain ⟨na7, na8, na9, na10, na11, na12, na13⟩ := H5.out.it.f7
    go_wp2_with (fail)
    obtain ⟨x, Hx⟩ : ∃ x, Hid (ItAt w g w.heap.size b (p + 1 + 1 + 1 + 1) x ((((w5.setCell ⟨b, 1, none⟩ (.int .i64 (3 + z))).setCell ⟨b, 2, none⟩ (.int .i64 y)).setCell ⟨b, 3, none⟩ (.int .i64 v)).setCell ⟨b, 4, none⟩ (.int .i64 0))) := ⟨_, hide (H5.out.setG ⟨3 + z, y, v, 0⟩)⟩
    generalize (((w5.setCell ⟨b, 1, none⟩ (.int .i64 (3 + z))).setCell ⟨b, 2, none⟩ (.int .i64 y)).setCell ⟨b, 3, none⟩ (.int .i64 v)).setCell ⟨b, 4, none⟩ (.int .i64 0) = w7 at Hx ⊢
    obtain ⟨q, hq⟩ : ∃ q, q = p + 1 + 1 + 1 + 1 := ⟨_, rfl⟩
    rw [← hq] at Hx
    have hqb : q ≤ p + 12 := by omega
    clear hq H5 na0 na1 na2 na3 na4 na5 na6 na7 na8 na9 na10 na11 na12 na13 z0 z1 y0 y1 v0 v1
    go_at_call 102
    refine (odd_any g q m _ Hx.out.rd (by omega) (by omega)).mono ?_
    rintro e w8 ⟨bo, q2, rfl, hbo, hr8, hq1, hq2, hg8⟩
    have H8 := hide (Hx.out.step hg8 hr8)
    clear hbo hr8 hg8 Hx
    cases bo with
    | false =>
      obtain ⟨ka0, ka1, ka2, ka3, ka4, ka5, ka6⟩ := H8.out.it.c7
      obtain ⟨ka7, ka8, ka9, ka10, ka11, ka12, ka13⟩ := H8.out.it.f7
      obtain ⟨ja0, ja1, ja2, ja3, ja4, ja5, ja6⟩ := H8.out.res.c7
      obtain ⟨ja7, ja8, ja9, ja10, ja11, ja12, ja13⟩ := H8.out.res.f7
      have hne : ¬ b = w.heap.size := by have := H8.out.hb; omega
      have hne2 : ¬ w.heap.size = b := by have := H8.out.hb; omega
      go_wp2
      refine bodyPost_ret (v := iVal x) (by simp [results, Try.results74, go_sem, iVal, ja0, ja1, ja2, ja3, ja4, ja5, ja6, ja7, ja8, ja9, ja10, ja11, ja12, ja13, ka0, ka1, ka2, ka3, ka4, ka5, ka6, ka7, ka8, ka9, ka10, ka11, ka12, ka13, hne, hne2]) rfl ⟨x, q2, rfl, by omega, H8.out.out_rd, H8.out.out_own⟩
    | true =>
      go_wp2_with (fail)
      go_at_call 80
      refine (pick_any g (q2) 5 _ H8.out.rd (by omega) (by omega)).mono ?_
      rintro e w9 ⟨t, rfl, t0, t1, hsw9, hgw9⟩
      have H9 := hide (H8.out.step hgw9 hsw9)
      clear hsw9 hgw9
      clear H8
      by_cases e0 : t = 0
      · subst e0
        go_wp2_with (fail)
        have hrow := Blk.new w9 3 (cellsN [0, 4]).toArray
        have Ha := hide (H9.out.alloc (.cells (cellsN [0, 4]).toArray 3))
        have hgl := H9.out.rd.lt
        show Calls _ _ _ (w9.alloc (.cells (cellsN [0, 4]).toArray 3)) _
        generalize w9.alloc (.cells (cellsN [0, 4]).toArray 3) = wa at hrow Ha ⊢
        generalize w9.heap.size = d at hrow hgl ⊢
        go_at_call 80
        refine (pick_any g (q2 + 1) 2 _ Ha.out.rd (by omega) (by omega)).mono ?_
        rintro e w10 ⟨k, rfl, k0, k1, hs, hg⟩
        have H10 := hide (Ha.out.step hg hs)
        have hrow2 := hrow.grown hg (fun e => by injection e with e; omega)
        obtain ⟨k, rfl⟩ := Int.eq_ofNat_of_zero_le k0
        have hkk : k < 2 := by omega
        have hik : (k : Int) < 2 := by omega
        obtain ⟨c, hc⟩ : ∃ c : Int, ([0, 4] : List Int)[k]? = some c := by
          have : k = 0 ∨ k = 1 := by omega
          rcases this with rfl | rfl <;> exact ⟨_, rfl⟩
        obtain ⟨mc, mfc⟩ := hrow2.intAt hc
        clear hrow hrow2 hs hg hc Ha hgl k0 k1
        obtain ⟨ka0, ka1, ka2, ka3, ka4, ka5, ka6⟩ := H10.out.it.c7
        obtain ⟨ka7, ka8, ka9, ka10, ka11, ka12, ka13⟩ := H10.out.it.f7
        obtain ⟨ja0, ja1, ja2, ja3, ja4, ja5, ja6⟩ := H10.out.res.c7
        obtain ⟨ja7, ja8, ja9, ja10, ja11, ja12, ja13⟩ := H10.out.res.f7
        have hne : ¬ b = w.heap.size := by have := H10.out.hb; omega
        have hne2 : ¬ w.heap.size = b := by have := H10.out.hb; omega
        have Hf := hide (H10.out.setK c)
        clear H10
        go_wp2
        refine bodyPost_ret (v := iVal ⟨c, x.g, x.c, x.m⟩) (by simp [results, Try.results74, go_sem, iVal, ja0, ja1, ja2, ja3, ja4, ja5, ja6, ja7, ja8, ja9, ja10, ja11, ja12, ja13, ka0, ka1, ka2, ka3, ka4, ka5, ka6, ka7, ka8, ka9, ka10, ka11, ka12, ka13, hne, hne2]) rfl ⟨⟨c, x.g, x.c, x.m⟩, q2 + 1 + 1, rfl, by omega, Hf.out.out_rd, Hf.out.out_own⟩
      have d0 : (t == 0) = false := by simpa using e0
      by_cases e1 : t = 1
      · subst e1
        go_wp2_with (fail)
        go_at_call 103
        refine (l20Glue_any g (q2 + 1) 1 _ H9.out.rd (by omega) (by omega)).mono ?_
        rintro e w10 ⟨y, q3, rfl, hy, hq3, hr10, hg10⟩
        have H10 := hide (H9.out.step hg10 hr10)
        clear hy hr10 hg10 H9
        unfold gVal
        obtain ⟨ka0, ka1, ka2, ka3, ka4, ka5, ka6⟩ := H10.out.it.c7
        obtain ⟨ka7, ka8, ka9, ka10, ka11, ka12, ka13⟩ := H10.out.it.f7
        obtain ⟨ja0, ja1, ja2, ja3, ja4, ja5, ja6⟩ := H10.out.res.c7
        obtain ⟨ja7, ja8, ja9, ja10, ja11, ja12, ja13⟩ := H10.out.res.f7
        have hne : ¬ b = w.heap.size := by have := H10.out.hb; omega
        have hne2 : ¬ w.heap.size = b := by have := H10.out.hb; omega
        have Hf := hide (H10.out.setG y)
        clear H10
        go_wp2
        refine bodyPost_ret (v := iVal ⟨x.k, y, x.c, x.m⟩) (by simp [results, Try.results74, go_sem, iVal, ja0, ja1, ja2, ja3, ja4, ja5, ja6, ja7, ja8, ja9, ja10, ja11, ja12, ja13, ka0, ka1, ka2, ka3, ka4, ka5, ka6, ka7, ka8, ka9, ka10, ka11, ka12, ka13, hne, hne2]) rfl ⟨⟨x.k, y, x.c, x.m⟩, q3, rfl, by omega, Hf.out.out_rd, Hf.out.out_own⟩
      have d1 : (t == 1) = false := by simpa using e1
      by_cases e2 : t = 2
      · subst e2
        go_wp2_with (fail)
        have hrow := Blk.new w9 3 (cellsN [-1, 10001]).toArray
        have Ha := hide (H9.out.alloc (.cells (cellsN [-1, 10001]).toArray 3))
        have hgl := H9.out.rd.lt
        show Calls _ _ _ (w9.alloc (.cells (cellsN [-1, 10001]).toArray 3)) _
        generalize w9.alloc (.cells (cellsN [-1, 10001]).toArray 3) = wa at hrow Ha ⊢
        generalize w9.heap.size = d at hrow hgl ⊢
        go_at_call 80
        refine (pick_any g (q2 + 1) 2 _ Ha.out.rd (by omega) (by omega)).mono ?_
        rintro e w10 ⟨k, rfl, k0, k1, hs, hg⟩
        have H10 := hide (Ha.out.step hg hs)
        have hrow2 := hrow.grown hg (fun e => by injection e with e; omega)
        obtain ⟨k, rfl⟩ := Int.eq_ofNat_of_zero_le k0
        have hkk : k < 2 := by omega
        have hik : (k : Int) < 2 := by omega
        obtain ⟨c, hc⟩ : ∃ c : Int, ([-1, 10001] : List Int)[k]? = some c := by
          have : k = 0 ∨ k = 1 := by omega
          rcases this with rfl | rfl <;> exact ⟨_, rfl⟩
        obtain ⟨mc, mfc⟩ := hrow2.intAt hc
        clear hrow hrow2 hs hg hc Ha hgl k0 k1
        obtain ⟨ka0, ka1, ka2, ka3, ka4, ka5, ka6⟩ := H10.out.it.c7
        obtain ⟨ka7, ka8, ka9, ka10, ka11, ka12, ka13⟩ := H10.out.it.f7
        obtain ⟨ja0, ja1, ja2, ja3, ja4, ja5, ja6⟩ := H10.out.res.c7
        obtain ⟨ja7, ja8, ja9, ja10, ja11, ja12, ja13⟩ := H10.out.res.f7
        have hne : ¬ b = w.heap.size := by have := H10.out.hb; omega
        have hne2 : ¬ w.heap.size = b := by have := H10.out.hb; omega
        have Hf := hide (H10.out.setC c)
        clear H10
        go_wp2
        refine bodyPost_ret (v := iVal ⟨x.k, x.g, c, x.m⟩) (by simp [results, Try.results74, go_sem, iVal, ja0, ja1, ja2, ja3, ja4, ja5, ja6, ja7, ja8, ja9, ja10, ja11, ja12, ja13, ka0, ka1, ka2, ka3, ka4, ka5, ka6, ka7, ka8, ka9, ka10, ka11, ka12, ka13, hne, hne2]) rfl ⟨⟨x.k, x.g, c, x.m⟩, q2 + 1 + 1, rfl, by omega, Hf.out.out_rd, Hf.out.out_own⟩
      have d2 : (t == 2) = false := by simpa using e2
      by_cases e3 : t = 3
      · subst e3
        obtain ⟨ka0, ka1, ka2, ka3, ka4, ka5, ka6⟩ := H9.out.it.c7
        obtain ⟨ka7, ka8, ka9, ka10, ka11, ka12, ka13⟩ := H9.out.it.f7
        obtain ⟨ja0, ja1, ja2, ja3, ja4, ja5, ja6⟩ := H9.out.res.c7
        obtain ⟨ja7, ja8, ja9, ja10, ja11, ja12, ja13⟩ := H9.out.res.f7
        have hne : ¬ b = w.heap.size := by have := H9.out.hb; omega
        have hne2 : ¬ w.heap.size = b := by have := H9.out.hb; omega
        have Hf := hide (H9.out.setAll ⟨1, ⟨0, 0, 0, 0⟩, 0, true⟩)
        clear H9
        go_wp2
        refine bodyPost_ret (v := iVal ⟨1, ⟨0, 0, 0, 0⟩, 0, true⟩) (by simp [results, Try.results74, go_sem, iVal, ja0, ja1, ja2, ja3, ja4, ja5, ja6, ja7, ja8, ja9, ja10, ja11, ja12, ja13, ka0, ka1, ka2, ka3, ka4, ka5, ka6, ka7, ka8, ka9, ka10, ka11, ka12, ka13, hne, hne2]) rfl ⟨⟨1, ⟨0, 0, 0, 0⟩, 0, true⟩, q2 + 1, rfl, by omega, Hf.out.out_rd, Hf.out.out_own⟩
      have d3 : (t == 3) = false := by simpa using e3
      obtain ⟨ka0, ka1, ka2, ka3, ka4, ka5, ka6⟩ := H9.out.it.c7
      obtain ⟨ka7, ka8, ka9, ka10, ka11, ka12, ka13⟩ := H9.out.it.f7
      obtain ⟨ja0, ja1, ja2, ja3, ja4, ja5, ja6⟩ := H9.out.res.c7
      obtain ⟨ja7, ja8, ja9, ja10, ja11, ja12, ja13⟩ := H9.out.res.f7
      have hne : ¬ b = w.heap.size := by have := H9.out.hb; omega
      have hne2 : ¬ w.heap.size = b := by have := H9.out.hb; omega
      have Hf := hide (H9.out.setAll ⟨3, ⟨1, 1, 0, 0⟩, 0, false⟩)
      clear H9
      go_wp2
      refine bodyPost_ret (v := iVal ⟨3, ⟨1, 1, 0, 0⟩, 0, false⟩) (by simp [results, Try.results74, go_sem, iVal, ja0, ja1, ja2, ja3, ja4, ja5, ja6, ja7, ja8, ja9, ja10, ja11, ja12, ja13, ka0, ka1, ka2, ka3, ka4, ka5, ka6, ka7, ka8, ka9, ka10, ka11, ka12, ka13, hne, hne2]) rfl ⟨⟨3, ⟨1, 1, 0, 0⟩, 0, false⟩, q2 + 1, rfl, by omega, Hf.out.out_rd, Hf.out.out_own⟩
  · go_wp2_with (fail)
    clear mc mfc
    generalize w1.alloc (.cells #[.int .i64 3, .int .i64 0, .int .i64 0, .int .i64 0, .int .i64 0, .int .i64 0, .bool false] 29) = w2 at H1 ⊢
    generalize hbe : w1.heap.size = b at H1 hwr ⊢
    go_at_call 80
    refine (pick_any g (p + 1) 2 _ H1.out.rd (by omega) (by omega)).mono ?_
    rintro e w3 ⟨z, rfl, z0, z1, hsw3, hgw3⟩
    have H3 := hide (H1.out.step hgw3 hsw3)
    clear hsw3 hgw3
    obtain ⟨na0, na1, na2, na3, na4, na5, na6⟩ := H3.out.it.c7
    obtain ⟨na7, na8, na9, na10, na11, na12, na13⟩ := H3.out.it.f7
    clear H1
    go_wp2_with (fail)
    obtain ⟨x3, Hx3⟩ : ∃ x, Hid (ItAt w g w.heap.size b (p + 1 + 1) x ((((w3.setCell ⟨b, 1, none⟩ (.int .i64 (z * 3))).setCell ⟨b, 2, none⟩ (.int .i64 0)).setCell ⟨b, 3, none⟩ (.int .i64 0)).setCell ⟨b, 4, none⟩ (.int .i64 0))) := ⟨_, hide (H3.out.setG ⟨z * 3, 0, 0, 0⟩)⟩
    have Ha := hide ((Hx3.out.alloc (.cells (cellsN [0, 50, 100, 10000, -10000]).toArray 3)).alloc (.cells (cellsN [0, 0, 1, 1, 2, 3, 4]).toArray 3))
    have hrA := (Blk.new ((((w3.setCell ⟨b, 1, none⟩ (.int .i64 (z * 3))).setCell ⟨b, 2, none⟩ (.int .i64 0)).setCell ⟨b, 3, none⟩ (.int .i64 0)).setCell ⟨b, 4, none⟩ (.int .i64 0)) 3 (cellsN [0, 50, 100, 10000, -10000]).toArray).alloc (.cells (cellsN [0, 0, 1, 1, 2, 3, 4]).toArray 3)
    have hrB := Blk.new (((((w3.setCell ⟨b, 1, none⟩ (.int .i64 (z * 3))).setCell ⟨b, 2, none⟩ (.int .i64 0)).setCell ⟨b, 3, none⟩ (.int .i64 0)).setCell ⟨b, 4, none⟩ (.int .i64 0)).alloc (.cells (cellsN [0, 50, 100, 10000, -10000]).toArray 3)) 3 (cellsN [0, 0, 1, 1, 2, 3, 4]).toArray
    simp only [World.size_alloc, sz_set] at hrA hrB
    show Calls _ _ _ ((((((w3.setCell ⟨b, 1, none⟩ (.int .i64 (z * 3))).setCell ⟨b, 2, none⟩ (.int .i64 0)).setCell ⟨b, 3, none⟩ (.int .i64 0)).setCell ⟨b, 4, none⟩ (.int .i64 0)).alloc (.cells (cellsN [0, 50, 100, 10000, -10000]).toArray 3)).alloc (.cells (cellsN [0, 0, 1, 1, 2, 3, 4]).toArray 3)) _
    generalize (((((w3.setCell ⟨b, 1, none⟩ (.int .i64 (z * 3))).setCell ⟨b, 2, none⟩ (.int .i64 0)).setCell ⟨b, 3, none⟩ (.int .i64 0)).setCell ⟨b, 4, none⟩ (.int .i64 0)).alloc (.cells (cellsN [0, 50, 100, 10000, -10000]).toArray 3)).alloc (.cells (cellsN [0, 0, 1, 1, 2, 3, 4]).toArray 3) = wa at Ha hrA hrB ⊢
    have hgl := H3.out.rd.lt
    generalize w3.heap.size = d at hrA hrB hgl ⊢
    clear H3 Hx3 na0 na1 na2 na3 na4 na5 na6 na7 na8 na9 na10 na11 na12 na13 z0 z1
    go_at_call 80
    refine (pick_any g (p + 1 + 1) 7 _ Ha.out.rd (by omega) (by omega)).mono ?_
    rintro e w4 ⟨k, rfl, k0, k1, hs, hg⟩
    have H4 := hide (Ha.out.step hg hs)
    have hrA2 := hrA.grown hg (fun e => by injection e with e; omega)
    have hrB2 := hrB.grown hg (fun e => by injection e with e; omega)
    obtain ⟨k, rfl⟩ := Int.eq_ofNat_of_zero_le k0
    have hk7 : k < 7 := by omega
    have hi7 : (k : Int) < 7 := by omega
    obtain ⟨j, u, hj, hj5, hu⟩ : ∃ (j : Nat) (u : Int), ([0, 0, 1, 1, 2, 3, 4] : List Int)[k]? = some (j : Int) ∧ j < 5 ∧ ([0, 50, 100, 10000, -10000] : List Int)[j]? = some u := by
      have : k = 0 ∨ k = 1 ∨ k = 2 ∨ k = 3 ∨ k = 4 ∨ k = 5 ∨ k = 6 := by omega
      rcases this with rfl | rfl | rfl | rfl | rfl | rfl | rfl
      · exact ⟨0, 0, rfl, by omega, rfl⟩
      · exact ⟨0, 0, rfl, by omega, rfl⟩
      · exact ⟨1, 50, rfl, by omega, rfl⟩
      · exact ⟨1, 50, rfl, by omega, rfl⟩
      · exact ⟨2, 100, rfl, by omega, rfl⟩
      · exact ⟨3, 10000, rfl, by omega, rfl⟩
      · exact ⟨4, -10000, rfl, by omega, rfl⟩
    have hi5 : (j : Int) < 5 := by omega
    obtain ⟨mu, mfu⟩ := hrA2.intAt hu
    obtain ⟨mj, mfj⟩ := hrB2.intAt hj
    obtain ⟨na0, na1, na2, na3, na4, na5, na6⟩ := H4.out.it.c7
    obtain ⟨na7, na8, na9, na10, na11, na12, na13⟩ := H4.out.it.f7
    clear hrA hrB hrA2 hrB2 hs hg hj hu Ha hgl k0 k1
    go_wp2_with (fail)
    obtain ⟨x, Hx⟩ : ∃ x, Hid (ItAt w g w.heap.size b (p + 1 + 1 + 1) x ((w4.setCell ⟨b, 5, none⟩ (.int .i64 u)).setCell ⟨b, 6, none⟩ (.bool (decide (0 < x3.g.w))))) := ⟨_, hide ((H4.out.setC u).setM (decide (0 < x3.g.w)))⟩
    generalize (w4.setCell ⟨b, 5, none⟩ (.int .i64 u)).setCell ⟨b, 6, none⟩ (.bool (decide (0 < x3.g.w))) = w7 at Hx ⊢
    obtain ⟨q, hq⟩ : ∃ q, q = p + 1 + 1 + 1 := ⟨_, rfl⟩
    rw [← hq] at Hx
    have hqb : q ≤ p + 12 := by omega
    clear hq H4 na0 na1 na2 na3 na4 na5 na6 na7 na8 na9 na10 na11 na12 na13 mu mfu mj mfj
    go_at_call 102
    refine (odd_any g q m _ Hx.out.rd (by omega) (by omega)).mono ?_
    rintro e w8 ⟨bo, q2, rfl, hbo, hr8, hq1, hq2, hg8⟩
    have H8 := hide (Hx.out.step hg8 hr8)
    clear hbo hr8 hg8 Hx
    cases bo with
    | false =>
      obtain ⟨ka0, ka1, ka2, ka3, ka4, ka5, ka6⟩ := H8.out.it.c7
      obtain ⟨ka7, ka8, ka9, ka10, ka11, ka12, ka13⟩ := H8.out.it.f7
      obtain ⟨ja0, ja1, ja2, ja3, ja4, ja5, ja6⟩ := H8.out.res.c7
      obtain ⟨ja7, ja8, ja9, ja10, ja11, ja12, ja13⟩ := H8.out.res.f7
      have hne : ¬ b = w.heap.size := by have := H8.out.hb; omega
      have hne2 : ¬ w.heap.size = b := by have := H8.out.hb; omega
      go_wp2
      refine bodyPost_ret (v := iVal x) (by simp [results, Try.results74, go_sem, iVal, ja0, ja1, ja2, ja3, ja4, ja5, ja6, ja7, ja8, ja9, ja10, ja11, ja12, ja13, ka0, ka1, ka2, ka3, ka4, ka5, ka6, ka7, ka8, ka9, ka10, ka11, ka12, ka13, hne, hne2]) rfl ⟨x, q2, rfl, by omega, H8.out.out_rd, H8.out.out_own⟩
    | true =>
      go_wp2_with (fail)
      go_at_call 80
      refine (pick_any g (q2) 5 _ H8.out.rd (by omega) (by omega)).mono ?_
      rintro e w9 ⟨t, rfl, t0, t1, hsw9, hgw9⟩
      have H9 := hide (H8.out.step hgw9 hsw9)
      clear hsw9 hgw9
      clear H8
      by_cases e0 : t = 0
      · subst e0
        go_wp2_with (fail)
        have hrow := Blk.new w9 3 (cellsN [0, 4]).toArray
        have Ha := hide (H9.out.alloc (.cells (cellsN [0, 4]).toArray 3))
        have hgl := H9.out.rd.lt
        show Calls _ _ _ (w9.alloc (.cells (cellsN [0, 4]).toArray 3)) _
        generalize w9.alloc (.cells (cellsN [0, 4]).toArray 3) = wa at hrow Ha ⊢
        generalize w9.heap.size = d at hrow hgl ⊢
        go_at_call 80
        refine (pick_any g (q2 + 1) 2 _ Ha.out.rd (by omega) (by omega)).mono ?_
        rintro e w10 ⟨k, rfl, k0, k1, hs, hg⟩
        have H10 := hide (Ha.out.step hg hs)
        have hrow2 := hrow.grown hg (fun e => by injection e with e; omega)
        obtain ⟨k, rfl⟩ := Int.eq_ofNat_of_zero_le k0
        have hkk : k < 2 := by omega
        have hik : (k : Int) < 2 := by omega
        obtain ⟨c, hc⟩ : ∃ c : Int, ([0, 4] : List Int)[k]? = some c := by
          have : k = 0 ∨ k = 1 := by omega
          rcases this with rfl | rfl <;> exact ⟨_, rfl⟩
        obtain ⟨mc, mfc⟩ := hrow2.intAt hc
        clear hrow hrow2 hs hg hc Ha hgl k0 k1
        obtain ⟨ka0, ka1, ka2, ka3, ka4, ka5, ka6⟩ := H10.out.it.c7
        obtain ⟨ka7, ka8, ka9, ka10, ka11, ka12, ka13⟩ := H10.out.it.f7
        obtain ⟨ja0, ja1, ja2, ja3, ja4, ja5, ja6⟩ := H10.out.res.c7
        obtain ⟨ja7, ja8, ja9, ja10, ja11, ja12, ja13⟩ := H10.out.res.f7
        have hne : ¬ b = w.heap.size := by have := H10.out.hb; omega
        have hne2 : ¬ w.heap.size = b := by have := H10.out.hb; omega
        have Hf := hide (H10.out.setK c)
        clear H10
        go_wp2
        refine bodyPost_ret (v := iVal ⟨c, x.g, x.c, x.m⟩) (by simp [results, Try.results74, go_sem, iVal, ja0, ja1, ja2, ja3, ja4, ja5, ja6, ja7, ja8, ja9, ja10, ja11, ja12, ja13, ka0, ka1, ka2, ka3, ka4, ka5, ka6, ka7, ka8, ka9, ka10, ka11, ka12, ka13, hne, hne2]) rfl ⟨⟨c, x.g, x.c, x.m⟩, q2 + 1 + 1, rfl, by omega, Hf.out.out_rd, Hf.out.out_own⟩
      have d0 : (t == 0) = false := by simpa using e0
      by_cases e1 : t = 1
      · subst e1
        go_wp2_with (fail)
        go_at_call 103
        refine (l20Glue_any g (q2 + 1) 1 _ H9.out.rd (by omega) (by omega)).mono ?_
        rintro e w10 ⟨y, q3, rfl, hy, hq3, hr10, hg10⟩
        have H10 := hide (H9.out.step hg10 hr10)
        clear hy hr10 hg10 H9
        unfold gVal
        obtain ⟨ka0, ka1, ka2, ka3, ka4, ka5, ka6⟩ := H10.out.it.c7
        obtain ⟨ka7, ka8, ka9, ka10, ka11, ka12, ka13⟩ := H10.out.it.f7
        obtain ⟨ja0, ja1, ja2, ja3, ja4, ja5, ja6⟩ := H10.out.res.c7
        obtain ⟨ja7, ja8, ja9, ja10, ja11, ja12, ja13⟩ := H10.out.res.f7
        have hne : ¬ b = w.heap.size := by have := H10.out.hb; omega
        have hne2 : ¬ w.heap.size = b := by have := H10.out.hb; omega
        have Hf := hide (H10.out.setG y)
        clear H10
        go_wp2
        refine bodyPost_ret (v := iVal ⟨x.k, y, x.c, x.m⟩) (by simp [results, Try.results74, go_sem, iVal, ja0, ja1, ja2, ja3, ja4, ja5, ja6, ja7, ja8, ja9, ja10, ja11, ja12, ja13, ka0, ka1, ka2, ka3, ka4, ka5, ka6, ka7, ka8, ka9, ka10, ka11, ka12, ka13, hne, hne2]) rfl ⟨⟨x.k, y, x.c, x.m⟩, q3, rfl, by omega, Hf.out.out_rd, Hf.out.out_own⟩
      have d1 : (t == 1) = false := by simpa using e1
      by_cases e2 : t = 2
      · subst e2
        go_wp2_with (fail)
        have hrow := Blk.new w9 3 (cellsN [-1, 10001]).toArray
        have Ha := hide (H9.out.alloc (.cells (cellsN [-1, 10001]).toArray 3))
        have hgl := H9.out.rd.lt
        show Calls _ _ _ (w9.alloc (.cells (cellsN [-1, 10001]).toArray 3)) _
        generalize w9.alloc (.cells (cellsN [-1, 10001]).toArray 3) = wa at hrow Ha ⊢
        generalize w9.heap.size = d at hrow hgl ⊢
        go_at_call 80
        refine (pick_any g (q2 + 1) 2 _ Ha.out.rd (by omega) (by omega)).mono ?_
        rintro e w10 ⟨k, rfl, k0, k1, hs, hg⟩
        have H10 := hide (Ha.out.step hg hs)
        have hrow2 := hrow.grown hg (fun e => by injection e with e; omega)
        obtain ⟨k, rfl⟩ := Int.eq_ofNat_of_zero_le k0
        have hkk : k < 2 := by omega
        have hik : (k : Int) < 2 := by omega
        obtain ⟨c, hc⟩ : ∃ c : Int, ([-1, 10001] : List Int)[k]? = some c := by
          have : k = 0 ∨ k = 1 := by omega
          rcases this with rfl | rfl <;> exact ⟨_, rfl⟩
        obtain ⟨mc, mfc⟩ := hrow2.intAt hc
        clear hrow hrow2 hs hg hc Ha hgl k0 k1
        obtain ⟨ka0, ka1, ka2, ka3, ka4, ka5, ka6⟩ := H10.out.it.c7
        obtain ⟨ka7, ka8, ka9, ka10, ka11, ka12, ka13⟩ := H10.out.it.f7
        obtain ⟨ja0, ja1, ja2, ja3, ja4, ja5, ja6⟩ := H10.out.res.c7
        obtain ⟨ja7, ja8, ja9, ja10, ja11, ja12, ja13⟩ := H10.out.res.f7
        have hne : ¬ b = w.heap.size := by have := H10.out.hb; omega
        have hne2 : ¬ w.heap.size = b := by have := H10.out.hb; omega
        have Hf := hide (H10.out.setC c)
        clear H10
        go_wp2
        refine bodyPost_ret (v := iVal ⟨x.k, x.g, c, x.m⟩) (by simp [results, Try.results74, go_sem, iVal, ja0, ja1, ja2, ja3, ja4, ja5, ja6, ja7, ja8, ja9, ja10, ja11, ja12, ja13, ka0, ka1, ka2, ka3, ka4, ka5, ka6, ka7, ka8, ka9, ka10, ka11, ka12, ka13, hne, hne2]) rfl ⟨⟨x.k, x.g, c, x.m⟩, q2 + 1 + 1, rfl, by omega, Hf.out.out_rd, Hf.out.out_own⟩
      have d2 : (t == 2) = false := by simpa using e2
      by_cases e3 : t = 3
      · subst e3
        obtain ⟨ka0, ka1, ka2, ka3, ka4, ka5, ka6⟩ := H9.out.it.c7
        obtain ⟨ka7, ka8, ka9, ka10, ka11, ka12, ka13⟩ := H9.out.it.f7
        obtain ⟨ja0, ja1, ja2, ja3, ja4, ja5, ja6⟩ := H9.out.res.c7
        obtain ⟨ja7, ja8, ja9, ja10, ja11, ja12, ja13⟩ := H9.out.res.f7
        have hne : ¬ b = w.heap.size := by have := H9.out.hb; omega
        have hne2 : ¬ w.heap.size = b := by have := H9.out.hb; omega
        have Hf := hide (H9.out.setAll ⟨1, ⟨0, 0, 0, 0⟩, 0, true⟩)
        clear H9
        go_wp2
        refine bodyPost_ret (v := iVal ⟨1, ⟨0, 0, 0, 0⟩, 0, true⟩) (by simp [results, Try.results74, go_sem, iVal, ja0, ja1, ja2, ja3, ja4, ja5, ja6, ja7, ja8, ja9, ja10, ja11, ja12, ja13, ka0, ka1, ka2, ka3, ka4, ka5, ka6, ka7, ka8, ka9, ka10, ka11, ka12, ka13, hne, hne2]) rfl ⟨⟨1, ⟨0, 0, 0, 0⟩, 0, true⟩, q2 + 1, rfl, by omega, Hf.out.out_rd, Hf.out.out_own⟩
      have d3 : (t == 3) = false := by simpa using e3
      obtain ⟨ka0, ka1, ka2, ka3, ka4, ka5, ka6⟩ := H9.out.it.c7
      obtain ⟨ka7, ka8, ka9, ka10, ka11, ka12, ka13⟩ := H9.out.it.f7
      obtain ⟨ja0, ja1, ja2, ja3, ja4, ja5, ja6⟩ := H9.out.res.c7
      obtain ⟨ja7, ja8, ja9, ja10, ja11, ja12, ja13⟩ := H9.out.res.f7
      have hne : ¬ b = w.heap.size := by have := H9.out.hb; omega
      have hne2 : ¬ w.heap.size = b := by have := H9.out.hb; omega
      have Hf := hide (H9.out.setAll ⟨3, ⟨1, 1, 0, 0⟩, 0, false⟩)
      clear H9
      go_wp2
      refine bodyPost_ret (v := iVal ⟨3, ⟨1, 1, 0, 0⟩, 0, false⟩) (by simp [results, Try.results74, go_sem, iVal, ja0, ja1, ja2, ja3, ja4, ja5, ja6, ja7, ja8, ja9, ja10, ja11, ja12, ja13, ka0, ka1, ka2, ka3, ka4, ka5, ka6, ka7, ka8, ka9, ka10, ka11, ka12, ka13, hne, hne2]) rfl ⟨⟨3, ⟨1, 1, 0, 0⟩, 0, false⟩, q2 + 1, rfl, by omega, Hf.out.out_rd, Hf.out.out_own⟩
end Go.Proofs.Ytocaonlmlafjmaa
