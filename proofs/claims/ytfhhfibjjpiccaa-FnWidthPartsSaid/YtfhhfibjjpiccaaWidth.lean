/- The walks through the width of a word. No condition but the model's own bound on a text's length. -/
import Derived.Test.YtfhhfibjjpiccaaSigns
import Derived.Test.YtfhhfibjjpiccaaNear
import Derived.Test.YtfhhfibjjpiccaaLW
namespace Go.Proofs.Ytfhhfibjjpiccaa
open Go.RowKit
set_option linter.unusedVariables false
set_option linter.unusedSimpArgs false
set_option maxRecDepth 100000

theorem getD_some {α : Type} {l : List α} {k : Nat} {x d : α} (h : l[k]? = some x) : l.getD k d = x := by
  rw [List.getD_eq_getElem?_getD, h]; rfl
theorem ww_step0 {L : List ByteArray} {k : Nat} {t : ByteArray} (ht : L[k]? = some t) (hk : ¬ k + 1 < L.length) : wwTo L (k + 1) = wwTo L k + lettersW t - (t.size : Int) + 1 := by
  rw [wwTo, cW, getD_some ht, if_neg hk]; omega
theorem ww_step1 {L : List ByteArray} {k : Nat} {t u : ByteArray} (ht : L[k]? = some t) (hu : L[k + 1]? = some u) (h1 : t.size - 1 < t.size) (h2 : 0 < u.size) :
    wwTo L (k + 1) = wwTo L k + lettersW t - (t.size : Int) + 1 - nearI ((t[t.size - 1].toNat : Nat) : Int) ((u[0].toNat : Nat) : Int) := by
  have hlt := (List.getElem?_eq_some_iff.1 hu).1
  rw [wwTo, cW, getD_some ht, getD_some hu, if_pos hlt, bl_getD t _ h1, bl_getD u 0 h2]
  omega
theorem letters_step {t : ByteArray} {j : Nat} (h : j < t.size) : sumOf lw ((bl t).take (j + 1)) = sumOf lw ((bl t).take j) + lw ((t[j].toNat : Nat) : Int) := by
  rw [take_snoc' _ _ _ (bl_at t j h), sumOf_snoc]
theorem letters_all {t : ByteArray} {j : Nat} (h : ¬ j < t.size) : sumOf lw ((bl t).take j) = lettersW t := by
  rw [List.take_of_length_le (by rw [bl_len]; omega)]; rfl
theorem letters_bd (t : ByteArray) (j : Nat) (h : t.size ≤ 2) : 0 ≤ sumOf lw ((bl t).take j) ∧ sumOf lw ((bl t).take j) ≤ 16 := by
  have h1 := sumOf_bd lw 8 ((bl t).take j) (fun c _ => lw_bd c)
  have h2 : ((bl t).take j).length ≤ 2 := by rw [List.length_take, bl_len]; omega
  omega
theorem ww_bd {L : List ByteArray} (h : ∀ t ∈ L, 1 ≤ t.size ∧ t.size ≤ 2) (h20 : L.length ≤ 20) (k : Nat) (hk : k ≤ L.length) : -40 ≤ wwTo L k ∧ wwTo L k ≤ 320 := by
  have := wwTo_bd L h k hk
  omega

set_option maxRecDepth 100000 in
set_option maxHeartbeats 2000000 in
theorem specWidth (s : ByteArray) (w : World) (hs : s.size ≤ maxLen) :
    Calls Try.prog 31 #[.string s] w fun e w' => e = .returned (.int .i64 (widthW s)) ∧ Below w.heap.size w w' := by
  have hsg := hide (specSigns s w hs)
  have hLs := signsL_size s
  have hL20 := signsL_bd s
  have hnil := signsL_nil s
  have hW : wordB s = true → wwTo (signsL s) (signsL s).length = widthW s := fun h => by unfold widthW signsL; rw [if_pos h, if_pos h]
  have hW0 : wordB s = false → widthW s = -1 := fun h => by unfold widthW; rw [if_neg (by rw [h]; exact Bool.false_ne_true)]
  generalize signsL s = L at *
  cases hv : wordB s with
  | false =>
    obtain rfl : L = [] := hnil.2 hv
    rw [hW0 hv]
    clear hW hW0 hLs hL20 hnil hv
    go_enter Try.func31, Try.ntmps31
    go_wp2_with fail
    refine hsg.out.mono ?_
    rintro e w1 ⟨v, rfl, hown, hb⟩
    obtain ⟨A, c, rfl, _, _⟩ := own_form hown
    go_wp2
    go_ret
    exact ⟨rfl, hb⟩
  | true =>
    rw [← hW hv]
    have hLp : 0 < L.length := by
      rcases Nat.eq_zero_or_pos L.length with h | h
      · have := hnil.1 (List.length_eq_zero_iff.1 h)
        rw [hv] at this; cases this
      · exact h
    clear hW hW0 hnil
    obtain ⟨m, hm⟩ : ∃ m, L.length = m := ⟨_, rfl⟩
    rw [hm] at hLp hL20
    have hm' := hide hm
    have hLs' := hide hLs
    have hd0 : (((m : Nat) : Int) == 0) = false := by simp; omega
    rw [hm]
    clear hm hLs
    go_enter Try.func31, Try.ntmps31
    go_wp2_with fail
    refine hsg.out.mono ?_
    rintro e w1 ⟨v, rfl, hown, hb⟩
    obtain ⟨A, c, rfl, _, hrd⟩ := own_form hown
    rw [hm'.out] at hrd ⊢
    have hrd' := hide hrd
    have hb' := hide hb
    have hbs := hb.size
    clear hown hb hrd
    go_wp2
    go_loopw [4, 5] (fun q i wr => ∃ (k : Nat) (x : Int), k ≤ m ∧ i = .int .i64 k ∧ q = .int .i64 x ∧ Hid (x = wwTo L k) ∧ Below w1.heap.size w1 wr) (fun _ i _ => m - (intOf i).toNat)
    case atStart => exact ⟨0, 0, Nat.zero_le _, rfl, rfl, rfl, Below.refl _ _⟩
    case round =>
      obtain ⟨k, x, hk, rfl, rfl, hx, hwr⟩ := hrel
      have hwr' := hide hwr
      have hxb : -40 ≤ x ∧ x ≤ 320 := by rw [hx.out]; exact ww_bd hLs'.out (by rw [hm'.out]; exact hL20) k (by rw [hm'.out]; exact hk)
      by_cases hlt : k < m
      · obtain ⟨b, off, t, rfl, hbk, ht, c0⟩ := (hrd'.out.below hwr).str hm'.out hlt
        have ht' := hide ht
        have hts := hLs'.out t (List.mem_of_getElem? ht)
        have htb := hide (letters_bd t)
        obtain ⟨wo, rfl⟩ : ∃ wo : World, wo = wr := ⟨_, rfl⟩
        have hki : (k : Int) < (m : Int) := by omega
        clear ht hwr
        go_wp2
        go_loop [4, 6] (fun q i => ∃ (j : Nat) (r : Int), j ≤ t.size ∧ i = .int .i64 j ∧ q = .int .i64 r ∧ Hid (r = x + sumOf lw ((bl t).take j))) (fun _ i => t.size - (intOf i).toNat)
        case atStart => exact ⟨0, x, Nat.zero_le _, rfl, rfl, by show x = x + sumOf lw ((bl t).take 0); simp [sumOf]⟩
        case round =>
          obtain ⟨j, r, hj, rfl, rfl, hr⟩ := hrel
          have hjb := htb.out j hts.2
          have hrb : -40 ≤ r ∧ r ≤ 336 := by have := hr.out; omega
          clear hjb
          by_cases hjt : j < t.size
          · have hst := hide (letters_step hjt)
            have hlw := lw_bd ((t[j].toNat : Nat) : Int)
            go_wp2_with (go_at_call 21; refine (specLW _ _).mono ?_; rintro e w' ⟨rfl, rfl⟩)
            go_round
            case rel => exact ⟨j + 1, _, by omega, by go_num, rfl, by show _ = x + _; rw [hst.out, hr.out]; omega⟩
            case measure => simp [intOf]; omega
          · have hall := hide (letters_all hjt)
            have hy := hide (show r - (t.size : Int) + 1 = wwTo L k + lettersW t - (t.size : Int) + 1 by have := hr.out; have := hx.out; rw [hall.out] at *; omega)
            have hd9 : (t.size : Int) ≤ 2 := by omega
            by_cases h2 : k + 1 < m
            · obtain ⟨b2, off2, u, hA, hbu, hu, c1⟩ := (hrd'.out.below hwr'.out).str hm'.out h2
              injection hA with hA
              injection hA with hA1 hA2
              subst hA1
              subst hA2
              have hus := hLs'.out u (List.mem_of_getElem? hu)
              have h0u : 0 < u.size := by omega
              have h1t : t.size - 1 < t.size := by omega
              have hst := hide (ww_step1 ht'.out hu h1t h0u)
              have hnb := nearI_bd ((t[t.size - 1].toNat : Nat) : Int) ((u[0].toNat : Nat) : Int)
              have hki2 : (k : Int) + 1 < (m : Int) := by omega
              have g1 : (0 : Int) ≤ (t.size : Int) - 1 := by omega
              have g2 : (t.size : Int) - 1 < (t.size : Int) := by omega
              have g3 : ((t.size : Int) - 1).toNat = t.size - 1 := by omega
              have g4 : (0 : Int) ≤ (k : Int) + 1 := by omega
              have g5 : ((k : Int) + 1).toNat = k + 1 := by omega
              have g6 : (0 : Int) < (u.size : Int) := by omega
              have g7 : (1 : Int) ≤ (t.size : Int) := by omega
              have c2 : wo.cell? ⟨b, off + (k + 1), none⟩ = some (.string u) := c1
              have hcl := hide hwr'.out
              clear hu c1 hnb
              go_wp2
              have hnb := nearI_bd ((t[t.size - 1].toNat : Nat) : Int) ((u[0].toNat : Nat) : Int)
              have q1 : IntKind.i64.wrap ((k : Int) + 1) = (k : Int) + 1 := IntWalk.i64_in _ (by omega)
              have q2 : IntKind.i64.wrap ((t.size : Int) - 1) = (t.size : Int) - 1 := IntWalk.i64_in _ (by omega)
              have q3 : IntKind.i64.wrap (r - (t.size : Int) + 1 - nearI ((t[t.size - 1].toNat : Nat) : Int) ((u[0].toNat : Nat) : Int)) = r - (t.size : Int) + 1 - nearI ((t[t.size - 1].toNat : Nat) : Int) ((u[0].toNat : Nat) : Int) := IntWalk.i64_in _ (by omega)
              clear hnb
              go_quiet ((go_at_call 18; exact Calls.quiet_of_same (quiet_eq (specNear _ _ _))))
              clear q1 q2 q3
              go_wp2
              go_roundw
              case rel => exact ⟨k + 1, _, by omega, by go_num, rfl, by show _ = _; rw [hst.out]; unfold wrap64; have := nearI_bd ((t[t.size - 1].toNat : Nat) : Int) ((u[0].toNat : Nat) : Int); have := hy.out; omega, below_drewN hcl.out _⟩
              case measure => simp [intOf]; omega
            · have hst := hide (ww_step0 ht'.out (by rw [hm'.out]; exact h2))
              have hd2 : decide ((k : Int) + 1 < (m : Int)) = false := decide_eq_false (by omega)
              go_wp2
              go_roundw
              case rel => exact ⟨k + 1, _, by omega, by go_num, rfl, by show _ = _; rw [hst.out]; have := hy.out; omega, hwr'.out⟩
              case measure => simp [intOf]; omega
      · obtain rfl : k = m := by omega
        have hx' := hide hx.out
        clear hwr
        go_wp2
        go_ret
        exact ⟨ret_int hx'.out, hb'.out.trans (hwr'.out.mono hbs)⟩
set_option maxRecDepth 100000 in
set_option maxHeartbeats 2000000 in
theorem implWidth (s : ByteArray) (w : World) (hs : s.size ≤ maxLen) :
    Calls Try.prog 30 #[.string s] w fun e w' => e = .returned (.int .i64 (widthW s)) ∧ Below w.heap.size w w' := by
  have hww := hide (implWord s w hs)
  cases hv : wordB s with
  | false =>
    have hW0 : widthW s = -1 := by unfold widthW; rw [if_neg (by rw [hv]; exact Bool.false_ne_true)]
    rw [hW0]
    clear hW0
    go_enter Try.func30, Try.ntmps30
    go_wp2_with fail
    refine hww.out.mono ?_
    rintro e w1 ⟨rfl, rfl⟩
    rw [hv]
    go_wp2
    go_ret
    exact ⟨rfl, Below.refl _ _⟩
  | true =>
    have hsz := (wordB_true hv).2
    have hsg := hide (implSigns0 s w (by omega))
    have hLs := sg_size s 0
    have hL20 : (sg s 0).length ≤ 20 := by have := sg_len s 0; omega
    have hW : wwTo (sg s 0) (sg s 0).length = widthW s := by unfold widthW; rw [if_pos hv]
    rw [← hW]
    clear hW hsz
    generalize sg s 0 = L at *
    obtain ⟨m, hm⟩ : ∃ m, L.length = m := ⟨_, rfl⟩
    rw [hm] at hL20
    have hm' := hide hm
    have hLs' := hide hLs
    rw [hm]
    clear hm hLs
    go_enter Try.func30, Try.ntmps30
    go_wp2_with fail
    refine hww.out.mono ?_
    rintro e w1 ⟨rfl, rfl⟩
    rw [hv]
    go_wp2_with fail
    refine hsg.out.mono ?_
    rintro e w1 ⟨v, rfl, hown, hb⟩
    obtain ⟨A, c, rfl, _, hrd⟩ := own_form hown
    rw [hm'.out] at hrd ⊢
    have hrd' := hide hrd
    have hb' := hide hb
    have hbs := hb.size
    clear hown hb hrd
    go_wp2
    go_loopw [3, 15] (fun q i wr => ∃ (k : Nat) (x : Int), k ≤ m ∧ i = .int .i64 k ∧ q = .int .i64 x ∧ Hid (x = wwTo L k) ∧ Below w1.heap.size w1 wr) (fun _ i _ => m - (intOf i).toNat)
    case atStart => exact ⟨0, 0, Nat.zero_le _, rfl, rfl, rfl, Below.refl _ _⟩
    case round =>
      obtain ⟨k, x, hk, rfl, rfl, hx, hwr⟩ := hrel
      have hwr' := hide hwr
      have hxb : -40 ≤ x ∧ x ≤ 320 := by rw [hx.out]; exact ww_bd hLs'.out (by rw [hm'.out]; exact hL20) k (by rw [hm'.out]; exact hk)
      by_cases hlt : k < m
      · obtain ⟨b, off, t, rfl, hbk, ht, c0⟩ := (hrd'.out.below hwr).str hm'.out hlt
        have ht' := hide ht
        have hts := hLs'.out t (List.mem_of_getElem? ht)
        have htb := hide (letters_bd t)
        obtain ⟨wo, rfl⟩ : ∃ wo : World, wo = wr := ⟨_, rfl⟩
        have hki : (k : Int) < (m : Int) := by omega
        clear ht hwr
        go_wp2
        go_loop [3, 22] (fun q i => ∃ (j : Nat) (r : Int), j ≤ t.size ∧ i = .int .i64 j ∧ q = .int .i64 r ∧ Hid (r = x + sumOf lw ((bl t).take j))) (fun _ i => t.size - (intOf i).toNat)
        case atStart => exact ⟨0, x, Nat.zero_le _, rfl, rfl, by show x = x + sumOf lw ((bl t).take 0); simp [sumOf]⟩
        case round =>
          obtain ⟨j, r, hj, rfl, rfl, hr⟩ := hrel
          have hjb := htb.out j hts.2
          have hrb : -40 ≤ r ∧ r ≤ 336 := by have := hr.out; omega
          clear hjb
          by_cases hjt : j < t.size
          · have hst := hide (letters_step hjt)
            have hlw := lw_bd ((t[j].toNat : Nat) : Int)
            go_wp2_with (go_at_call 20; refine (implLW _ _ (byte_bd t j hjt)).mono ?_; rintro e w' ⟨rfl, rfl⟩)
            go_round
            case rel => exact ⟨j + 1, _, by omega, by go_num, rfl, by show _ = x + _; rw [hst.out, hr.out]; omega⟩
            case measure => simp [intOf]; omega
          · have hall := hide (letters_all hjt)
            have hy := hide (show r - (t.size : Int) + 1 = wwTo L k + lettersW t - (t.size : Int) + 1 by have := hr.out; have := hx.out; rw [hall.out] at *; omega)
            have hd9 : (t.size : Int) ≤ 2 := by omega
            by_cases h2 : k + 1 < m
            · obtain ⟨b2, off2, u, hA, hbu, hu, c1⟩ := (hrd'.out.below hwr'.out).str hm'.out h2
              injection hA with hA
              injection hA with hA1 hA2
              subst hA1
              subst hA2
              have hus := hLs'.out u (List.mem_of_getElem? hu)
              have h0u : 0 < u.size := by omega
              have h1t : t.size - 1 < t.size := by omega
              have hst := hide (ww_step1 ht'.out hu h1t h0u)
              have hnb := nearI_bd ((t[t.size - 1].toNat : Nat) : Int) ((u[0].toNat : Nat) : Int)
              have hki2 : (k : Int) + 1 < (m : Int) := by omega
              have g1 : (0 : Int) ≤ (t.size : Int) - 1 := by omega
              have g2 : (t.size : Int) - 1 < (t.size : Int) := by omega
              have g3 : ((t.size : Int) - 1).toNat = t.size - 1 := by omega
              have g4 : (0 : Int) ≤ (k : Int) + 1 := by omega
              have g5 : ((k : Int) + 1).toNat = k + 1 := by omega
              have g6 : (0 : Int) < (u.size : Int) := by omega
              have g7 : (1 : Int) ≤ (t.size : Int) := by omega
              have c2 : wo.cell? ⟨b, off + (k + 1), none⟩ = some (.string u) := c1
              have hcl := hide hwr'.out
              clear hu c1 hnb
              go_wp2
              have hnb := nearI_bd ((t[t.size - 1].toNat : Nat) : Int) ((u[0].toNat : Nat) : Int)
              have q1 : IntKind.i64.wrap ((k : Int) + 1) = (k : Int) + 1 := IntWalk.i64_in _ (by omega)
              have q2 : IntKind.i64.wrap ((t.size : Int) - 1) = (t.size : Int) - 1 := IntWalk.i64_in _ (by omega)
              have q3 : IntKind.i64.wrap (r - (t.size : Int) + 1 - nearI ((t[t.size - 1].toNat : Nat) : Int) ((u[0].toNat : Nat) : Int)) = r - (t.size : Int) + 1 - nearI ((t[t.size - 1].toNat : Nat) : Int) ((u[0].toNat : Nat) : Int) := IntWalk.i64_in _ (by omega)
              clear hnb
              go_quiet ((go_at_call 17; exact Calls.quiet_of_same (quiet_eq (implNear _ _ _ (byte_bd t _ h1t) (byte_bd u 0 h0u)))))
              clear q1 q2 q3
              go_wp2
              go_roundw
              case rel => exact ⟨k + 1, _, by omega, by go_num, rfl, by show _ = _; rw [hst.out]; unfold wrap64; have := nearI_bd ((t[t.size - 1].toNat : Nat) : Int) ((u[0].toNat : Nat) : Int); have := hy.out; omega, below_drewN hcl.out _⟩
              case measure => simp [intOf]; omega
            · have hst := hide (ww_step0 ht'.out (by rw [hm'.out]; exact h2))
              have hd2 : decide ((k : Int) + 1 < (m : Int)) = false := decide_eq_false (by omega)
              go_wp2
              go_roundw
              case rel => exact ⟨k + 1, _, by omega, by go_num, rfl, by show _ = _; rw [hst.out]; have := hy.out; omega, hwr'.out⟩
              case measure => simp [intOf]; omega
      · obtain rfl : k = m := by omega
        have hx' := hide hx.out
        clear hwr
        go_wp2
        go_ret
        exact ⟨ret_int hx'.out, hb'.out.trans (hwr'.out.mono hbs)⟩
end Go.Proofs.Ytfhhfibjjpiccaa
