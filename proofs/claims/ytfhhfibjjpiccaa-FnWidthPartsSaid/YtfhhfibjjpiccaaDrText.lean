/- What the draws of letters, words and patterns give. Condition: the reader's block is its own. -/
import Derived.Test.YtfhhfibjjpiccaaDraw2
import Derived.Test.YtfhhfibjjpiccaaOwnS
import Derived.Test.YtfhhfibjjpiccaaExS
import Derived.StillTailTactics
import Derived.Deep.RegionHeld3
namespace Go.Proofs.Ytfhhfibjjpiccaa
open Go.RowKit
set_option linter.unusedVariables false
set_option linter.unusedSimpArgs false
set_option maxRecDepth 100000

theorem RdS.row {w w' : World} {g p : Nat} {rb : Option Nat} (h : RdS w g p) (hg : w.grownBy w' rb) (hr : ∀ k, rb = some k → g < k) : RdS w' g p := by
  cases rb with
  | none => exact h.below ⟨hg.os, hg.tape, hg.output, hg.size, fun k hk => hg.block k hk (by simp)⟩
  | some k => exact h.only hg (hr k rfl)
def StrP (g p D M : Nat) (w : World) (e : Ending) (w' : World) : Prop := ∃ (s : ByteArray) (q : Nat), e = .returned (.string s) ∧ s.size ≤ M ∧ q ≤ p + D ∧ RdS w' g q ∧ w.grownBy w' (some g)
def words5 : List ByteArray := [⟨#[]⟩, ⟨#[65]⟩, ⟨#[97, 32, 98]⟩, ⟨#[97, 98, 49]⟩, ⟨#[97, 98, 99, 100, 101, 102, 103, 104, 105, 106, 107, 108, 109, 110, 111, 112, 113, 114, 115, 116, 117]⟩]
theorem words5_at (k : Nat) (hk : k < 5) : ∃ c : ByteArray, words5[k]? = some c ∧ c.size ≤ 21 := by
  have h : words5.all (fun c => decide (c.size ≤ 21)) = true := by decide
  have hl : words5.length = 5 := rfl
  refine ⟨words5[k]'(by omega), List.getElem?_eq_getElem _, ?_⟩
  have := List.all_eq_true.1 h _ (List.getElem_mem (by omega : k < words5.length))
  simpa using this
def words12_ : List ByteArray := [⟨#[97]⟩, ⟨#[111, 102]⟩, ⟨#[116, 104, 101]⟩, ⟨#[119, 97, 116, 101, 114]⟩, ⟨#[111, 102, 102, 105, 99, 101]⟩, ⟨#[119, 97, 118, 101, 114]⟩, ⟨#[109, 97, 114, 103, 105, 110]⟩, ⟨#[104, 121, 112, 104, 101, 110, 97, 116, 101]⟩, ⟨#[116, 121, 112, 101, 115, 101, 116, 116, 101, 114]⟩, ⟨#[118, 101, 114, 121]⟩, ⟨#[102, 108, 111, 119]⟩, ⟨#[116, 97, 98, 108, 101]⟩]
theorem words12__at (k : Nat) (hk : k < 12) : ∃ c : ByteArray, words12_[k]? = some c ∧ c.size ≤ 21 := by
  have h : words12_.all (fun c => decide (c.size ≤ 21)) = true := by decide
  have hl : words12_.length = 12 := rfl
  refine ⟨words12_[k]'(by omega), List.getElem?_eq_getElem _, ?_⟩
  have := List.all_eq_true.1 h _ (List.getElem_mem (by omega : k < words12_.length))
  simpa using this
def pats8 : List ByteArray := [⟨#[]⟩, ⟨#[49]⟩, ⟨#[46]⟩, ⟨#[97, 49, 50, 98]⟩, ⟨#[97, 46, 98]⟩, ⟨#[65, 49]⟩, ⟨#[97, 98, 99, 100, 101, 102, 103, 104, 105, 106, 107, 108, 109]⟩, ⟨#[46, 46, 97]⟩]
theorem pats8_at (k : Nat) (hk : k < 8) : ∃ c : ByteArray, pats8[k]? = some c ∧ c.size ≤ 13 := by
  have h : pats8.all (fun c => decide (c.size ≤ 13)) = true := by decide
  have hl : pats8.length = 8 := rfl
  refine ⟨pats8[k]'(by omega), List.getElem?_eq_getElem _, ?_⟩
  have := List.all_eq_true.1 h _ (List.getElem_mem (by omega : k < pats8.length))
  simpa using this
def pats15 : List ByteArray := [⟨#[97, 49, 98]⟩, ⟨#[116, 49, 101]⟩, ⟨#[101, 49, 116]⟩, ⟨#[121, 49, 112]⟩, ⟨#[50, 112, 104]⟩, ⟨#[110, 49, 97]⟩, ⟨#[46, 116, 50, 121]⟩, ⟨#[114, 49, 103]⟩, ⟨#[49, 102]⟩, ⟨#[116, 50, 101, 114, 46]⟩, ⟨#[97]⟩, ⟨#[119, 49]⟩, ⟨#[111, 49, 102, 51, 102]⟩, ⟨#[49, 116]⟩, ⟨#[101, 50]⟩]
theorem pats15_at (k : Nat) (hk : k < 15) : ∃ c : ByteArray, pats15[k]? = some c ∧ c.size ≤ 13 := by
  have h : pats15.all (fun c => decide (c.size ≤ 13)) = true := by decide
  have hl : pats15.length = 15 := rfl
  refine ⟨pats15[k]'(by omega), List.getElem?_eq_getElem _, ?_⟩
  have := List.all_eq_true.1 h _ (List.getElem_mem (by omega : k < pats15.length))
  simpa using this
def LetP (g p : Nat) (w : World) (e : Ending) (w' : World) : Prop := ∃ (b : Int) (q : Nat), e = .returned (.int .u8 b) ∧ (0 ≤ b ∧ b ≤ 255) ∧ q ≤ p + 2 ∧ RdS w' g q ∧ w.grownBy w' (some g)
set_option maxRecDepth 100000 in
theorem l20Letter_any (g p : Nat) (w : World) (h : RdS w g p) (hp : p ≤ 900000) :
    Calls Try.prog 50 #[.pointer (some ⟨g, 0, none⟩)] w (LetP g p w) := by
  go_enter Try.func50, Try.ntmps50
  go_wp2_with (fail)
  refine (odd_any g p 9 w h (by omega) (by omega)).mono ?_
  rintro e w1 ⟨bo, q, rfl, hbo, hr1, hq1, hq2, hg1⟩
  clear hbo h
  cases bo with
  | true =>
    go_wp2_with (fail)
    refine (pick_any g q 256 w1 hr1 (by omega) (by omega)).mono ?_
    rintro e w2 ⟨k, rfl, k0, k1, hr2, hg2⟩
    have hg := hide (only_trans hg1 hg2)
    have hr2' := hide hr2
    have k2 : k ≤ 255 := by omega
    clear hr1 hg1 hg2 hr2 k1
    go_wp2
    unfold LetP
    go_ret
    exact ⟨k, q + 1, rfl, ⟨k0, k2⟩, by omega, hr2'.out, hg.out⟩
  | false =>
    go_wp2_with (fail)
    refine (pick_any g q 16 w1 hr1 (by omega) (by omega)).mono ?_
    rintro e w2 ⟨k, rfl, k0, k1, hr2, hg2⟩
    have hg := hide (only_trans hg1 hg2)
    have hr2' := hide hr2
    obtain ⟨k, rfl⟩ := Int.eq_ofNat_of_zero_le k0
    have k2 : k < (⟨#[102, 105, 106, 108, 114, 116, 109, 119, 118, 121, 97, 101, 111, 110, 120, 122]⟩ : ByteArray).size := by show k < 16; omega
    have k3 : k < 16 := by omega
    have k4 : (k : Int) < 16 := by omega
    have hbb := hide (byte_bd _ k k2)
    clear hr1 hg1 hg2 hr2 k1 k0
    go_wp2
    unfold LetP
    go_ret
    exact ⟨_, q + 1, rfl, hbb.out, by omega, hr2'.out, hg.out⟩
set_option maxRecDepth 100000 in
set_option maxHeartbeats 1000000 in
theorem l20Text_any (g p : Nat) (m : Int) (w : World) (h : RdS w g p) (hp : p ≤ 900000) (hm : 0 ≤ m ∧ m ≤ 1000000) :
    Calls Try.prog 54 #[.pointer (some ⟨g, 0, none⟩), .int .i64 m] w (StrP g p 20 21 w) := by
  go_enter Try.func54, Try.ntmps54
  go_wp2_with (fail)
  refine (odd_any g p m w h (by omega) (by omega)).mono ?_
  rintro e w1 ⟨bo, q, rfl, hbo, hr1, hq1, hq2, hg1⟩
  clear hbo h
  cases bo with
  | true =>
    go_wp2_with (fail)
    have hrow := Blk.new w1 9 (cellsS words5).toArray
    have hr2 := hr1.alloc (.cells (cellsS words5).toArray 9)
    have hg2 := hide (only_alloc hg1 (.cells (cellsS words5).toArray 9))
    have hgl := hr1.lt
    clear hr1 hg1
    show Calls _ _ _ (w1.alloc (.cells (cellsS words5).toArray 9)) _
    generalize w1.alloc (.cells (cellsS words5).toArray 9) = wa at hrow hr2 hg2 ⊢
    generalize w1.heap.size = d at hrow hgl ⊢
    go_at_call 49
    refine (pick_any g q 5 _ hr2 (by omega) (by omega)).mono ?_
    rintro e w2 ⟨k, rfl, k0, k1, hr3, hg3⟩
    have hrow2 := hrow.grown hg3 (fun e => by injection e with e; omega)
    have hg4 := hide (only_trans hg2.out hg3)
    obtain ⟨k, rfl⟩ := Int.eq_ofNat_of_zero_le k0
    have hk : k < 5 := by omega
    have hki : (k : Int) < 5 := by omega
    obtain ⟨c, hc, hcs⟩ : ∃ c : ByteArray, (words5 : List ByteArray)[k]? = some c ∧ c.size ≤ 21 := words5_at k hk
    obtain ⟨m0, _⟩ := hrow2.strAt hc
    have hr3' := hide hr3
    clear hrow hrow2 hg3 hr2 hc hg2 k0 k1 hr3
    go_wp2
    unfold StrP
    go_ret
    exact ⟨c, q + 1, rfl, hcs, by omega, hr3'.out, hg4.out⟩
  | false =>
    go_wp2_with (fail)
    refine (pick_any g q 3 w1 hr1 (by omega) (by omega)).mono ?_
    rintro e w3 ⟨j, rfl, j0, j1, hr4, hg4⟩
    have hg5 := only_trans hg1 hg4
    clear hr1 hg1 hg4
    by_cases hj : 0 < j
    · obtain ⟨w1, rfl⟩ : ∃ w1, w1 = w3 := ⟨_, rfl⟩
      have hr1 := hr4
      have hg1 := hg5
      obtain ⟨q0, hq0⟩ : ∃ q0, q0 = q + 1 := ⟨_, rfl⟩
      rw [← hq0] at hr1
      have hqq : q0 ≤ p + 2 := by omega
      clear hr4 hg5 j1 j0 hq0 hq1 hq2
      go_wp2_with (fail)
      have hrow := Blk.new w1 9 (cellsS words12_).toArray
      have hr2 := hr1.alloc (.cells (cellsS words12_).toArray 9)
      have hg2 := hide (only_alloc hg1 (.cells (cellsS words12_).toArray 9))
      have hgl := hr1.lt
      clear hr1 hg1
      show Calls _ _ _ (w1.alloc (.cells (cellsS words12_).toArray 9)) _
      generalize w1.alloc (.cells (cellsS words12_).toArray 9) = wa at hrow hr2 hg2 ⊢
      generalize w1.heap.size = d at hrow hgl ⊢
      go_at_call 49
      refine (pick_any g q0 12 _ hr2 (by omega) (by omega)).mono ?_
      rintro e w2 ⟨k, rfl, k0, k1, hr3, hg3⟩
      have hrow2 := hrow.grown hg3 (fun e => by injection e with e; omega)
      have hg4 := hide (only_trans hg2.out hg3)
      obtain ⟨k, rfl⟩ := Int.eq_ofNat_of_zero_le k0
      have hk : k < 12 := by omega
      have hki : (k : Int) < 12 := by omega
      obtain ⟨c, hc, hcs⟩ : ∃ c : ByteArray, (words12_ : List ByteArray)[k]? = some c ∧ c.size ≤ 21 := words12__at k hk
      obtain ⟨m0, _⟩ := hrow2.strAt hc
      have hr3' := hide hr3
      clear hrow hrow2 hg3 hr2 hc hg2 k0 k1 hr3
      go_wp2
      unfold StrP
      go_ret
      exact ⟨c, q0 + 1, rfl, hcs, by omega, hr3'.out, hg4.out⟩
    · have hd : decide (0 < j) = false := by simpa using hj
      clear hj j1 j0
      go_wp2_with (fail)
      refine (pick_any g (q + 1) 9 w3 hr4 (by omega) (by omega)).mono ?_
      rintro e w4 ⟨n, rfl, n0, n1, hr5, hg6⟩
      have hg7 := only_trans hg5 hg6
      obtain ⟨n, rfl⟩ := Int.eq_ofNat_of_zero_le n0
      have hn9 : n ≤ 8 := by omega
      have hr5' := hide hr5
      have hg7' := hide hg7
      clear hr4 hg5 hg6 n0 n1 hr5 hg7
      go_wp2
      go_loopw [5, 6] (fun v i wr => ∃ (j : Nat) (o : ByteArray) (q2 : Nat), j ≤ n + 1 ∧ i = .int .i64 j ∧ v = .string o ∧ o.size + j = n + 1 ∧ q2 + j ≤ p + 14 ∧ RdS wr g q2 ∧ w.grownBy wr (some g)) (fun _ i _ => (intOf i).toNat)
      case atStart => exact ⟨n + 1, ByteArray.empty, q + 2, Nat.le_refl _, by go_num, rfl, by first | rfl | (simp; done) | (simp; omega), by omega, hr5'.out, hg7'.out⟩
      case round =>
        obtain ⟨j, o, q2, hj, rfl, rfl, hos, hq3, hr6, hg8⟩ := hrel
        by_cases hj0 : 0 < j
        · obtain ⟨j, rfl⟩ : ∃ j', j = j' + 1 := ⟨j - 1, by omega⟩
          have hd2 : decide (0 < ((j + 1 : Nat) : Int)) = true := decide_eq_true (by omega)
          go_wp2_with (fail)
          refine (pick_any g q2 26 wr hr6 (by omega) (by omega)).mono ?_
          rintro e w5 ⟨b, rfl, b0, b1, hr7, hg9⟩
          have b2 : b ≤ 25 := by omega
          have hr8 := hide (hr7.alloc (.cells #[.int .u8 (97 + b)] 5))
          have hg10 := hide (only_alloc (only_trans hg8 hg9) (.cells #[.int .u8 (97 + b)] 5))
          have hz1 : o.size + (strOfNums [97 + b]).size ≤ 9223372036854775807 := by rw [strOfNums_size]; simp; omega
          have hzs := hide (show (strOfNums [97 + b]).size = 1 by rw [strOfNums_size]; rfl)
          clear hr6 hg8 hr7 hg9 b1
          go_wp2_with fail
          rw [conv_one]
          simp only [Result.andThen]
          rw [Oper.upon_value]
          go_wp2
          go_roundw
          case rel => exact ⟨j, _, q2 + 1, by omega, by first | rfl | go_num | (congr 1; omega), rfl, by rw [ByteArray.size_append, hzs.out]; omega, by omega, hr8.out, hg10.out⟩
          case measure => (simp [intOf] <;> omega)
        · obtain rfl : j = 0 := by omega
          have hr6' := hide hr6
          have hg8' := hide hg8
          clear hr6 hg8
          go_wp2
          unfold StrP
          go_ret
          exact ⟨o, q2, rfl, by omega, by omega, hr6'.out, hg8'.out⟩
end Go.Proofs.Ytfhhfibjjpiccaa
