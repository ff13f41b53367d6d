/- Several of my texts in one: DrText, DrPats, DrLev. Their conditions stand at each. -/
import Derived.Test.YtocaonlmlafjmaaKRead
import Derived.Test.YtocaonlmlafjmaaKCore
import Derived.Test.YtocaonlmlafjmaaKEx
import Derived.StillTailTactics
import Derived.Deep.RegionHeld3
/- What the draws of letters, words and patterns give. Condition: the reader's block is its own. -/
namespace Go.Proofs.Ytocaonlmlafjmaa
open Go.RowKit
set_option linter.unusedVariables false
set_option linter.unusedSimpArgs false
set_option maxRecDepth 100000

theorem RdS.row {w w' : World} {g p : Nat} {rb : Option Nat} (h : RdS w g p) (hg : w.grownBy w' rb) (hr : ∀ k, rb = some k → g < k) : RdS w' g p := by
  cases rb with
  | none => exact h.below ⟨hg.os, hg.tape, hg.output, hg.size, fun k hk => hg.block k hk (by simp)⟩
  | some k => exact h.only hg (hr k rfl)
def StrP (g p D M : Nat) (w : World) (e : Ending) (w' : World) : Prop := ∃ (s : ByteArray) (q : Nat), e = .returned (.string s) ∧ s.size ≤ M ∧ q ≤ p + D ∧ RdS w' g q ∧ w.grownBy w' (some g)
def words5 : List ByteArray := [⟨#[]⟩, ⟨#[65]⟩, ⟨#[97, 32, 98]⟩, ⟨#[97, 98, 49]⟩, ⟨#[97, 98, 99, 100, 101, 102, 103, 104, 105, 106, 107, 108, 109, 110, 111, 112, 113, 114, 115, 116, 117]⟩]
theorem words5_at (k : Nat) (hk : k < 5) : ∃ c : ByteArray, words5[k]? = some c ∧ c.size ≤ 21 := by
  have h : words5.all (fun c => decide (c.size ≤ 21)) = true := by decide
  have hl : words5.length = 5 := rfl
  refine ⟨words5[k]'(by omega), List.getElem?_eq_getElem _, ?_⟩
  have := List.all_eq_true.1 h _ (List.getElem_mem (by omega : k < words5.length))
  simpa using this
def words12_ : List ByteArray := [⟨#[97]⟩, ⟨#[111, 102]⟩, ⟨#[116, 104, 101]⟩, ⟨#[119, 97, 116, 101, 114]⟩, ⟨#[111, 102, 102, 105, 99, 101]⟩, ⟨#[119, 97, 118, 101, 114]⟩, ⟨#[109, 97, 114, 103, 105, 110]⟩, ⟨#[104, 121, 112, 104, 101, 110, 97, 116, 101]⟩, ⟨#[116, 121, 112, 101, 115, 101, 116, 116, 101, 114]⟩, ⟨#[118, 101, 114, 121]⟩, ⟨#[102, 108, 111, 119]⟩, ⟨#[116, 97, 98, 108, 101]⟩]
theorem words12__at (k : Nat) (hk : k < 12) : ∃ c : ByteArray, words12_[k]? = some c ∧ c.size ≤ 21 := by
  have h : words12_.all (fun c => decide (c.size ≤ 21)) = true := by decide
  have hl : words12_.length = 12 := rfl
  refine ⟨words12_[k]'(by omega), List.getElem?_eq_getElem _, ?_⟩
  have := List.all_eq_true.1 h _ (List.getElem_mem (by omega : k < words12_.length))
  simpa using this
def pats8 : List ByteArray := [⟨#[]⟩, ⟨#[49]⟩, ⟨#[46]⟩, ⟨#[97, 49, 50, 98]⟩, ⟨#[97, 46, 98]⟩, ⟨#[65, 49]⟩, ⟨#[97, 98, 99, 100, 101, 102, 103, 104, 105, 106, 107, 108, 109]⟩, ⟨#[46, 46, 97]⟩]
theorem pats8_at (k : Nat) (hk : k < 8) : ∃ c : ByteArray, pats8[k]? = some c ∧ c.size ≤ 13 := by
  have h : pats8.all (fun c => decide (c.size ≤ 13)) = true := by decide
  have hl : pats8.length = 8 := rfl
  refine ⟨pats8[k]'(by omega), List.getElem?_eq_getElem _, ?_⟩
  have := List.all_eq_true.1 h _ (List.getElem_mem (by omega : k < pats8.length))
  simpa using this
def pats15 : List ByteArray := [⟨#[97, 49, 98]⟩, ⟨#[116, 49, 101]⟩, ⟨#[101, 49, 116]⟩, ⟨#[121, 49, 112]⟩, ⟨#[50, 112, 104]⟩, ⟨#[110, 49, 97]⟩, ⟨#[46, 116, 50, 121]⟩, ⟨#[114, 49, 103]⟩, ⟨#[49, 102]⟩, ⟨#[116, 50, 101, 114, 46]⟩, ⟨#[97]⟩, ⟨#[119, 49]⟩, ⟨#[111, 49, 102, 51, 102]⟩, ⟨#[49, 116]⟩, ⟨#[101, 50]⟩]
theorem pats15_at (k : Nat) (hk : k < 15) : ∃ c : ByteArray, pats15[k]? = some c ∧ c.size ≤ 13 := by
  have h : pats15.all (fun c => decide (c.size ≤ 13)) = true := by decide
  have hl : pats15.length = 15 := rfl
  refine ⟨pats15[k]'(by omega), List.getElem?_eq_getElem _, ?_⟩
  have := List.all_eq_true.1 h _ (List.getElem_mem (by omega : k < pats15.length))
  simpa using this
def LetP (g p : Nat) (w : World) (e : Ending) (w' : World) : Prop := ∃ (b : Int) (q : Nat), e = .returned (.int .u8 b) ∧ (0 ≤ b ∧ b ≤ 255) ∧ q ≤ p + 2 ∧ RdS w' g q ∧ w.grownBy w' (some g)
set_option maxRecDepth 100000 in
set_option maxHeartbeats 1000000 in
theorem l20Text_any (g p : Nat) (m : Int) (w : World) (h : RdS w g p) (hp : p ≤ 900000) (hm : 0 ≤ m ∧ m ≤ 1000000) :
    Calls Try.prog 104 #[.pointer (some ⟨g, 0, none⟩), .int .i64 m] w (StrP g p 20 21 w) := by
  go_enter Try.func104, Try.ntmps104
  go_wp2_with (fail)
  refine (odd_any g p m w h (by omega) (by omega)).mono ?_
  rintro e w1 ⟨bo, q, rfl, hbo, hr1, hq1, hq2, hg1⟩
  clear hbo h
  cases bo with
  | true =>
    go_wp2_with (fail)
    have hrow := Blk.new w1 9 (cellsS words5).toArray
    have hr2 := hr1.alloc (.cells (cellsS words5).toArray 9)
    have hg2 := hide (only_alloc hg1 (.cells (cellsS words5).toArray 9))
    have hgl := hr1.lt
    clear hr1 hg1
    show Calls _ _ _ (w1.alloc (.cells (cellsS words5).toArray 9)) _
    generalize w1.alloc (.cells (cellsS words5).toArray 9) = wa at hrow hr2 hg2 ⊢
    generalize w1.heap.size = d at hrow hgl ⊢
    go_at_call 80
    refine (pick_any g q 5 _ hr2 (by omega) (by omega)).mono ?_
    rintro e w2 ⟨k, rfl, k0, k1, hr3, hg3⟩
    have hrow2 := hrow.grown hg3 (fun e => by injection e with e; omega)
    have hg4 := hide (only_trans hg2.out hg3)
    obtain ⟨k, rfl⟩ := Int.eq_ofNat_of_zero_le k0
    have hk : k < 5 := by omega
    have hki : (k : Int) < 5 := by omega
    obtain ⟨c, hc, hcs⟩ : ∃ c : ByteArray, (words5 : List ByteArray)[k]? = some c ∧ c.size ≤ 21 := words5_at k hk
    obtain ⟨m0, _⟩ := hrow2.strAt hc
    have hr3' := hide hr3
    clear hrow hrow2 hg3 hr2 hc hg2 k0 k1 hr3
    go_wp2
    unfold StrP
    go_ret
    exact ⟨c, q + 1, rfl, hcs, by omega, hr3'.out, hg4.out⟩
  | false =>
    go_wp2_with (fail)
    refine (pick_any g q 3 w1 hr1 (by omega) (by omega)).mono ?_
    rintro e w3 ⟨j, rfl, j0, j1, hr4, hg4⟩
    have hg5 := only_trans hg1 hg4
    clear hr1 hg1 hg4
    by_cases hj : 0 < j
    · obtain ⟨w1, rfl⟩ : ∃ w1, w1 = w3 := ⟨_, rfl⟩
      have hr1 := hr4
      have hg1 := hg5
      obtain ⟨q0, hq0⟩ : ∃ q0, q0 = q + 1 := ⟨_, rfl⟩
      rw [← hq0] at hr1
      have hqq : q0 ≤ p + 2 := by omega
      clear hr4 hg5 j1 j0 hq0 hq1 hq2
      go_wp2_with (fail)
      have hrow := Blk.new w1 9 (cellsS words12_).toArray
      have hr2 := hr1.alloc (.cells (cellsS words12_).toArray 9)
      have hg2 := hide (only_alloc hg1 (.cells (cellsS words12_).toArray 9))
      have hgl := hr1.lt
      clear hr1 hg1
      show Calls _ _ _ (w1.alloc (.cells (cellsS words12_).toArray 9)) _
      generalize w1.alloc (.cells (cellsS words12_).toArray 9) = wa at hrow hr2 hg2 ⊢
      generalize w1.heap.size = d at hrow hgl ⊢
      go_at_call 80
      refine (pick_any g q0 12 _ hr2 (by omega) (by omega)).mono ?_
      rintro e w2 ⟨k, rfl, k0, k1, hr3, hg3⟩
      have hrow2 := hrow.grown hg3 (fun e => by injection e with e; omega)
      have hg4 := hide (only_trans hg2.out hg3)
      obtain ⟨k, rfl⟩ := Int.eq_ofNat_of_zero_le k0
      have hk : k < 12 := by omega
      have hki : (k : Int) < 12 := by omega
      obtain ⟨c, hc, hcs⟩ : ∃ c : ByteArray, (words12_ : List ByteArray)[k]? = some c ∧ c.size ≤ 21 := words12__at k hk
      obtain ⟨m0, _⟩ := hrow2.strAt hc
      have hr3' := hide hr3
      clear hrow hrow2 hg3 hr2 hc hg2 k0 k1 hr3
      go_wp2
      unfold StrP
      go_ret
      exact ⟨c, q0 + 1, rfl, hcs, by omega, hr3'.out, hg4.out⟩
    · have hd : decide (0 < j) = false := by simpa using hj
      clear hj j1 j0
      go_wp2_with (fail)
      refine (pick_any g (q + 1) 9 w3 hr4 (by omega) (by omega)).mono ?_
      rintro e w4 ⟨n, rfl, n0, n1, hr5, hg6⟩
      have hg7 := only_trans hg5 hg6
      obtain ⟨n, rfl⟩ := Int.eq_ofNat_of_zero_le n0
      have hn9 : n ≤ 8 := by omega
      have hr5' := hide hr5
      have hg7' := hide hg7
      clear hr4 hg5 hg6 n0 n1 hr5 hg7
      go_wp2
      go_loopw [5, 6] (fun v i wr => ∃ (j : Nat) (o : ByteArray) (q2 : Nat), j ≤ n + 1 ∧ i = .int .i64 j ∧ v = .string o ∧ o.size + j = n + 1 ∧ q2 + j ≤ p + 14 ∧ RdS wr g q2 ∧ w.grownBy wr (some g)) (fun _ i _ => (intOf i).toNat)
      case atStart => exact ⟨n + 1, ByteArray.empty, q + 2, Nat.le_refl _, by go_num, rfl, by first | rfl | (simp; done) | (simp; omega), by omega, hr5'.out, hg7'.out⟩
      case round =>
        obtain ⟨j, o, q2, hj, rfl, rfl, hos, hq3, hr6, hg8⟩ := hrel
        by_cases hj0 : 0 < j
        · obtain ⟨j, rfl⟩ : ∃ j', j = j' + 1 := ⟨j - 1, by omega⟩
          have hd2 : decide (0 < ((j + 1 : Nat) : Int)) = true := decide_eq_true (by omega)
          go_wp2_with (fail)
          refine (pick_any g q2 26 wr hr6 (by omega) (by omega)).mono ?_
          rintro e w5 ⟨b, rfl, b0, b1, hr7, hg9⟩
          have b2 : b ≤ 25 := by omega
          have hr8 := hide (hr7.alloc (.cells #[.int .u8 (97 + b)] 5))
          have hg10 := hide (only_alloc (only_trans hg8 hg9) (.cells #[.int .u8 (97 + b)] 5))
          have hz1 : o.size + (strOfNums [97 + b]).size ≤ 9223372036854775807 := by rw [strOfNums_size]; simp; omega
          have hzs := hide (show (strOfNums [97 + b]).size = 1 by rw [strOfNums_size]; rfl)
          clear hr6 hg8 hr7 hg9 b1
          go_wp2_with fail
          rw [conv_one]
          simp only [Result.andThen]
          rw [Oper.upon_value]
          go_wp2
          go_roundw
          case rel => exact ⟨j, _, q2 + 1, by omega, by first | rfl | go_num | (congr 1; omega), rfl, by rw [ByteArray.size_append, hzs.out]; omega, by omega, hr8.out, hg10.out⟩
          case measure => (simp [intOf] <;> omega)
        · obtain rfl : j = 0 := by omega
          have hr6' := hide hr6
          have hg8' := hide hg8
          clear hr6 hg8
          go_wp2
          unfold StrP
          go_ret
          exact ⟨o, q2, rfl, by omega, by omega, hr6'.out, hg8'.out⟩
set_option maxRecDepth 100000 in
set_option maxHeartbeats 1000000 in
theorem l20Pattern_any (g p : Nat) (m : Int) (w : World) (h : RdS w g p) (hp : p ≤ 900000) (hm : 0 ≤ m ∧ m ≤ 1000000) :
    Calls Try.prog 111 #[.pointer (some ⟨g, 0, none⟩), .int .i64 m] w (StrP g p 2 13 w) := by
  go_enter Try.func111, Try.ntmps111
  go_wp2_with (fail)
  refine (odd_any g p m w h (by omega) (by omega)).mono ?_
  rintro e w1 ⟨bo, q, rfl, hbo, hr1, hq1, hq2, hg1⟩
  clear hbo h
  cases bo with
  | true =>
    go_wp2_with (fail)
    have hrow := Blk.new w1 9 (cellsS pats8).toArray
    have hr2 := hr1.alloc (.cells (cellsS pats8).toArray 9)
    have hg2 := hide (only_alloc hg1 (.cells (cellsS pats8).toArray 9))
    have hgl := hr1.lt
    clear hr1 hg1
    show Calls _ _ _ (w1.alloc (.cells (cellsS pats8).toArray 9)) _
    generalize w1.alloc (.cells (cellsS pats8).toArray 9) = wa at hrow hr2 hg2 ⊢
    generalize w1.heap.size = d at hrow hgl ⊢
    go_at_call 80
    refine (pick_any g q 8 _ hr2 (by omega) (by omega)).mono ?_
    rintro e w2 ⟨k, rfl, k0, k1, hr3, hg3⟩
    have hrow2 := hrow.grown hg3 (fun e => by injection e with e; omega)
    have hg4 := hide (only_trans hg2.out hg3)
    obtain ⟨k, rfl⟩ := Int.eq_ofNat_of_zero_le k0
    have hk : k < 8 := by omega
    have hki : (k : Int) < 8 := by omega
    obtain ⟨c, hc, hcs⟩ : ∃ c : ByteArray, (pats8 : List ByteArray)[k]? = some c ∧ c.size ≤ 13 := pats8_at k hk
    obtain ⟨m0, _⟩ := hrow2.strAt hc
    have hr3' := hide hr3
    clear hrow hrow2 hg3 hr2 hc hg2 k0 k1 hr3
    go_wp2
    unfold StrP
    go_ret
    exact ⟨c, q + 1, rfl, hcs, by omega, hr3'.out, hg4.out⟩
  | false =>
    go_wp2_with (fail)
    have hrow := Blk.new w1 9 (cellsS pats15).toArray
    have hr2 := hr1.alloc (.cells (cellsS pats15).toArray 9)
    have hg2 := hide (only_alloc hg1 (.cells (cellsS pats15).toArray 9))
    have hgl := hr1.lt
    clear hr1 hg1
    show Calls _ _ _ (w1.alloc (.cells (cellsS pats15).toArray 9)) _
    generalize w1.alloc (.cells (cellsS pats15).toArray 9) = wa at hrow hr2 hg2 ⊢
    generalize w1.heap.size = d at hrow hgl ⊢
    go_at_call 80
    refine (pick_any g q 15 _ hr2 (by omega) (by omega)).mono ?_
    rintro e w2 ⟨k, rfl, k0, k1, hr3, hg3⟩
    have hrow2 := hrow.grown hg3 (fun e => by injection e with e; omega)
    have hg4 := hide (only_trans hg2.out hg3)
    obtain ⟨k, rfl⟩ := Int.eq_ofNat_of_zero_le k0
    have hk : k < 15 := by omega
    have hki : (k : Int) < 15 := by omega
    obtain ⟨c, hc, hcs⟩ : ∃ c : ByteArray, (pats15 : List ByteArray)[k]? = some c ∧ c.size ≤ 13 := pats15_at k hk
    obtain ⟨m0, _⟩ := hrow2.strAt hc
    have hr3' := hide hr3
    clear hrow hrow2 hg3 hr2 hc hg2 k0 k1 hr3
    go_wp2
    unfold StrP
    go_ret
    exact ⟨c, q + 1, rfl, hcs, by omega, hr3'.out, hg4.out⟩
end Go.Proofs.Ytocaonlmlafjmaa

/- What the draw of patterns gives: a row of short texts. Condition: the reader's block is its own. -/
namespace Go.Proofs.Ytocaonlmlafjmaa
open Go.RowKit
set_option linter.unusedVariables false
set_option linter.unusedSimpArgs false
set_option maxRecDepth 100000

def SsRel (w : World) (g p K M : Nat) (v : Value) (n : Nat) (wr : World) : Prop :=
  ∃ (L : List ByteArray) (q : Nat), L.length = n ∧ (∀ x ∈ L, x.size ≤ M) ∧ wr.ownsRow w.heap.size 9 1 v n (cellsS L) ∧ q ≤ p + K ∧ RdS wr g q ∧ Outer w.heap.size g w wr
def SsP (g p K M N : Nat) (w : World) (e : Ending) (w' : World) : Prop := ∃ (L : List ByteArray) (v : Value) (n q : Nat), e = .returned v ∧ n ≤ N ∧ L.length = n ∧ (∀ x ∈ L, x.size ≤ M) ∧ w'.ownsRow w.heap.size 9 1 v n (cellsS L) ∧ q ≤ p + K ∧ RdS w' g q ∧ w.grownBy w' (some g)
theorem cellsS_snoc (L : List ByteArray) (x : ByteArray) : cellsS (L ++ [x]) = cellsS L ++ [.string x] := by simp [cellsS]
theorem ss_step {w wr w2 w3 : World} {g p K M q2 n g3 cap3 : Nat} {v : Value} {L : List ByteArray} {x : ByteArray} (hL : List.length L = n) (hLb : ∀ x ∈ L, x.size ≤ M) (hx : x.size ≤ M) (hown : wr.ownsRow w.heap.size 9 1 v n (cellsS L)) (hq2 : q2 ≤ p + K) (hr2 : RdS w2 g q2) (hgl : g < w.heap.size)
    (hO : Outer w.heap.size g w w2) (hown3 : w3.ownsRow w.heap.size 9 1 (.slice (some ⟨g3, 0, none⟩) (n + 1) cap3) (n + 1) (cellsS L ++ [.string x]))
    (hg3 : (w2.alloc (.cells #[.string x] 9)).grownBy w3 v.ownBlock) : SsRel w g p K M (.slice (some ⟨g3, 0, none⟩) (n + 1) cap3) (n + 1) w3 := by
  have hrb : ∀ k, v.ownBlock = some k → w.heap.size ≤ k := fun k hk => (hown.lt k hk).1
  refine ⟨L ++ [x], q2, by simp [hL], fun y hy => ?_, by rw [cellsS_snoc]; exact hown3, hq2, (hr2.alloc _).row hg3 (fun k hk => by have := hrb k hk; omega), ?_⟩
  · rcases List.mem_append.1 hy with hy | hy
    · exact hLb y hy
    · simp at hy; subst hy; exact hx
  · exact (hO.trans (Outer.grown (only_alloc' w2 _ g) hO.size)).trans (Outer.row hg3 (by have := hO.size; simp; omega) hrb)
set_option maxRecDepth 100000 in
set_option maxHeartbeats 1000000 in
theorem l20Patterns_any (g p : Nat) (m : Int) (w : World) (h : RdS w g p) (hp : p ≤ 100000) (hm : 0 ≤ m ∧ m ≤ 1000000) :
    Calls Try.prog 91 #[.pointer (some ⟨g, 0, none⟩), .int .i64 m] w (SsP g p 60 13 21 w) := by
  have hgl := h.lt
  have hk0 := Blk.new w 9 #[]
  have ho0 := only_alloc (only_refl w (some g)) (.cells #[] 9)
  have hs0 := h.alloc (.cells #[] 9)
  clear h
  obtain ⟨i0, hi, hz0, hz1, hz2⟩ := info_parts str_info
  go_enter Try.func91, Try.ntmps91
  go_wp2_with (fail)
  generalize w.alloc (.cells #[] 9) = wa at hk0 ho0 hs0 ⊢
  go_at_call 80
  refine (pick_any g p 7 _ hs0 (by omega) (by omega)).mono ?_
  rintro e w1 ⟨k, rfl, k0, k1, hs1, hg1⟩
  have hk1 := hide (own_empty1 (base := w.heap.size) (hk0.grown hg1 (fun e => by injection e with e; omega)) (Nat.le_refl _))
  have ho1 := hide (Outer.grown (only_trans ho0 hg1) (Nat.le_refl _))
  obtain ⟨k, rfl⟩ := Int.eq_ofNat_of_zero_le k0
  have hk7 : k ≤ 6 := by omega
  have hs1' := hide hs1
  clear hk0 ho0 hs0 hg1 k0 k1 hs1
  go_wp2
  go_loopw [5, 6] (fun v i wr => ∃ j n : Nat, i = .int .i64 j ∧ j + n = k ∧ SsRel w g p (1 + 2 * n) 13 v n wr) (fun _ i _ => (intOf i).toNat)
  case atStart => exact ⟨k, 0, rfl, rfl, [], p + 1, rfl, fun x hx => (by cases hx), hk1.out, by omega, hs1'.out, ho1.out⟩
  case round =>
    obtain ⟨j, n, rfl, hjn, L, q, hL, hLb, hown, hq, hr, hO⟩ := hrel
    have hL' := hide hL
    have hown' := hide hown
    have hne' := hide (fun kk hkk => (hown'.out.lt kk hkk))
    have hwr := hO.size
    clear hL hk1 ho1 hs1'
    by_cases hj : 0 < j
    · obtain ⟨j, rfl⟩ : ∃ j', j = j' + 1 := ⟨j - 1, by omega⟩
      have hd : decide (0 < ((j + 1 : Nat) : Int)) = true := decide_eq_true (by omega)
      go_wp2_with (fail)
      go_at_call 111
      refine (l20Pattern_any g q 0 wr hr (by omega) (by omega)).mono ?_
      rintro e w2 ⟨x, q2, rfl, hx, hq2, hr2, hg2⟩
      have hown2 := hide (own_keep hown (fun kk hkk => hg2.block kk ((hne'.out kk hkk).2) (fun e => by have := (hne'.out kk hkk).1; injection e with e; omega)))
      have hO2 := hide (hO.trans (Outer.grown hg2 hwr))
      have hb2 := hg2.size
      have hLb' := hide hLb
      have hr2' := hide hr2
      clear hr hown hg2 hO hLb hr2
      go_wp2_with (at_builtin; refine wpList_append_lies _ rfl _ _ 49 rfl w.heap.size 9 i0 (.string ByteArray.empty) 1 16 Try.underlying49 hi hz0 hz1 hz2 rfl (by decide) _ _ _ rfl (hown2.out.alloc _) ⟨w2.heap.size, 0, none⟩ 1 1 [.string x] rfl rfl (fun j u hj => cell_one_at (by simp) hj) (one_str _) (by omega) (by unfold maxLen; omega) (by omega) (by simp; omega) _ rfl ?_)
      intro g3 cap3 w3 hown3 hg3 hat3 hlt3
      have hfin := hide (ss_step (p := p) (K := 1 + 2 * (n + 1)) (M := 13) hL'.out hLb'.out hx hown'.out (by omega) hr2'.out hgl hO2.out hown3 hg3)
      clear hown3 hg3 hat3 hlt3 hx
      go_wp2
      go_roundw
      case rel => exact ⟨j, n + 1, by first | rfl | go_num | (congr 1; omega), by omega, hfin.out⟩
      case measure => (simp [intOf] <;> omega)
    · obtain rfl : j = 0 := by omega
      obtain rfl : n = k := by omega
      go_wp2_with (fail)
      refine (odd_any g q m wr hr (by omega) (by omega)).mono ?_
      rintro e w2 ⟨bo, q2, rfl, hbo, hr2, hq1, hq2, hg2⟩
      have hown2 := hide (own_keep hown (fun kk hkk => hg2.block kk ((hne'.out kk hkk).2) (fun e => by have := (hne'.out kk hkk).1; injection e with e; omega)))
      have hO2 := hide (hO.trans (Outer.grown hg2 hwr))
      have hb2 := hg2.size
      have hLb' := hide hLb
      clear hr hown hg2 hO hLb hbo
      cases bo with
      | false =>
        have hr2' := hide hr2
        clear hr2
        go_wp2
        unfold SsP
        go_ret
        exact ⟨L, _, n, q2, rfl, by omega, hL'.out, hLb'.out, hown2.out, by omega, hr2'.out, hO2.out.to_grown⟩
      | true =>
        go_wp2_with (fail)
        refine (pick_any g q2 2 w2 hr2 (by omega) (by omega)).mono ?_
        rintro e w3 ⟨t, rfl, t0, t1, hr3, hg3⟩
        have hne2 := hide (fun kk hkk => (hown2.out.lt kk hkk))
        have hown3 := hide (own_keep hown2.out (fun kk hkk => hg3.block kk ((hne2.out kk hkk).2) (fun e => by have := (hne2.out kk hkk).1; injection e with e; omega)))
        have hO3 := hide (hO2.out.trans (Outer.grown hg3 (by omega)))
        have hb3 := hg3.size
        clear hr2 hg3
        by_cases ht : t = 0
        · subst ht
          go_wp2_with (fail)
          go_at_call 111
          refine (l20Pattern_any g (q2 + 1) 1 w3 hr3 (by omega) (by omega)).mono ?_
          rintro e w4 ⟨x, q4, rfl, hx, hq4, hr4, hg4⟩
          have hne3 := hide (fun kk hkk => (hown3.out.lt kk hkk))
          have hown4 := hide (own_keep hown3.out (fun kk hkk => hg4.block kk ((hne3.out kk hkk).2) (fun e => by have := (hne3.out kk hkk).1; injection e with e; omega)))
          have hO4 := hide (hO3.out.trans (Outer.grown hg4 (by omega)))
          have hb4 := hg4.size
          have hr4' := hide hr4
          clear hr3 hg4 hr4
          go_wp2_with (at_builtin; refine wpList_append_lies _ rfl _ _ 49 rfl w.heap.size 9 i0 (.string ByteArray.empty) 1 16 Try.underlying49 hi hz0 hz1 hz2 rfl (by decide) _ _ _ rfl (hown4.out.alloc _) ⟨w4.heap.size, 0, none⟩ 1 1 [.string x] rfl rfl (fun j u hj => cell_one_at (by simp) hj) (one_str _) (by omega) (by unfold maxLen; omega) (by omega) (by simp; omega) _ rfl ?_)
          intro g5 cap5 w5 hown5 hg5 hat5 hlt5
          have hfin := hide (ss_step (p := p) (K := 60) (M := 13) hL'.out hLb'.out hx hown4.out (by omega) hr4'.out hgl hO4.out hown5 hg5)
          clear hown5 hg5 hat5 hlt5 hx
          go_wp2
          unfold SsP
          go_ret
          obtain ⟨L5, q5, f1, f2, f3, f4, f5, f6⟩ := hfin.out
          exact ⟨L5, _, n + 1, q5, rfl, by omega, f1, f2, f3, f4, f5, f6.to_grown⟩
        · have hd3 : (t == 0) = false := by simpa using ht
          have hr3' := hide hr3
          clear hr3 ht
          go_wp2
          go_loopw [5] (fun v wr => ∃ n : Nat, n ≤ 21 ∧ SsRel w g p 60 13 v n wr) (fun v _ => 21 + 1 - (match v with | .slice _ n _ => n | _ => 0))
          case atStart => exact ⟨n, by omega, L, q2 + 1, hL'.out, hLb'.out, hown3.out, by omega, hr3'.out, hO3.out⟩
          case round =>
            obtain ⟨n2, hn2, L2, q5, hL2, hLb2, hown5, hq5, hr5, hO5⟩ := hrel
            obtain ⟨A5, c5, rfl, _, _⟩ := own_form hown5
            have hown5' := hide hown5
            have hL2' := hide hL2
            have hLb2' := hide hLb2
            have hr5' := hide hr5
            have hO5' := hide hO5
            have hwr5 := hO5.size
            clear hown5 hL2 hLb2 hr5 hO5
            by_cases hN : n2 ≤ 20
            · have hd5 : ((n2 : Nat) : Int) ≤ 20 := by omega
              have hd5' : decide (((n2 : Nat) : Int) ≤ 20) = true := decide_eq_true (by omega)
              go_wp2_with (at_builtin; refine wpList_append_lies _ rfl _ _ 49 rfl w.heap.size 9 i0 (.string ByteArray.empty) 1 16 Try.underlying49 hi hz0 hz1 hz2 rfl (by decide) _ _ _ rfl (hown5'.out.alloc _) ⟨wr.heap.size, 0, none⟩ 1 1 [.string ⟨#[97, 49]⟩] rfl rfl (fun j u hj => cell_one_at (by simp) hj) (one_str _) (by omega) (by unfold maxLen; omega) (by omega) (by simp; omega) _ rfl ?_)
              intro g7 cap7 w7 hown7 hg7 hat7 hlt7
              have hfin := hide (ss_step (p := p) (K := 60) (M := 13) hL2'.out hLb2'.out (x := ⟨#[97, 49]⟩) (by show 2 ≤ 13; omega) hown5'.out hq5 hr5'.out hgl hO5'.out hown7 hg7)
              clear hown7 hg7 hat7 hlt7
              go_wp2
              go_roundw
              case rel => exact ⟨n2 + 1, by omega, hfin.out⟩
              case measure => (simp <;> omega)
            · have hd5 : decide (((n2 : Nat) : Int) ≤ 20) = false := decide_eq_false (by omega)
              go_wp2
              unfold SsP
              go_ret
              exact ⟨L2, _, n2, q5, rfl, hn2, hL2'.out, hLb2'.out, hown5'.out, hq5, hr5'.out, hO5'.out.to_grown⟩
set_option maxRecDepth 100000 in
set_option maxHeartbeats 1000000 in
theorem l20Words_any (g p : Nat) (m : Int) (w : World) (h : RdS w g p) (hp : p ≤ 100000) (hm : 0 ≤ m ∧ m ≤ 1000000) :
    Calls Try.prog 86 #[.pointer (some ⟨g, 0, none⟩), .int .i64 m] w (SsP g p 300 21 13 w) := by
  have hgl := h.lt
  have hk0 := Blk.new w 9 #[]
  have ho0 := only_alloc (only_refl w (some g)) (.cells #[] 9)
  have hs0 := h.alloc (.cells #[] 9)
  clear h
  obtain ⟨i0, hi, hz0, hz1, hz2⟩ := info_parts str_info
  go_enter Try.func86, Try.ntmps86
  go_wp2_with (fail)
  generalize w.alloc (.cells #[] 9) = wa at hk0 ho0 hs0 ⊢
  go_at_call 80
  refine (pick_any g p 8 _ hs0 (by omega) (by omega)).mono ?_
  rintro e w1 ⟨k, rfl, k0, k1, hs1, hg1⟩
  have hk1 := hide (own_empty1 (base := w.heap.size) (hk0.grown hg1 (fun e => by injection e with e; omega)) (Nat.le_refl _))
  have ho1 := hide (Outer.grown (only_trans ho0 hg1) (Nat.le_refl _))
  obtain ⟨k, rfl⟩ := Int.eq_ofNat_of_zero_le k0
  have hk7 : k ≤ 7 := by omega
  have hs1' := hide hs1
  clear hk0 ho0 hs0 hg1 k0 k1 hs1
  go_wp2
  go_loopw [5, 6] (fun v i wr => ∃ j n : Nat, i = .int .i64 j ∧ j + n = k ∧ SsRel w g p (1 + 20 * n) 21 v n wr) (fun _ i _ => (intOf i).toNat)
  case atStart => exact ⟨k, 0, rfl, rfl, [], p + 1, rfl, fun x hx => (by cases hx), hk1.out, by omega, hs1'.out, ho1.out⟩
  case round =>
    obtain ⟨j, n, rfl, hjn, L, q, hL, hLb, hown, hq, hr, hO⟩ := hrel
    have hL' := hide hL
    have hown' := hide hown
    have hne' := hide (fun kk hkk => (hown'.out.lt kk hkk))
    have hwr := hO.size
    clear hL hk1 ho1 hs1'
    by_cases hj : 0 < j
    · obtain ⟨j, rfl⟩ : ∃ j', j = j' + 1 := ⟨j - 1, by omega⟩
      have hd : decide (0 < ((j + 1 : Nat) : Int)) = true := decide_eq_true (by omega)
      go_wp2_with (fail)
      go_at_call 104
      refine (l20Text_any g q 0 wr hr (by omega) (by omega)).mono ?_
      rintro e w2 ⟨x, q2, rfl, hx, hq2, hr2, hg2⟩
      have hown2 := hide (own_keep hown (fun kk hkk => hg2.block kk ((hne'.out kk hkk).2) (fun e => by have := (hne'.out kk hkk).1; injection e with e; omega)))
      have hO2 := hide (hO.trans (Outer.grown hg2 hwr))
      have hb2 := hg2.size
      have hLb' := hide hLb
      have hr2' := hide hr2
      clear hr hown hg2 hO hLb hr2
      go_wp2_with (at_builtin; refine wpList_append_lies _ rfl _ _ 49 rfl w.heap.size 9 i0 (.string ByteArray.empty) 1 16 Try.underlying49 hi hz0 hz1 hz2 rfl (by decide) _ _ _ rfl (hown2.out.alloc _) ⟨w2.heap.size, 0, none⟩ 1 1 [.string x] rfl rfl (fun j u hj => cell_one_at (by simp) hj) (one_str _) (by omega) (by unfold maxLen; omega) (by omega) (by simp; omega) _ rfl ?_)
      intro g3 cap3 w3 hown3 hg3 hat3 hlt3
      have hfin := hide (ss_step (p := p) (K := 1 + 20 * (n + 1)) (M := 21) hL'.out hLb'.out hx hown'.out (by omega) hr2'.out hgl hO2.out hown3 hg3)
      clear hown3 hg3 hat3 hlt3 hx
      go_wp2
      go_roundw
      case rel => exact ⟨j, n + 1, by first | rfl | go_num | (congr 1; omega), by omega, hfin.out⟩
      case measure => (simp [intOf] <;> omega)
    · obtain rfl : j = 0 := by omega
      obtain rfl : n = k := by omega
      go_wp2_with (fail)
      refine (odd_any g q m wr hr (by omega) (by omega)).mono ?_
      rintro e w2 ⟨bo, q2, rfl, hbo, hr2, hq1, hq2, hg2⟩
      have hown2 := hide (own_keep hown (fun kk hkk => hg2.block kk ((hne'.out kk hkk).2) (fun e => by have := (hne'.out kk hkk).1; injection e with e; omega)))
      have hO2 := hide (hO.trans (Outer.grown hg2 hwr))
      have hb2 := hg2.size
      have hLb' := hide hLb
      clear hr hown hg2 hO hLb hbo
      cases bo with
      | false =>
        have hr2' := hide hr2
        clear hr2
        go_wp2
        unfold SsP
        go_ret
        exact ⟨L, _, n, q2, rfl, by omega, hL'.out, hLb'.out, hown2.out, by omega, hr2'.out, hO2.out.to_grown⟩
      | true =>
        go_wp2_with (fail)
        refine (pick_any g q2 2 w2 hr2 (by omega) (by omega)).mono ?_
        rintro e w3 ⟨t, rfl, t0, t1, hr3, hg3⟩
        have hne2 := hide (fun kk hkk => (hown2.out.lt kk hkk))
        have hown3 := hide (own_keep hown2.out (fun kk hkk => hg3.block kk ((hne2.out kk hkk).2) (fun e => by have := (hne2.out kk hkk).1; injection e with e; omega)))
        have hO3 := hide (hO2.out.trans (Outer.grown hg3 (by omega)))
        have hb3 := hg3.size
        clear hr2 hg3
        by_cases ht : t = 0
        · subst ht
          go_wp2_with (fail)
          go_at_call 104
          refine (l20Text_any g (q2 + 1) 1 w3 hr3 (by omega) (by omega)).mono ?_
          rintro e w4 ⟨x, q4, rfl, hx, hq4, hr4, hg4⟩
          have hne3 := hide (fun kk hkk => (hown3.out.lt kk hkk))
          have hown4 := hide (own_keep hown3.out (fun kk hkk => hg4.block kk ((hne3.out kk hkk).2) (fun e => by have := (hne3.out kk hkk).1; injection e with e; omega)))
          have hO4 := hide (hO3.out.trans (Outer.grown hg4 (by omega)))
          have hb4 := hg4.size
          have hr4' := hide hr4
          clear hr3 hg4 hr4
          go_wp2_with (at_builtin; refine wpList_append_lies _ rfl _ _ 49 rfl w.heap.size 9 i0 (.string ByteArray.empty) 1 16 Try.underlying49 hi hz0 hz1 hz2 rfl (by decide) _ _ _ rfl (hown4.out.alloc _) ⟨w4.heap.size, 0, none⟩ 1 1 [.string x] rfl rfl (fun j u hj => cell_one_at (by simp) hj) (one_str _) (by omega) (by unfold maxLen; omega) (by omega) (by simp; omega) _ rfl ?_)
          intro g5 cap5 w5 hown5 hg5 hat5 hlt5
          have hfin := hide (ss_step (p := p) (K := 300) (M := 21) hL'.out hLb'.out hx hown4.out (by omega) hr4'.out hgl hO4.out hown5 hg5)
          clear hown5 hg5 hat5 hlt5 hx
          go_wp2
          unfold SsP
          go_ret
          obtain ⟨L5, q5, f1, f2, f3, f4, f5, f6⟩ := hfin.out
          exact ⟨L5, _, n + 1, q5, rfl, by omega, f1, f2, f3, f4, f5, f6.to_grown⟩
        · have hd3 : (t == 0) = false := by simpa using ht
          have hr3' := hide hr3
          clear hr3 ht
          go_wp2
          go_loopw [5] (fun v wr => ∃ n : Nat, n ≤ 13 ∧ SsRel w g p 300 21 v n wr) (fun v _ => 13 + 1 - (match v with | .slice _ n _ => n | _ => 0))
          case atStart => exact ⟨n, by omega, L, q2 + 1, hL'.out, hLb'.out, hown3.out, by omega, hr3'.out, hO3.out⟩
          case round =>
            obtain ⟨n2, hn2, L2, q5, hL2, hLb2, hown5, hq5, hr5, hO5⟩ := hrel
            obtain ⟨A5, c5, rfl, _, _⟩ := own_form hown5
            have hown5' := hide hown5
            have hL2' := hide hL2
            have hLb2' := hide hLb2
            have hr5' := hide hr5
            have hO5' := hide hO5
            have hwr5 := hO5.size
            clear hown5 hL2 hLb2 hr5 hO5
            by_cases hN : n2 ≤ 12
            · have hd5 : ((n2 : Nat) : Int) ≤ 12 := by omega
              have hd5' : decide (((n2 : Nat) : Int) ≤ 12) = true := decide_eq_true (by omega)
              go_wp2_with (at_builtin; refine wpList_append_lies _ rfl _ _ 49 rfl w.heap.size 9 i0 (.string ByteArray.empty) 1 16 Try.underlying49 hi hz0 hz1 hz2 rfl (by decide) _ _ _ rfl (hown5'.out.alloc _) ⟨wr.heap.size, 0, none⟩ 1 1 [.string ⟨#[111, 102]⟩] rfl rfl (fun j u hj => cell_one_at (by simp) hj) (one_str _) (by omega) (by unfold maxLen; omega) (by omega) (by simp; omega) _ rfl ?_)
              intro g7 cap7 w7 hown7 hg7 hat7 hlt7
              have hfin := hide (ss_step (p := p) (K := 300) (M := 21) hL2'.out hLb2'.out (x := ⟨#[111, 102]⟩) (by show 2 ≤ 21; omega) hown5'.out hq5 hr5'.out hgl hO5'.out hown7 hg7)
              clear hown7 hg7 hat7 hlt7
              go_wp2
              go_roundw
              case rel => exact ⟨n2 + 1, by omega, hfin.out⟩
              case measure => (simp <;> omega)
            · have hd5 : decide (((n2 : Nat) : Int) ≤ 12) = false := decide_eq_false (by omega)
              go_wp2
              unfold SsP
              go_ret
              exact ⟨L2, _, n2, q5, rfl, hn2, hL2'.out, hLb2'.out, hown5'.out, hq5, hr5'.out, hO5'.out.to_grown⟩
end Go.Proofs.Ytocaonlmlafjmaa

/- What the draws of lists of texts give. No condition but the reader's own bounds. -/
namespace Go.Proofs.Ytocaonlmlafjmaa
open Go.RowKit
set_option linter.unusedVariables false
set_option linter.unusedSimpArgs false
set_option maxRecDepth 100000

def OneSs (M N : Nat) (w : World) (e : Ending) (w' : World) : Prop := ∃ (L : List ByteArray) (v : Value) (n : Nat), e = .returned v ∧ n ≤ N ∧ L.length = n ∧ (∀ x ∈ L, x.size ≤ M) ∧ w'.ownsRow w.heap.size 9 1 v n (cellsS L) ∧ Below w.heap.size w w'
def TwoSs (M1 M N : Nat) (w : World) (e : Ending) (w' : World) : Prop := ∃ (s : ByteArray) (L : List ByteArray) (v : Value) (n : Nat), e = .returned (.tuple #[.string s, v]) ∧ s.size ≤ M1 ∧ n ≤ N ∧ L.length = n ∧ (∀ x ∈ L, x.size ≤ M) ∧ w'.ownsRow w.heap.size 9 1 v n (cellsS L) ∧ Below w.heap.size w w'
theorem drawWordsV (w : World) (A : Option Addr) (n c : Nat) (l : List Int) (hl : List.length l = n) (hc : n ≤ c) (hn63 : n < 4611686018427387904) (h : Rd w 1 A n (cellsB l)) (h5 : ∀ z ∈ l, 0 ≤ z ∧ z ≤ 255) :
    Calls Try.prog 44 #[.slice A n c] w (OneSs 21 13 w) := by
  go_enter Try.func44, Try.ntmps44
  go_wp2_with (fail)
  refine (l20Open_any w A n c l hl hc hn63 h h5).mono ?_
  rintro e w1 ⟨rfl, hr, hb⟩
  have hz1 := hb.size
  clear h h5 hl
  go_wp2_with (fail)
  refine (l20Words_any w.heap.size 0 2 w1 hr (by omega) (by omega)).mono ?_
  rintro e w3 ⟨L, v, k, q, rfl, hk, hL, hLb, hown, hq, hr3, hg3⟩
  have hb3 := hide (Below.only hb hg3 hz1 (Nat.le_refl _))
  have hown' := hide (own_mono hown hz1)
  clear hr hg3 hb hr3 hq hown
  go_wp2
  unfold OneSs
  go_ret
  exact ⟨L, _, k, rfl, hk, hL, hLb, hown'.out, hb3.out⟩


end Go.Proofs.Ytocaonlmlafjmaa
