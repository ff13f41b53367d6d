/- The exact laws' helpers on lists of texts: the count, a copy; equal lists are equal; a list marked with k, k + 1 .. holds those texts. Condition: the slices read as the lists. -/
import Derived.Test.YtfhhfibjjpiccaaMade
import Derived.Test.YtfhhfibjjpiccaaExN
import Derived.Test.YtfhhfibjjpiccaaStr
import Derived.StillTailTactics
import Derived.Laws.BytesArg
namespace Go.Proofs.Ytfhhfibjjpiccaa
open Go.RowKit
set_option linter.unusedVariables false
set_option linter.unusedSimpArgs false
set_option maxRecDepth 100000

def dgt (k : Nat) : ByteArray := strOfNums [48 + (k : Int) % 10]
def decTo (k : Nat) (out : ByteArray) : ByteArray := if k = 0 then out else decTo (k / 10) (dgt k ++ out)
termination_by k
decreasing_by omega
theorem decTo_zero (out : ByteArray) : decTo 0 out = out := by rw [decTo, if_pos rfl]
theorem decTo_succ {k : Nat} (out : ByteArray) (h : 0 < k) : decTo k out = decTo (k / 10) (dgt k ++ out) := by
  conv => lhs; rw [decTo]
  rw [if_neg (by omega)]
def markT (k : Nat) : ByteArray := if k = 0 then ⟨#[109, 48]⟩ else (⟨#[109]⟩ : ByteArray) ++ decTo k ByteArray.empty
def texts (k n : Nat) : List ByteArray := (List.range n).map fun i => markT (k + i)
theorem texts_len (k n : Nat) : (texts k n).length = n := by simp [texts]
theorem texts_at (k n j : Nat) (h : j < n) : (texts k n)[j]? = some (markT (k + j)) := by simp [texts, h]

theorem conv_one (x : Int) (w : World) : (convert 22 9 (.slice (some ⟨w.heap.size, 0, none⟩) 1 1)).run Try.prog (w.alloc (.cells #[.int .u8 x] 5)) = .ok (.string (strOfNums [x])) (w.alloc (.cells #[.int .u8 x] 5)) :=
  run_convert_bytes_arg _ 22 5 Try.underlying22 Try.underlying5 w.heap.size 0 1 1 [x] rfl (fun i hi => by
    obtain rfl : i = 0 := by omega
    simp) 9 Try.underlying9
set_option maxHeartbeats 1000000 in
theorem markText_any (k : Nat) (w : World) (hk : k ≤ 1000000000) :
    Calls Try.prog 66 #[.int .i64 k] w fun e w' => e = .returned (.string (markT k)) ∧ Below w.heap.size w w' := by
  by_cases h0 : k = 0
  · subst h0
    go_enter Try.func66, Try.ntmps66
    go_wp2
    go_ret
    exact ⟨rfl, Below.refl _ _⟩
  · have hd : decide ((k : Int) ≤ 0) = false := by simp; omega
    have hm := hide (show markT k = (⟨#[109]⟩ : ByteArray) ++ decTo k ByteArray.empty from if_neg h0)
    go_enter Try.func66, Try.ntmps66
    go_wp2
    go_loopw [0, 3] (fun q v wr => ∃ (j : Nat) (o : ByteArray), j ≤ k ∧ q = .int .i64 j ∧ v = .string o ∧ o.size + j ≤ 2000000000 ∧ decTo j o = decTo k ByteArray.empty ∧ Below w.heap.size w wr) (fun q _ _ => (intOf q).toNat)
    case atStart => exact ⟨k, ByteArray.empty, Nat.le_refl _, rfl, rfl, by simp; omega, rfl, Below.refl _ _⟩
    case round =>
      obtain ⟨j, o, hj, rfl, rfl, hos, hdec, hb⟩ := hrel
      have hb' := hide hb
      have hdec' := hide hdec
      clear hb hdec
      by_cases hpos : 0 < j
      · have hd2 : decide (0 < (j : Int)) = true := by simp; omega
        have hst := hide (decTo_succ o hpos)
        have hz1 : (strOfNums [48 + (j : Int) % 10]).size + o.size ≤ 9223372036854775807 := by rw [strOfNums_size]; simp; omega
        go_wp2_with fail
        rw [conv_one]
        simp only [Result.andThen]
        rw [Oper.upon_value]
        go_wp2
        go_roundw
        case rel =>
          refine ⟨j / 10, dgt j ++ o, by omega, by go_num, rfl, ?_, by rw [← hst.out]; exact hdec'.out, by have := hb'.out; have := hb'.out.size; (repeat (first | exact Below.refl _ _ | assumption | refine Below.alloc ?_ (by first | assumption | omega | (simp; done) | (simp; omega)) _ | refine Below.setCell ?_ (by first | assumption | omega | (simp; done) | (simp; omega)) _ | refine below_drewN ?_ _ | refine Below.drew ?_))⟩
          have : (dgt j).size = 1 := rfl
          rw [ByteArray.size_append]
          omega
        case measure => simp [intOf]; omega
      · have hd2 : decide (0 < (j : Int)) = false := by simp; omega
        obtain rfl : j = 0 := by omega
        have hz := hdec'.out
        rw [decTo_zero] at hz
        have hz' := hide hz
        clear hz
        go_wp2
        go_ret
        exact ⟨by rw [hm.out, ← hz'.out]; rfl, hb'.out⟩

def SzP (l : List ByteArray) (n : Nat) (m : Int) (w : World) (e : Ending) (w' : World) : Prop := ∃ r : Int, e = .returned (.int .i64 r) ∧ r ≤ m ∧ (0 ≤ r → (n : Int) ≤ m ∧ ∀ s ∈ l, (s.size : Int) ≤ m) ∧ w = w'
theorem szStringS_any (A : Option Addr) (n c : Nat) (l : List ByteArray) (w : World) (m : Int) (hn : n ≤ maxLen) (hl : l.length = n) (hz : ∀ s ∈ l, s.size ≤ maxLen) (h : Rd w 1 A n (cellsS l)) (h0 : 0 ≤ m) (h1 : m ≤ 1048576) :
    Calls Try.prog 41 #[.slice A n c, .int .i64 m] w (SzP l n m w) := by
  have hl' := hide hl
  have hz' := hide hz
  clear hl hz
  unfold maxLen at hn
  by_cases hnm : m - (n : Int) < 0
  · have hd : decide (m - (n : Int) < 0) = true := by simpa using hnm
    go_enter Try.func41, Try.ntmps41
    go_wp2
    unfold SzP
    go_ret
    exact ⟨-1, rfl, by omega, fun h => by omega, rfl⟩
  · have hd : decide (m - (n : Int) < 0) = false := by simpa using hnm
    go_enter Try.func41, Try.ntmps41
    go_wp2
    go_loop [1, 5] (fun q i => ∃ (k : Nat) (r : Int), k ≤ n ∧ i = .int .i64 k ∧ q = .int .i64 r ∧ 0 ≤ r ∧ r ≤ m ∧ ∀ j x, j < k → l[j]? = some x → (x.size : Int) ≤ m) (fun _ i => n - (intOf i).toNat)
    case atStart => exact ⟨0, _, Nat.zero_le _, rfl, rfl, by omega, by omega, fun j x hj => by omega⟩
    case round =>
      obtain ⟨k, r, hk, rfl, rfl, hr0, hr1, hall⟩ := hrel
      have hall' := hide hall
      clear hall
      by_cases hlt : k < n
      · obtain ⟨b, off, x, rfl, hbs, hx, c0⟩ := h.str hl'.out hlt
        have hx' := hide hx
        have hxm := hz'.out x (List.mem_of_getElem? hx)
        unfold maxLen at hxm
        clear hx
        by_cases hb : r - (x.size : Int) < 0
        · have hd2 : decide (r - (x.size : Int) < 0) = true := by simpa using hb
          go_wp2
          unfold SzP
          go_ret
          exact ⟨-1, rfl, by omega, fun h => by omega, rfl⟩
        · have hd2 : decide (r - (x.size : Int) < 0) = false := by simpa using hb
          go_wp2
          go_round
          case rel =>
            refine ⟨k + 1, _, by omega, by go_num, rfl, by omega, by omega, fun j y hj hy => ?_⟩
            by_cases e : j = k
            · subst e
              have := hx'.out
              rw [hy] at this
              obtain rfl := Option.some.inj this
              omega
            · exact hall'.out j y (by omega) hy
          case measure => simp [intOf]; omega
      · go_wp2
        unfold SzP
        go_ret
        refine ⟨r, rfl, hr1, fun _ => ⟨by omega, fun s hs => ?_⟩, rfl⟩
        obtain ⟨j, hj, rfl⟩ := List.mem_iff_getElem.1 hs
        exact hall'.out j _ (by have := hl'.out; omega) (List.getElem?_eq_getElem hj)

theorem eqStringS_same (A B : Option Addr) (n c d : Nat) (l : List ByteArray) (w : World) (hn : n ≤ maxLen) (hl : l.length = n) (ha : Rd w 1 A n (cellsS l)) (hb : Rd w 1 B n (cellsS l)) :
    Calls Try.prog 45 #[.slice A n c, .slice B n d] w fun e w' => e = .returned (.bool true) ∧ Below w.heap.size w w' := by
  unfold maxLen at hn
  have hl' := hide hl
  clear hl
  go_enter Try.func45, Try.ntmps45
  go_wp2
  go_loopw [5] (fun i wr => ∃ k : Nat, k ≤ n ∧ i = .int .i64 k ∧ Below w.heap.size w wr) (fun i _ => n - (intOf i).toNat)
  case atStart => exact ⟨0, Nat.zero_le _, rfl, Below.refl _ _⟩
  case round =>
    obtain ⟨k, hk, rfl, hw⟩ := hrel
    by_cases hlt : k < n
    · obtain ⟨b, off, x, rfl, hbs, hx, c0⟩ := (ha.below hw).str hl'.out hlt
      obtain ⟨b2, off2, x2, rfl, hbs2, hx2, c1⟩ := (hb.below hw).str hl'.out hlt
      rw [hx] at hx2
      obtain rfl := Option.some.inj hx2
      have hw' := hide hw
      have hlt' : (k : Int) < (n : Int) := by omega
      clear hx hw hx2
      go_wp2
      go_quiet (fail)
      go_wp2
      go_roundw
      case rel => exact ⟨k + 1, by omega, by go_num, below_drewN hw'.out _⟩
      case measure => simp [intOf]; omega
    · go_wp2
      go_ret
      exact ⟨rfl, hw⟩

def CopyS (l : List ByteArray) (n : Nat) (w : World) (e : Ending) (w' : World) : Prop := ∃ g, e = .returned (.slice (some ⟨g, 0, none⟩) n n) ∧ w.heap.size ≤ g ∧ Blk w' g 9 (cellsS l).toArray ∧ Below w.heap.size w w'
theorem str_info' : (Try.prog.info? 9).map (fun i => (i.zero, i.size, i.bytes)) = some (some (.string ByteArray.empty), 1, 16) := by kernel_rfl
theorem cellsS_flat (l : List ByteArray) : cellsS l = l.flatMap fun s => [Value.string s] := by
  induction l with
  | nil => rfl
  | cons a l ih => simp [cellsS] at ih ⊢; exact ih
theorem toStringS_any (A : Option Addr) (n c : Nat) (l : List ByteArray) (w : World) (hn : n ≤ 1048576) (hl : l.length = n) (h : Rd w 1 A n (cellsS l)) :
    Calls Try.prog 43 #[.slice A n c] w (CopyS l n w) := by
  have hl' := hide hl
  clear hl
  obtain ⟨i0, hi, hz0, hz1, hz2⟩ := info_parts str_info'
  have hmk : ∀ W : World, (Instr.makeSlice 33 (.int .i64 (n : Int)) (.int .i64 (n : Int))).run Try.prog W = .ok (.slice (some ⟨W.heap.size, 0, none⟩) n n) (W.alloc (.cells (cellsS (List.replicate n ByteArray.empty)).toArray 9)) := by
    intro W
    have := run_make_rowN (P := Try.prog) 33 9 i0 _ Try.underlying33 hi hz0 .i64 .i64 n n (Nat.le_refl _) (by rw [hz2]; omega) (by omega) W
    rw [hz1] at this
    rw [this]
    congr 2
    congr 1
    rw [cellsS_flat]
    exact made_flat (fun s => [Value.string s]) 1 (by omega) (fun _ => rfl) ByteArray.empty n
  clear hi hz0 hz1 hz2
  go_enter Try.func43, Try.ntmps43
  go_wp2
  go_loopw [4] (fun i wr => ∃ k : Nat, k ≤ n ∧ i = .int .i64 k ∧ Blk wr w.heap.size 9 (cellsS (fillTo ByteArray.empty l n k)).toArray ∧ Below w.heap.size w wr) (fun i _ => n - (intOf i).toNat)
  case atStart => exact ⟨0, Nat.zero_le _, rfl, by rw [fill_zero]; exact Blk.new _ _ _, by (repeat (first | exact Below.refl _ _ | assumption | refine Below.alloc ?_ (by first | assumption | omega | (simp; done) | (simp; omega)) _ | refine Below.setCell ?_ (by first | assumption | omega | (simp; done) | (simp; omega)) _ | refine below_drewN ?_ _ | refine Below.drew ?_))⟩
  case round =>
    obtain ⟨k, hk, rfl, hb, hw⟩ := hrel
    have hw' := hide hw
    have hb' := hide hb
    clear hmk
    by_cases hlt : k < n
    · obtain ⟨b, off, x, rfl, hbs, hx, c0⟩ := (h.below hw).str hl'.out hlt
      have hst := hide (fill_step (ByteArray.empty) l n k x hl'.out hx)
      have hat := hide (fill_at (ByteArray.empty) l n k hl'.out hlt)
      obtain ⟨d0, z0⟩ := hb.strAt hat.out
      have hs := hb.lt
      clear hx hw hb
      go_wp2
      go_roundw
      case rel =>
        refine ⟨k + 1, by omega, by go_num, ?_, ?_⟩
        · rw [← hst.out]
          exact Blk.setS x hb'.out
        · have := hw'.out
          (repeat (first | exact Below.refl _ _ | assumption | refine Below.alloc ?_ (by first | assumption | omega | (simp; done) | (simp; omega)) _ | refine Below.setCell ?_ (by first | assumption | omega | (simp; done) | (simp; omega)) _ | refine below_drewN ?_ _ | refine Below.drew ?_))
      case measure => simp [intOf]; omega
    · have hf := fill_full (ByteArray.empty) l n k hl'.out hlt
      rw [hf] at hb'
      clear hf hb hw
      go_wp2
      unfold CopyS
      go_ret
      exact ⟨_, rfl, Nat.le_refl _, hb'.out, hw'.out⟩
end Go.Proofs.Ytfhhfibjjpiccaa
