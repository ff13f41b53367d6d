/- Several of my texts in one: ExN, ExS, MarkS. Their conditions stand at each. -/
import Derived.Test.YtocaonlmlafjmaaKCore
import Derived.Test.YtocaonlmlafjmaaKPlain
import Derived.StillTailTactics
import Derived.Laws.BytesArg
import Derived.Deep.RegionHeld3
/- The exact laws' helpers on lists of numbers: equal lists are equal; a list marked with k, k + 1 .. holds those numbers. Condition: the slices read as the lists. -/
namespace Go.Proofs.Ytocaonlmlafjmaa
open Go.RowKit
set_option linter.unusedVariables false
set_option linter.unusedSimpArgs false

theorem eqIntS_same (A B : Option Addr) (n c d : Nat) (l : List Int) (w : World) (hn : n ≤ maxLen) (hl : l.length = n) (ha : Rd w 1 A n (cellsN l)) (hb : Rd w 1 B n (cellsN l)) :
    Calls Try.prog 55 #[.slice A n c, .slice B n d] w fun e w' => e = .returned (.bool true) ∧ Below w.heap.size w w' := by
  unfold maxLen at hn
  have hl' := hide hl
  clear hl
  go_enter Try.func55, Try.ntmps55
  go_wp2
  go_loopw [5] (fun i wr => ∃ k : Nat, k ≤ n ∧ i = .int .i64 k ∧ Below w.heap.size w wr) (fun i _ => n - (intOf i).toNat)
  case atStart => exact ⟨0, Nat.zero_le _, rfl, Below.refl _ _⟩
  case round =>
    obtain ⟨k, hk, rfl, hw⟩ := hrel
    by_cases hlt : k < n
    · obtain ⟨b, off, x, rfl, hbs, hx, c0⟩ := (ha.below hw).int hl'.out hlt
      obtain ⟨b2, off2, x2, rfl, hbs2, hx2, c1⟩ := (hb.below hw).int hl'.out hlt
      rw [hx] at hx2
      obtain rfl := Option.some.inj hx2
      have hw' := hide hw
      have hlt' : (k : Int) < (n : Int) := by omega
      clear hx hw hx2
      go_wp2
      go_quiet (fail)
      go_wp2
      go_roundw
      case rel => exact ⟨k + 1, by omega, by go_num, below_drewN hw'.out _⟩
      case measure => simp [intOf]; omega
    · go_wp2
      go_ret
      exact ⟨rfl, hw⟩

def nats (k n : Nat) : List Int := (List.range n).map fun i => ((k + i : Nat) : Int)
theorem nats_len (k n : Nat) : (nats k n).length = n := by simp [nats]
theorem nats_at (k n j : Nat) (h : j < n) : (nats k n)[j]? = some (((k + j : Nat) : Int)) := by simp [nats, h]
/-- A list whose first j numbers are k, k + 1 .. -/
def markTo (l : List Int) (k j : Nat) : List Int := nats k j ++ l.drop j
theorem markTo_zero (l : List Int) (k : Nat) : markTo l k 0 = l := by simp [markTo, nats]
theorem markTo_len (l : List Int) (k j n : Nat) (hl : l.length = n) (hj : j ≤ n) : (markTo l k j).length = n := by
  simp [markTo, nats_len]; omega
theorem markTo_at (l : List Int) (k j n : Nat) (hl : l.length = n) (hj : j < n) : (markTo l k j)[j]? = l[j]? := by
  unfold markTo
  rw [List.getElem?_append_right (by rw [nats_len]; omega), nats_len]
  simp
theorem nats_succ (k j : Nat) : nats k (j + 1) = nats k j ++ [((k + j : Nat) : Int)] := by simp [nats, List.range_succ]
theorem markTo_step (l : List Int) (k j n : Nat) (hl : l.length = n) (hj : j < n) : (markTo l k j).set j ((k + j : Nat) : Int) = markTo l k (j + 1) := by
  unfold markTo
  rw [List.set_append, if_neg (by rw [nats_len]; omega), nats_len, nats_succ]
  have e : l.drop j = l[j]'(by omega) :: l.drop (j + 1) := List.drop_eq_getElem_cons (by omega)
  rw [e, Nat.sub_self, List.set_cons_zero, List.append_assoc]
  rfl
theorem markTo_full (l : List Int) (k j n : Nat) (hl : l.length = n) (hj : ¬ j < n) (hle : j ≤ n) : markTo l k j = nats k n := by
  have : j = n := by omega
  subst this
  unfold markTo
  rw [List.drop_of_length_le (by omega), List.append_nil]

def MarkPost (base : Nat) (v : Value) (k n : Nat) (w : World) (e : Ending) (w' : World) : Prop := e = .returned (.int .i64 ((k + n : Nat) : Int)) ∧ w'.ownsRow base 3 1 v n (cellsN (nats k n)) ∧ w.grownBy w' v.ownBlock
theorem own_intAt {w : World} {base g n c : Nat} {t : TypeId} {L : List Int} {j : Nat} {x : Int} (h : w.ownsRow base t 1 (.slice (some ⟨g, 0, none⟩) n c) n (cellsN L)) (hL : L.length = n) (hx : L[j]? = some x) : w.cell? ⟨g, j, none⟩ = some (.int .i64 x) ∧ w.frozen? ⟨g, j, none⟩ = false := by
  have hj := (List.getElem?_eq_some_iff.1 hx).1
  refine ⟨?_, h.frozenAt j⟩
  rw [h.cellAt j (by omega)]
  simp [cellsN, hx]
theorem own_setN {w : World} {base g n c : Nat} {t : TypeId} {L : List Int} {j : Nat} (y : Int) (h : w.ownsRow base t 1 (.slice (some ⟨g, 0, none⟩) n c) n (cellsN L)) : (w.setCell ⟨g, j, none⟩ (.int .i64 y)).ownsRow base t 1 (.slice (some ⟨g, 0, none⟩) n c) n (cellsN (L.set j y)) := by
  have := (h.stored j (.int .i64 y)).1
  rwa [show (cellsN L).set j (.int .i64 y) = cellsN (L.set j y) from by simp [cellsN, List.map_set]] at this
theorem markIntS_own (base g n c k : Nat) (l : List Int) (w : World) (hn : n ≤ 100000000) (hk : k ≤ 100000000) (hl : l.length = n) (h : w.ownsRow base 3 1 (.slice (some ⟨g, 0, none⟩) n c) n (cellsN l)) :
    Calls Try.prog 56 #[.slice (some ⟨g, 0, none⟩) n c, .int .i64 k] w (MarkPost base (.slice (some ⟨g, 0, none⟩) n c) k n w) := by
  have hl' := hide hl
  have h' := hide h
  clear hl h
  go_enter Try.func56, Try.ntmps56
  go_wp2
  go_loopw [1, 5] (fun q i wr => ∃ j : Nat, j ≤ n ∧ i = .int .i64 j ∧ q = .int .i64 ((k + j : Nat) : Int) ∧ wr.ownsRow base 3 1 (.slice (some ⟨g, 0, none⟩) n c) n (cellsN (markTo l k j)) ∧ w.grownBy wr (some g)) (fun _ i _ => n - (intOf i).toNat)
  case atStart => exact ⟨0, Nat.zero_le _, rfl, rfl, by rw [markTo_zero]; exact h'.out, only_refl _ _⟩
  case round =>
    obtain ⟨j, hj, rfl, rfl, hb, hg⟩ := hrel
    have hb' := hide hb
    have hg' := hide hg
    clear hg
    by_cases hlt : j < n
    · have hat : (markTo l k j)[j]? = some (l[j]'(by have := hl'.out; omega)) := by
        rw [markTo_at l k j n hl'.out hlt]
        exact List.getElem?_eq_getElem _
      obtain ⟨c0, z0⟩ := own_intAt hb (markTo_len l k j n hl'.out hj) hat
      have hst := hide (markTo_step l k j n hl'.out hlt)
      have hsz := size_of_cell c0
      clear hat hb
      go_wp2
      go_roundw
      case rel => exact ⟨j + 1, by omega, by go_num, by go_num, by rw [← hst.out]; have := own_setN (j := j) ((k + j : Nat) : Int) hb'.out; simpa using this, by have := only_setCell (p := ⟨g, j, none⟩) hg'.out (.inl rfl) (.int .i64 ((k + j : Nat) : Int)); simpa using this⟩
      case measure => simp [intOf]; omega
    · have hf := markTo_full l k j n hl'.out hlt hj
      obtain rfl : j = n := by omega
      rw [hf] at hb'
      clear hf hb
      go_wp2
      unfold MarkPost
      go_ret
      exact ⟨rfl, hb'.out, hg'.out⟩
theorem markIntS_none (A : Option Addr) (c k : Nat) (w : World) (hk : k ≤ 100000000) :
    Calls Try.prog 56 #[.slice A 0 c, .int .i64 k] w fun e w' => e = .returned (.int .i64 (k : Int)) ∧ w = w' := by
  go_enter Try.func56, Try.ntmps56
  go_wp2
  refine wp_loop_rounds 1 ?_
  rw [rounds_succ]
  go_wp2
  go_ret
  exact ⟨rfl, rfl⟩
theorem markIntS_any (base n k : Nat) (v : Value) (l : List Int) (w : World) (hn : n ≤ 100000000) (hk : k ≤ 100000000) (hl : l.length = n) (h : w.ownsRow base 3 1 v n (cellsN l)) :
    Calls Try.prog 56 #[v, .int .i64 k] w (MarkPost base v k n w) := by
  have h2 := h.2
  rcases h2 with ⟨rfl, rfl⟩ | ⟨g, cap, cur, rfl, _⟩
  · refine (markIntS_none none 0 k w hk).mono ?_
    rintro e w' ⟨rfl, rfl⟩
    exact ⟨rfl, World.ownsRow_nil _ _ _ _, only_refl _ _⟩
  · exact markIntS_own base g n cap k l w hn hk hl h
theorem heldIntS_any (A : Option Addr) (n c k : Nat) (w : World) (hn : n ≤ 100000000) (hk : k ≤ 100000000) (h : Rd w 1 A n (cellsN (nats k n))) :
    Calls Try.prog 57 #[.slice A n c, .int .i64 k] w fun e w' => e = .returned (.int .i64 ((k + n : Nat) : Int)) ∧ w = w' := by
  go_enter Try.func57, Try.ntmps57
  go_wp2
  go_loop [1, 5] (fun q i => ∃ j : Nat, j ≤ n ∧ i = .int .i64 j ∧ q = .int .i64 ((k + j : Nat) : Int)) (fun _ i => n - (intOf i).toNat)
  case atStart => exact ⟨0, Nat.zero_le _, rfl, rfl⟩
  case round =>
    obtain ⟨j, hj, rfl, rfl⟩ := hrel
    by_cases hlt : j < n
    · obtain ⟨b, off, x, rfl, hbs, hx, c0⟩ := h.int (nats_len k n) hlt
      rw [nats_at k n j hlt] at hx
      obtain rfl := Option.some.inj hx
      clear hx
      go_wp2
      go_round
      case rel => exact ⟨j + 1, by omega, by go_num, by go_num⟩
      case measure => simp [intOf]; omega
    · obtain rfl : j = n := by omega
      go_wp2
      go_ret
      exact ⟨rfl, rfl⟩
end Go.Proofs.Ytocaonlmlafjmaa

/- The exact laws' helpers on lists of texts: the count, a copy; equal lists are equal; a list marked with k, k + 1 .. holds those texts. Condition: the slices read as the lists. -/
namespace Go.Proofs.Ytocaonlmlafjmaa
open Go.RowKit
set_option linter.unusedVariables false
set_option linter.unusedSimpArgs false
set_option maxRecDepth 100000

def dgt (k : Nat) : ByteArray := strOfNums [48 + (k : Int) % 10]
def decTo (k : Nat) (out : ByteArray) : ByteArray := if k = 0 then out else decTo (k / 10) (dgt k ++ out)
termination_by k
decreasing_by omega
theorem decTo_zero (out : ByteArray) : decTo 0 out = out := by rw [decTo, if_pos rfl]
theorem decTo_succ {k : Nat} (out : ByteArray) (h : 0 < k) : decTo k out = decTo (k / 10) (dgt k ++ out) := by
  conv => lhs; rw [decTo]
  rw [if_neg (by omega)]
def markT (k : Nat) : ByteArray := if k = 0 then ⟨#[109, 48]⟩ else (⟨#[109]⟩ : ByteArray) ++ decTo k ByteArray.empty
def texts (k n : Nat) : List ByteArray := (List.range n).map fun i => markT (k + i)
theorem texts_len (k n : Nat) : (texts k n).length = n := by simp [texts]
theorem texts_at (k n j : Nat) (h : j < n) : (texts k n)[j]? = some (markT (k + j)) := by simp [texts, h]

theorem conv_one (x : Int) (w : World) : (convert 32 9 (.slice (some ⟨w.heap.size, 0, none⟩) 1 1)).run Try.prog (w.alloc (.cells #[.int .u8 x] 5)) = .ok (.string (strOfNums [x])) (w.alloc (.cells #[.int .u8 x] 5)) :=
  run_convert_bytes_arg _ 32 5 Try.underlying32 Try.underlying5 w.heap.size 0 1 1 [x] rfl (fun i hi => by
    obtain rfl : i = 0 := by omega
    simp) 9 Try.underlying9
set_option maxHeartbeats 1000000 in
theorem markText_any (k : Nat) (w : World) (hk : k ≤ 1000000000) :
    Calls Try.prog 90 #[.int .i64 k] w fun e w' => e = .returned (.string (markT k)) ∧ Below w.heap.size w w' := by
  by_cases h0 : k = 0
  · subst h0
    go_enter Try.func90, Try.ntmps90
    go_wp2
    go_ret
    exact ⟨rfl, Below.refl _ _⟩
  · have hd : decide ((k : Int) ≤ 0) = false := by simp; omega
    have hm := hide (show markT k = (⟨#[109]⟩ : ByteArray) ++ decTo k ByteArray.empty from if_neg h0)
    go_enter Try.func90, Try.ntmps90
    go_wp2
    go_loopw [0, 3] (fun q v wr => ∃ (j : Nat) (o : ByteArray), j ≤ k ∧ q = .int .i64 j ∧ v = .string o ∧ o.size + j ≤ 2000000000 ∧ decTo j o = decTo k ByteArray.empty ∧ Below w.heap.size w wr) (fun q _ _ => (intOf q).toNat)
    case atStart => exact ⟨k, ByteArray.empty, Nat.le_refl _, rfl, rfl, by simp; omega, rfl, Below.refl _ _⟩
    case round =>
      obtain ⟨j, o, hj, rfl, rfl, hos, hdec, hb⟩ := hrel
      have hb' := hide hb
      have hdec' := hide hdec
      clear hb hdec
      by_cases hpos : 0 < j
      · have hd2 : decide (0 < (j : Int)) = true := by simp; omega
        have hst := hide (decTo_succ o hpos)
        have hz1 : (strOfNums [48 + (j : Int) % 10]).size + o.size ≤ 9223372036854775807 := by rw [strOfNums_size]; simp; omega
        go_wp2_with fail
        rw [conv_one]
        simp only [Result.andThen]
        rw [Oper.upon_value]
        go_wp2
        go_roundw
        case rel =>
          refine ⟨j / 10, dgt j ++ o, by omega, by go_num, rfl, ?_, by rw [← hst.out]; exact hdec'.out, by have := hb'.out; have := hb'.out.size; (repeat (first | exact Below.refl _ _ | assumption | refine Below.alloc ?_ (by first | assumption | omega | (simp; done) | (simp; omega)) _ | refine Below.setCell ?_ (by first | assumption | omega | (simp; done) | (simp; omega)) _ | refine below_drewN ?_ _ | refine Below.drew ?_))⟩
          have : (dgt j).size = 1 := rfl
          rw [ByteArray.size_append]
          omega
        case measure => simp [intOf]; omega
      · have hd2 : decide (0 < (j : Int)) = false := by simp; omega
        obtain rfl : j = 0 := by omega
        have hz := hdec'.out
        rw [decTo_zero] at hz
        have hz' := hide hz
        clear hz
        go_wp2
        go_ret
        exact ⟨by rw [hm.out, ← hz'.out]; rfl, hb'.out⟩

def SzP (l : List ByteArray) (n : Nat) (m : Int) (w : World) (e : Ending) (w' : World) : Prop := ∃ r : Int, e = .returned (.int .i64 r) ∧ r ≤ m ∧ (0 ≤ r → (n : Int) ≤ m ∧ ∀ s ∈ l, (s.size : Int) ≤ m) ∧ w = w'
theorem szStringS_any (A : Option Addr) (n c : Nat) (l : List ByteArray) (w : World) (m : Int) (hn : n ≤ maxLen) (hl : l.length = n) (hz : ∀ s ∈ l, s.size ≤ maxLen) (h : Rd w 1 A n (cellsS l)) (h0 : 0 ≤ m) (h1 : m ≤ 1048576) :
    Calls Try.prog 39 #[.slice A n c, .int .i64 m] w (SzP l n m w) := by
  have hl' := hide hl
  have hz' := hide hz
  clear hl hz
  unfold maxLen at hn
  by_cases hnm : m - (n : Int) < 0
  · have hd : decide (m - (n : Int) < 0) = true := by simpa using hnm
    go_enter Try.func39, Try.ntmps39
    go_wp2
    unfold SzP
    go_ret
    exact ⟨-1, rfl, by omega, fun h => by omega, rfl⟩
  · have hd : decide (m - (n : Int) < 0) = false := by simpa using hnm
    go_enter Try.func39, Try.ntmps39
    go_wp2
    go_loop [1, 5] (fun q i => ∃ (k : Nat) (r : Int), k ≤ n ∧ i = .int .i64 k ∧ q = .int .i64 r ∧ 0 ≤ r ∧ r ≤ m ∧ ∀ j x, j < k → l[j]? = some x → (x.size : Int) ≤ m) (fun _ i => n - (intOf i).toNat)
    case atStart => exact ⟨0, _, Nat.zero_le _, rfl, rfl, by omega, by omega, fun j x hj => by omega⟩
    case round =>
      obtain ⟨k, r, hk, rfl, rfl, hr0, hr1, hall⟩ := hrel
      have hall' := hide hall
      clear hall
      by_cases hlt : k < n
      · obtain ⟨b, off, x, rfl, hbs, hx, c0⟩ := h.str hl'.out hlt
        have hx' := hide hx
        have hxm := hz'.out x (List.mem_of_getElem? hx)
        unfold maxLen at hxm
        clear hx
        by_cases hb : r - (x.size : Int) < 0
        · have hd2 : decide (r - (x.size : Int) < 0) = true := by simpa using hb
          go_wp2
          unfold SzP
          go_ret
          exact ⟨-1, rfl, by omega, fun h => by omega, rfl⟩
        · have hd2 : decide (r - (x.size : Int) < 0) = false := by simpa using hb
          go_wp2
          go_round
          case rel =>
            refine ⟨k + 1, _, by omega, by go_num, rfl, by omega, by omega, fun j y hj hy => ?_⟩
            by_cases e : j = k
            · subst e
              have := hx'.out
              rw [hy] at this
              obtain rfl := Option.some.inj this
              omega
            · exact hall'.out j y (by omega) hy
          case measure => simp [intOf]; omega
      · go_wp2
        unfold SzP
        go_ret
        refine ⟨r, rfl, hr1, fun _ => ⟨by omega, fun s hs => ?_⟩, rfl⟩
        obtain ⟨j, hj, rfl⟩ := List.mem_iff_getElem.1 hs
        exact hall'.out j _ (by have := hl'.out; omega) (List.getElem?_eq_getElem hj)

theorem eqStringS_same (A B : Option Addr) (n c d : Nat) (l : List ByteArray) (w : World) (hn : n ≤ maxLen) (hl : l.length = n) (ha : Rd w 1 A n (cellsS l)) (hb : Rd w 1 B n (cellsS l)) :
    Calls Try.prog 43 #[.slice A n c, .slice B n d] w fun e w' => e = .returned (.bool true) ∧ Below w.heap.size w w' := by
  unfold maxLen at hn
  have hl' := hide hl
  clear hl
  go_enter Try.func43, Try.ntmps43
  go_wp2
  go_loopw [5] (fun i wr => ∃ k : Nat, k ≤ n ∧ i = .int .i64 k ∧ Below w.heap.size w wr) (fun i _ => n - (intOf i).toNat)
  case atStart => exact ⟨0, Nat.zero_le _, rfl, Below.refl _ _⟩
  case round =>
    obtain ⟨k, hk, rfl, hw⟩ := hrel
    by_cases hlt : k < n
    · obtain ⟨b, off, x, rfl, hbs, hx, c0⟩ := (ha.below hw).str hl'.out hlt
      obtain ⟨b2, off2, x2, rfl, hbs2, hx2, c1⟩ := (hb.below hw).str hl'.out hlt
      rw [hx] at hx2
      obtain rfl := Option.some.inj hx2
      have hw' := hide hw
      have hlt' : (k : Int) < (n : Int) := by omega
      clear hx hw hx2
      go_wp2
      go_quiet (fail)
      go_wp2
      go_roundw
      case rel => exact ⟨k + 1, by omega, by go_num, below_drewN hw'.out _⟩
      case measure => simp [intOf]; omega
    · go_wp2
      go_ret
      exact ⟨rfl, hw⟩

def CopyS (l : List ByteArray) (n : Nat) (w : World) (e : Ending) (w' : World) : Prop := ∃ g, e = .returned (.slice (some ⟨g, 0, none⟩) n n) ∧ w.heap.size ≤ g ∧ Blk w' g 9 (cellsS l).toArray ∧ Below w.heap.size w w'
theorem str_info' : (Try.prog.info? 9).map (fun i => (i.zero, i.size, i.bytes)) = some (some (.string ByteArray.empty), 1, 16) := by kernel_rfl
theorem cellsS_flat (l : List ByteArray) : cellsS l = l.flatMap fun s => [Value.string s] := by
  induction l with
  | nil => rfl
  | cons a l ih => simp [cellsS] at ih ⊢; exact ih
theorem toStringS_any (A : Option Addr) (n c : Nat) (l : List ByteArray) (w : World) (hn : n ≤ 1048576) (hl : l.length = n) (h : Rd w 1 A n (cellsS l)) :
    Calls Try.prog 41 #[.slice A n c] w (CopyS l n w) := by
  have hl' := hide hl
  clear hl
  obtain ⟨i0, hi, hz0, hz1, hz2⟩ := info_parts str_info'
  have hmk : ∀ W : World, (Instr.makeSlice 49 (.int .i64 (n : Int)) (.int .i64 (n : Int))).run Try.prog W = .ok (.slice (some ⟨W.heap.size, 0, none⟩) n n) (W.alloc (.cells (cellsS (List.replicate n ByteArray.empty)).toArray 9)) := by
    intro W
    have := run_make_rowN (P := Try.prog) 49 9 i0 _ Try.underlying49 hi hz0 .i64 .i64 n n (Nat.le_refl _) (by rw [hz2]; omega) (by omega) W
    rw [hz1] at this
    rw [this]
    congr 2
    congr 1
    rw [cellsS_flat]
    exact made_flat (fun s => [Value.string s]) 1 (by omega) (fun _ => rfl) ByteArray.empty n
  clear hi hz0 hz1 hz2
  go_enter Try.func41, Try.ntmps41
  go_wp2
  go_loopw [4] (fun i wr => ∃ k : Nat, k ≤ n ∧ i = .int .i64 k ∧ Blk wr w.heap.size 9 (cellsS (fillTo ByteArray.empty l n k)).toArray ∧ Below w.heap.size w wr) (fun i _ => n - (intOf i).toNat)
  case atStart => exact ⟨0, Nat.zero_le _, rfl, by rw [fill_zero]; exact Blk.new _ _ _, by (repeat (first | exact Below.refl _ _ | assumption | refine Below.alloc ?_ (by first | assumption | omega | (simp; done) | (simp; omega)) _ | refine Below.setCell ?_ (by first | assumption | omega | (simp; done) | (simp; omega)) _ | refine below_drewN ?_ _ | refine Below.drew ?_))⟩
  case round =>
    obtain ⟨k, hk, rfl, hb, hw⟩ := hrel
    have hw' := hide hw
    have hb' := hide hb
    clear hmk
    by_cases hlt : k < n
    · obtain ⟨b, off, x, rfl, hbs, hx, c0⟩ := (h.below hw).str hl'.out hlt
      have hst := hide (fill_step (ByteArray.empty) l n k x hl'.out hx)
      have hat := hide (fill_at (ByteArray.empty) l n k hl'.out hlt)
      obtain ⟨d0, z0⟩ := hb.strAt hat.out
      have hs := hb.lt
      clear hx hw hb
      go_wp2
      go_roundw
      case rel =>
        refine ⟨k + 1, by omega, by go_num, ?_, ?_⟩
        · rw [← hst.out]
          exact Blk.setS x hb'.out
        · have := hw'.out
          (repeat (first | exact Below.refl _ _ | assumption | refine Below.alloc ?_ (by first | assumption | omega | (simp; done) | (simp; omega)) _ | refine Below.setCell ?_ (by first | assumption | omega | (simp; done) | (simp; omega)) _ | refine below_drewN ?_ _ | refine Below.drew ?_))
      case measure => simp [intOf]; omega
    · have hf := fill_full (ByteArray.empty) l n k hl'.out hlt
      rw [hf] at hb'
      clear hf hb hw
      go_wp2
      unfold CopyS
      go_ret
      exact ⟨_, rfl, Nat.le_refl _, hb'.out, hw'.out⟩
end Go.Proofs.Ytocaonlmlafjmaa

/- The exact laws' marks on lists of texts. Condition: the slice owns its row. -/
namespace Go.Proofs.Ytocaonlmlafjmaa
open Go.RowKit
set_option linter.unusedVariables false
set_option linter.unusedSimpArgs false

def markToS (l : List ByteArray) (k j : Nat) : List ByteArray := texts k j ++ l.drop j
theorem markToS_zero (l : List ByteArray) (k : Nat) : markToS l k 0 = l := by simp [markToS, texts]
theorem markToS_len (l : List ByteArray) (k j n : Nat) (hl : l.length = n) (hj : j ≤ n) : (markToS l k j).length = n := by
  simp [markToS, texts_len]; omega
theorem markToS_at (l : List ByteArray) (k j n : Nat) (hl : l.length = n) (hj : j < n) : (markToS l k j)[j]? = l[j]? := by
  unfold markToS
  rw [List.getElem?_append_right (by rw [texts_len]; omega), texts_len]
  simp
theorem texts_succ (k j : Nat) : texts k (j + 1) = texts k j ++ [markT (k + j)] := by simp [texts, List.range_succ]
theorem markToS_step (l : List ByteArray) (k j n : Nat) (hl : l.length = n) (hj : j < n) : (markToS l k j).set j (markT (k + j)) = markToS l k (j + 1) := by
  unfold markToS
  rw [List.set_append, if_neg (by rw [texts_len]; omega), texts_len, texts_succ]
  have e : l.drop j = l[j]'(by omega) :: l.drop (j + 1) := List.drop_eq_getElem_cons (by omega)
  rw [e, Nat.sub_self, List.set_cons_zero, List.append_assoc]
  rfl
theorem markToS_full (l : List ByteArray) (k j n : Nat) (hl : l.length = n) (hj : ¬ j < n) (hle : j ≤ n) : markToS l k j = texts k n := by
  have : j = n := by omega
  subst this
  unfold markToS
  rw [List.drop_of_length_le (by omega), List.append_nil]

def MarkSP (base : Nat) (v : Value) (k n : Nat) (w : World) (e : Ending) (w' : World) : Prop := e = .returned (.int .i64 ((k + n : Nat) : Int)) ∧ w'.ownsRow base 9 1 v n (cellsS (texts k n)) ∧ w.grownBy w' v.ownBlock
theorem own_strAt {w : World} {base g n c : Nat} {t : TypeId} {L : List ByteArray} {j : Nat} {x : ByteArray} (h : w.ownsRow base t 1 (.slice (some ⟨g, 0, none⟩) n c) n (cellsS L)) (hL : L.length = n) (hx : L[j]? = some x) : w.cell? ⟨g, j, none⟩ = some (.string x) ∧ w.frozen? ⟨g, j, none⟩ = false := by
  have hj := (List.getElem?_eq_some_iff.1 hx).1
  refine ⟨?_, h.frozenAt j⟩
  rw [h.cellAt j (by omega)]
  simp [cellsS, hx]
theorem own_setS {w : World} {base g n c : Nat} {t : TypeId} {L : List ByteArray} {j : Nat} (y : ByteArray) (h : w.ownsRow base t 1 (.slice (some ⟨g, 0, none⟩) n c) n (cellsS L)) : (w.setCell ⟨g, j, none⟩ (.string y)).ownsRow base t 1 (.slice (some ⟨g, 0, none⟩) n c) n (cellsS (L.set j y)) := by
  have := (h.stored j (.string y)).1
  rwa [show (cellsS L).set j (.string y) = cellsS (L.set j y) from by simp [cellsS, List.map_set]] at this
theorem markStringS_some (base g n c k : Nat) (l : List ByteArray) (w : World) (hn : n ≤ 100000000) (hk : k ≤ 100000000) (hl : l.length = n) (h : w.ownsRow base 9 1 (.slice (some ⟨g, 0, none⟩) n c) n (cellsS l)) :
    Calls Try.prog 47 #[.slice (some ⟨g, 0, none⟩) n c, .int .i64 k] w (MarkSP base (.slice (some ⟨g, 0, none⟩) n c) k n w) := by
  have hl' := hide hl
  have h' := hide h
  clear hl h
  go_enter Try.func47, Try.ntmps47
  go_wp2
  go_loopw [1, 5] (fun q i wr => ∃ j : Nat, j ≤ n ∧ i = .int .i64 j ∧ q = .int .i64 ((k + j : Nat) : Int) ∧ wr.ownsRow base 9 1 (.slice (some ⟨g, 0, none⟩) n c) n (cellsS (markToS l k j)) ∧ w.grownBy wr (some g)) (fun _ i _ => n - (intOf i).toNat)
  case atStart => exact ⟨0, Nat.zero_le _, rfl, rfl, by rw [markToS_zero]; exact h'.out, only_refl _ _⟩
  case round =>
    obtain ⟨j, hj, rfl, rfl, hb, hg⟩ := hrel
    have hb' := hide hb
    have hg' := hide hg
    clear hg
    by_cases hlt : j < n
    · have hat : (markToS l k j)[j]? = some (l[j]'(by have := hl'.out; omega)) := by
        rw [markToS_at l k j n hl'.out hlt]
        exact List.getElem?_eq_getElem _
      have hat' := hide hat
      have hst := hide (markToS_step l k j n hl'.out hlt)
      clear hat hb
      go_wp2_with fail
      refine (markText_any (k + j) _ (by omega)).mono ?_
      rintro e w1 ⟨rfl, hb1⟩
      have ho1 := own_below hb'.out hb1
      obtain ⟨c0, z0⟩ := own_strAt ho1 (markToS_len l k j n hl'.out hj) hat'.out
      have hsz := size_of_cell c0
      have ho1' := hide ho1
      have hg1 := hide (only_below hg'.out hb1)
      clear ho1 hb1
      go_wp2
      go_roundw
      case rel => exact ⟨j + 1, by omega, by go_num, by go_num, by rw [← hst.out]; have := own_setS (j := j) (markT (k + j)) ho1'.out; simpa using this, by have := only_setCell (p := ⟨g, j, none⟩) hg1.out (.inl rfl) (.string (markT (k + j))); simpa using this⟩
      case measure => simp [intOf]; omega
    · have hf := markToS_full l k j n hl'.out hlt hj
      obtain rfl : j = n := by omega
      rw [hf] at hb'
      clear hf hb
      go_wp2
      unfold MarkSP
      go_ret
      exact ⟨rfl, hb'.out, hg'.out⟩
theorem markStringS_none (A : Option Addr) (c k : Nat) (w : World) (hk : k ≤ 100000000) :
    Calls Try.prog 47 #[.slice A 0 c, .int .i64 k] w fun e w' => e = .returned (.int .i64 (k : Int)) ∧ w = w' := by
  go_enter Try.func47, Try.ntmps47
  go_wp2
  refine wp_loop_rounds 1 ?_
  rw [rounds_succ]
  go_wp2
  go_ret
  exact ⟨rfl, rfl⟩
theorem markStringS_any (base n k : Nat) (v : Value) (l : List ByteArray) (w : World) (hn : n ≤ 100000000) (hk : k ≤ 100000000) (hl : l.length = n) (h : w.ownsRow base 9 1 v n (cellsS l)) :
    Calls Try.prog 47 #[v, .int .i64 k] w (MarkSP base v k n w) := by
  have h2 := h.2
  rcases h2 with ⟨rfl, rfl⟩ | ⟨g, cap, cur, rfl, _⟩
  · refine (markStringS_none none 0 k w hk).mono ?_
    rintro e w' ⟨rfl, rfl⟩
    exact ⟨rfl, World.ownsRow_nil _ _ _ _, only_refl _ _⟩
  · exact markStringS_some base g n cap k l w hn hk hl h
theorem own_whole {w : World} {g n size : Nat} {e : TypeId} {xs : List Value} (h : Blk w g e xs.toArray) (hl : xs.length = n * size) (hn : n ≤ maxLen) : w.ownsRow g e size (.slice (some ⟨g, 0, none⟩) n n) n xs :=
  ⟨hl, .inr ⟨g, n, xs.toArray, rfl, Nat.le_refl _, h, Nat.le_refl _, hn, by simp [hl], by simp [← hl]⟩⟩
/-- A copy that is known whole, marked. -/
theorem markStringS_own (g n m k : Nat) (l : List ByteArray) (w : World) (hm : m = n) (hn : n ≤ 100000000) (hk : k ≤ 100000000) (hl : l.length = n) (h : Blk w g 9 (cellsS l).toArray) :
    Calls Try.prog 47 #[.slice (some ⟨g, 0, none⟩) n m, .int .i64 k] w fun e w' => e = .returned (.int .i64 ((k + n : Nat) : Int)) ∧ w.grownBy w' (some g) := by
  subst hm
  refine (markStringS_some g g m m k l w hn hk hl (own_whole h (by rw [len_cellsS, hl]) (by unfold maxLen; omega))).mono ?_
  rintro e w' ⟨rfl, _, hg⟩
  exact ⟨rfl, hg⟩
end Go.Proofs.Ytocaonlmlafjmaa
