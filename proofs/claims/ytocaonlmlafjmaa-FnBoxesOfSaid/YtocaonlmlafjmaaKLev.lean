/- Several of my texts in one: Levels, LevelsF, Places, Parts. Their conditions stand at each. -/
import Derived.Test.YtocaonlmlafjmaaKCore
import Derived.Test.YtocaonlmlafjmaaKPat
import Derived.StillTailTactics
import Derived.Lib.Bytes
import Derived.Test.YtocaonlmlafjmaaKPlain
import Derived.Test.YtocaonlmlafjmaaKLet
/- The walks through the levels of a word. Condition: the slice reads as the list of patterns. -/
namespace Go.Proofs.Ytocaonlmlafjmaa
open Go.RowKit
set_option linter.unusedVariables false
set_option linter.unusedSimpArgs false
set_option maxRecDepth 100000

theorem hmkN (m : Nat) (hm : m ≤ 1000000) : ∀ W : World, (Instr.makeSlice 60 (.int .i64 ((m : Int) + 1)) (.int .i64 ((m : Int) + 1))).run Try.prog W = .ok (.slice (some ⟨W.heap.size, 0, none⟩) (m + 1) (m + 1)) (W.alloc (.cells (cellsN (List.replicate (m + 1) 0)).toArray 3)) := by
  obtain ⟨i0, hi, hz0, hz1, hz2⟩ := info_parts int_info
  intro W
  have := run_make_rowN (P := Try.prog) 60 3 i0 _ Try.underlying60 hi hz0 .i64 .i64 (m + 1) (m + 1) (Nat.le_refl _) (by rw [hz2]; omega) (by omega) W
  rw [hz1] at this
  refine Eq.trans ?_ (this.trans ?_)
  · simp
  · congr 2
    congr 1
    have e : ∀ l : List Int, cellsN l = l.flatMap fun s => [Value.int .i64 s] := by
      intro l
      induction l with
      | nil => rfl
      | cons a l ih => simp [cellsN] at ih ⊢; exact ih
    rw [e]
    exact made_flat (fun s => [Value.int .i64 s]) 1 (by omega) (fun _ => rfl) 0 (m + 1)
theorem dotted_size (s : ByteArray) : (dotted s).size = s.size + 2 := by
  unfold dotted; rw [ByteArray.size_append, ByteArray.size_append]; show 1 + s.size + 1 = _; omega
theorem Blk.row {w w' : World} {g : Nat} {t : TypeId} {cs : Array Value} {rb : Nat} (h : Blk w g t cs) (hb : w.grownBy w' (some rb)) (hg : g ≠ rb) : Blk w' g t cs := h.grown hb (fun e => by injection e with e; exact hg e)
theorem Rd.row {w w' : World} {size n q : Nat} {A : Option Addr} {xs : List Value} (h : Rd w size A n xs) (hg : w.grownBy w' (some q)) (hq : ∀ b off, A = some ⟨b, off, none⟩ → 0 < n → b ≠ q) : Rd w' size A n xs :=
  ⟨h.1, fun hn => by
    obtain ⟨b, off, e, hb, hc⟩ := h.2 hn
    exact ⟨b, off, e, Nat.lt_of_lt_of_le hb hg.size, fun j u hu => (World.cell?_of_block (hg.block b hb (fun e2 => hq b off e hn (Option.some.inj e2)))).trans (hc j u hu)⟩⟩
theorem own_apartG {w : World} {base n g : Nat} {e : TypeId} {A : Option Addr} {c : Nat} {xs : List Value} (h : w.ownsRow base e 1 (.slice A n c) n xs) (hg : g < base) : ∀ b off, A = some ⟨b, off, none⟩ → 0 < n → b ≠ g := by
  intro b off hA _ hb
  have := (h.lt b (by rw [hA]; rfl)).1
  omega
theorem bump_yes {out : List Int} {p : Nat} {x y : Int} (hy : out[p]? = some y) {q : Int} (hq : q = (p : Int)) : bump out q x = out.set p (max y x) := by
  have hlt := (List.getElem?_eq_some_iff.1 hy).1
  subst hq
  unfold bump
  rw [if_pos ⟨by omega, by omega⟩, Int.toNat_natCast, List.getD_eq_getElem?_getD, hy]
  rfl
theorem bump_no {out : List Int} {q x : Int} (h : q < 0 ∨ (out.length : Int) ≤ q) : bump out q x = out := by
  unfold bump
  rw [if_neg (by omega)]
theorem layAt_yes {d t : ByteArray} {lv out : List Int} {a : Nat} (h : fits d t a = true) : layAt d t lv out (a + 1) = layK lv a (layAt d t lv out a) lv.length := by rw [layAt, if_pos h]
theorem layAt_no {d t : ByteArray} {lv out : List Int} {a : Nat} (h : fits d t a = false) : layAt d t lv out (a + 1) = layAt d t lv out a := by rw [layAt, if_neg (by rw [h]; exact Bool.false_ne_true)]
theorem toList_beq (x y : ByteArray) : (x.toList == y.toList) = (bl x == bl y) := by
  rw [Bool.eq_iff_iff]
  simp only [beq_iff_eq]
  constructor
  · intro h
    rw [Lib.toList_data, Lib.toList_data] at h
    unfold bl; rw [h]
  · intro h; rw [bl_inj h]
theorem replicate_9 (n : Nat) : In9 (List.replicate n 0) := by
  intro x hx
  have := List.eq_of_mem_replicate hx
  omega

set_option maxRecDepth 100000 in
set_option maxHeartbeats 2000000 in
theorem specLevels0 (s : ByteArray) (A : Option Addr) (n c : Nat) (l : List ByteArray) (w : World) (hn : n ≤ maxLen) (hl : l.length = n) (hz : ∀ s ∈ l, s.size ≤ maxLen) (h : Rd w 1 A n (cellsS l)) (hv : wordB s = true) (hp : pats20 l = true) :
    Calls Try.prog 126 #[.string s, .slice A n c] w (RowN (layL (dotted s) (List.replicate (s.size + 1) 0) l) w) := by
  have hs20 : s.size ≤ 20 := (wordB_true hv).2.2
  have hl' := hide hl
  have hz' := hide hz
  have hn20 : n ≤ 20 := by simp only [pats20, Bool.and_eq_true, decide_eq_true_eq] at hp; omega
  have hpb := hide (fun p (hpm : p ∈ l) => (List.all_eq_true.1 (by simp only [pats20, Bool.and_eq_true] at hp; exact hp.1) p hpm : patB p = true))
  have hmk := hmkN s.size (by omega)
  have hd1 : (⟨#[46]⟩ : ByteArray).size = 1 := rfl
  have hz1 : (⟨#[46]⟩ : ByteArray).size + s.size ≤ 9223372036854775807 := by omega
  have hz2 : ((⟨#[46]⟩ : ByteArray) ++ s).size + (⟨#[46]⟩ : ByteArray).size ≤ 9223372036854775807 := by rw [ByteArray.size_append]; omega
  have hww := hide (specWord s w (by unfold maxLen; omega))
  have hpp := hide (specPats A n c l w hn hl hz h)
  have hB0 := hide (Blk.new w 3 (cellsN (List.replicate (s.size + 1) 0)).toArray)
  have hblen := hide (fun k => layL_len (dotted s) (l.take k) (List.replicate (s.size + 1) 0))
  clear hl hz hn hd1
  go_enter Try.func126, Try.ntmps126
  go_wp2_with fail
  refine hww.out.mono ?_
  rintro e w' ⟨rfl, rfl⟩
  rw [hv]
  go_wp2_with fail
  refine hpp.out.mono ?_
  rintro e w' ⟨rfl, rfl⟩
  rw [hp]
  go_wp2
  have hDs := hide (dotted_size s)
  have hD : ((⟨#[46]⟩ : ByteArray) ++ s ++ (⟨#[46]⟩ : ByteArray)) = dotted s := rfl
  try rw [hD]
  clear hD
  generalize dotted s = D at *
  have hDb : D.size ≤ 22 := by have := hDs.out; omega
  clear hmk hz1 hz2
  go_loopw [7] (fun i wr => ∃ k : Nat, k ≤ n ∧ i = .int .i64 k ∧ Blk wr w.heap.size 3 (cellsN (layL D (List.replicate (s.size + 1) 0) (l.take k))).toArray ∧ Below w.heap.size w wr) (fun i _ => n - (intOf i).toNat)
  case atStart => exact ⟨0, Nat.zero_le _, rfl, hB0.out, by (repeat (first | exact Below.refl _ _ | assumption | refine Below.alloc ?_ (by first | assumption | omega | (simp; done) | (simp; omega)) _ | refine Below.setCell ?_ (by first | assumption | omega | (simp; done) | (simp; omega)) _ | refine below_drewN ?_ _ | refine Below.drew ?_))⟩
  case round =>
    obtain ⟨k, hk, rfl, hblk, hb⟩ := hrel
    have hblk' := hide hblk
    have hb' := hide hb
    have hbs := hb.size
    have hgl := hblk.lt
    by_cases hlt : k < n
    · obtain ⟨b, off, p, rfl, hbk, hx, c0⟩ := (h.below hb).str hl'.out hlt
      have hpm := hide (List.mem_of_getElem? hx)
      have hpb2 := hide (hpb.out p hpm.out)
      have hps : p.size ≤ 12 := (patB_true hpb2.out).2.2
      have hsn := hide (layL_snoc D (List.replicate (s.size + 1) 0) l k p hx)
      have hOl := hide (show (layL D (List.replicate (s.size + 1) 0) (l.take k)).length = s.size + 1 by rw [hblen.out k, List.length_replicate])
      have hO9 := hide (layL_9 (d := D) (l.take k) (replicate_9 (s.size + 1)))
      clear hx hb hblk
      generalize hOUT : layL D (List.replicate (s.size + 1) 0) (l.take k) = OUT at *
      clear hOUT
      go_wp2_with fail
      refine (specPatLetters p _ (by unfold maxLen; omega)).mono ?_
      rintro e w' ⟨rfl, rfl⟩
      go_wp2_with fail
      refine (specPatLevels p _ (by unfold maxLen; omega)).mono ?_
      rintro e w1 ⟨v, rfl, hrow, hb1⟩
      obtain ⟨A2, c2, rfl, _, hrd2⟩ := own_form hrow
      have hne2 := hide (own_apartG hrow hgl)
      have hm13 := patLv_bd p
      have hlv9 := hide (patLv_9 p)
      have hts := patS_bd p
      have hP := hide (show layP D p OUT = layAt D (patS p) (patLv p) OUT (D.size + 1 - (patS p).size) from rfl)
      have hblk1 := hide (hblk'.out.below' hb1)
      have hbe1 := hide (hb'.out.trans (hb1.mono hbs))
      have hrd2' := hide hrd2
      have hs1 := hbe1.out.size
      clear hrow hb1 hrd2
      generalize patS p = T at *
      generalize patLv p = lv at *
      obtain ⟨m, hm⟩ : ∃ m, lv.length = m := ⟨_, rfl⟩
      rw [hm] at hm13 hrd2' hne2
      have hm' := hide hm
      rw [hm]
      clear hm c0
      go_wp2
      go_loopw [10] (fun i wq => ∃ a : Nat, a ≤ D.size + 1 - T.size ∧ i = .int .i64 a ∧ Blk wq w.heap.size 3 (cellsN (layAt D T lv OUT a)).toArray ∧ w1.grownBy wq (some w.heap.size)) (fun i _ => D.size + 1 - (intOf i).toNat)
      case atStart => exact ⟨0, Nat.zero_le _, rfl, hblk1.out, only_refl _ _⟩
      case round =>
        obtain ⟨a, ha, rfl, hblk2, hg2⟩ := hrel
        have hblk2' := hide hblk2
        have hg2' := hide hg2
        have hO2l := hide ((layAt_len D T lv OUT a).trans hOl.out)
        have hO29 := hide (layAt_9 (d := D) (t := T) hlv9.out hO9.out a)
        clear hblk2 hg2
        by_cases hle : a + T.size ≤ D.size
        · have hi1 : (a : Int) + (T.size : Int) ≤ (D.size : Int) := by omega
          have hi2 : (0 : Int) ≤ (a : Int) + (T.size : Int) := by omega
          have hi3 : ((a : Int) + (T.size : Int)).toNat = a + T.size := by omega
          have hi4 : (a : Int) ≤ (a : Int) + (T.size : Int) := by omega
          cases hf : fits D T a with
          | false =>
            have hst := hide (layAt_no (lv := lv) (out := OUT) hf)
            have hn1 : (bl (D.extract a (a + T.size)) == bl T) = false := hf
            have hn2 : ((D.extract a (a + T.size)).toList == T.toList) = false := (toList_beq _ _).trans hn1
            clear hf hn1
            go_wp2
            go_roundw
            case rel => exact ⟨a + 1, by omega, by go_num, by rw [hst.out]; exact hblk2'.out, hg2'.out⟩
            case measure => simp [intOf]; omega
          | true =>
            have hst := hide (layAt_yes (lv := lv) (out := OUT) hf)
            have hn1 : (bl (D.extract a (a + T.size)) == bl T) = true := hf
            have hn2 : ((D.extract a (a + T.size)).toList == T.toList) = true := (toList_beq _ _).trans hn1
            clear hf hn1
            generalize layAt D T lv OUT a = OUT2 at *
            go_wp2
            go_loopw [11] (fun i wz => ∃ j : Nat, j ≤ m ∧ i = .int .i64 j ∧ Blk wz w.heap.size 3 (cellsN (layK lv a OUT2 j)).toArray ∧ w1.grownBy wz (some w.heap.size)) (fun i _ => m - (intOf i).toNat)
            case atStart => exact ⟨0, Nat.zero_le _, rfl, hblk2'.out, hg2'.out⟩
            case round =>
              obtain ⟨j, hj, rfl, hblk3, hg3⟩ := hrel
              have hblk3' := hide hblk3
              have hg3' := hide hg3
              have hO3l := hide ((layK_len lv a OUT2 j).trans hO2l.out)
              have hO39 := hide (layK_9 (a := a) hlv9.out hO29.out j)
              by_cases hjm : j < m
              · obtain ⟨b3, off3, x, rfl, hb3, hx3, c3⟩ := (hrd2'.out.row hg3 hne2.out).int hm'.out hjm
                have hx3' := hide hx3
                have hx9 := hlv9.out x (List.mem_of_getElem? hx3)
                have hks := hide (show layK lv a OUT2 (j + 1) = bump (layK lv a OUT2 j) ((a : Int) + j - 1) x by rw [layK, gD hx3])
                clear hx3 hblk3 hg3
                cases hin : inB ((a : Int) + (j : Int) - 1) 0 (s.size : Int) with
                | false =>
                  have hno := hide (show layK lv a OUT2 (j + 1) = layK lv a OUT2 j by rw [hks.out]; exact bump_no (by have := inB_false hin; have := hO3l.out; omega))
                  go_wp2_with (go_at_call 70; refine (l1In_any _ _ _ _).mono ?_; rintro e w' ⟨rfl, rfl⟩)
                  go_roundw
                  case rel => exact ⟨j + 1, by omega, by go_num, by rw [hno.out]; exact hblk3'.out, hg3'.out⟩
                  case measure => simp [intOf]; omega
                | true =>
                  have hpl := inB_true hin
                  obtain ⟨q, hq⟩ : ∃ q : Nat, (a : Int) + (j : Int) - 1 = (q : Int) := ⟨((a : Int) + (j : Int) - 1).toNat, by omega⟩
                  have hqs : q ≤ s.size := by omega
                  obtain ⟨y, hy⟩ : ∃ y, (layK lv a OUT2 j)[q]? = some y := ⟨_, List.getElem?_eq_getElem (by have := hO3l.out; omega)⟩
                  have hy9 := hO39.out y (List.mem_of_getElem? hy)
                  obtain ⟨d0, z0⟩ := hblk3'.out.intAt hy
                  have hyes := hide (show layK lv a OUT2 (j + 1) = (layK lv a OUT2 j).set q (max y x) by rw [hks.out]; exact bump_yes hy hq)
                  have hgl3 := hblk3'.out.lt
                  have hmx := hide (show max y x = (if y < x then x else y) by rw [Int.max_def]; split <;> split <;> omega)
                  have q1 : (0 : Int) ≤ (a : Int) + (j : Int) - 1 := by omega
                  have q2 : (1 : Int) ≤ (a : Int) + (j : Int) := by omega
                  have q3 : ((a : Int) + (j : Int) - 1).toNat = q := by omega
                  have q4 : (a : Int) + (j : Int) - 1 < (s.size : Int) + 1 := by omega
                  clear hq hy
                  go_wp2_with (go_at_call 70; refine (l1In_any _ _ _ _).mono ?_; rintro e w' ⟨rfl, rfl⟩)
                  go_still_tail 12, (by kernel_rfl)
                  go_wp2
                  go_roundw
                  case rel => exact ⟨j + 1, by omega, by go_num, by rw [hyes.out, hmx.out]; exact Blk.drew (Blk.setN (k := q) (if y < x then x else y) hblk3'.out), only_drew (only_setCell hg3'.out (.inl rfl) _)⟩
                  case measure => simp [intOf]; omega
              · obtain rfl : j = m := by omega
                clear hblk3 hg3
                go_wp2
                go_roundw
                case rel => exact ⟨a + 1, by omega, by go_num, by rw [hst.out, hm'.out]; exact hblk3'.out, hg3'.out⟩
                case measure => simp [intOf]; omega
        · have hae : a = D.size + 1 - T.size := by omega
          have hd9 : decide ((a : Int) + (T.size : Int) ≤ (D.size : Int)) = false := decide_eq_false (by omega)
          have hfin := hide (show layAt D T lv OUT a = layP D p OUT by rw [hP.out, hae])
          clear hae
          go_wp2
          go_roundw
          case rel => exact ⟨k + 1, by omega, by go_num, by rw [hsn.out, ← hfin.out]; exact hblk2'.out, Below.only hbe1.out hg2'.out hs1 (Nat.le_refl _)⟩
          case measure => simp [intOf]; omega
    · obtain rfl : n = k := by omega
      have hLL := hide (layL_len D l (List.replicate (s.size + 1) 0))
      have htk : l.take n = l := List.take_of_length_le (by have := hl'.out; omega)
      rw [htk] at hblk'
      clear hblk hb htk
      go_wp2
      unfold RowN
      go_ret
      have hlen2 := hLL.out
      rw [List.length_replicate] at hlen2
      rw [hlen2]
      exact ⟨_, rfl, own_whole1 hblk'.out (Nat.le_refl _) (by rw [len_cellsN, hlen2]) (by unfold maxLen; omega), hb'.out⟩
set_option maxRecDepth 100000 in
set_option maxHeartbeats 2000000 in
theorem implLevels0 (s : ByteArray) (A : Option Addr) (n c : Nat) (l : List ByteArray) (w : World) (hn : n ≤ maxLen) (hl : l.length = n) (hz : ∀ s ∈ l, s.size ≤ maxLen) (h : Rd w 1 A n (cellsS l)) (hv : wordB s = true) (hp : pats20 l = true) :
    Calls Try.prog 125 #[.string s, .slice A n c] w (RowN (layL (dotted s) (List.replicate (s.size + 1) 0) l) w) := by
  have hs20 : s.size ≤ 20 := (wordB_true hv).2.2
  have hl' := hide hl
  have hz' := hide hz
  have hn20 : n ≤ 20 := by simp only [pats20, Bool.and_eq_true, decide_eq_true_eq] at hp; omega
  have hpb := hide (fun p (hpm : p ∈ l) => (List.all_eq_true.1 (by simp only [pats20, Bool.and_eq_true] at hp; exact hp.1) p hpm : patB p = true))
  have hmk := hmkN s.size (by omega)
  have hd1 : (⟨#[46]⟩ : ByteArray).size = 1 := rfl
  have hz1 : (⟨#[46]⟩ : ByteArray).size + s.size ≤ 9223372036854775807 := by omega
  have hz2 : ((⟨#[46]⟩ : ByteArray) ++ s).size + (⟨#[46]⟩ : ByteArray).size ≤ 9223372036854775807 := by rw [ByteArray.size_append]; omega
  have hB0 := hide (Blk.new w 3 (cellsN (List.replicate (s.size + 1) 0)).toArray)
  have hblen := hide (fun k => layL_len (dotted s) (l.take k) (List.replicate (s.size + 1) 0))
  clear hl hz hn hd1
  go_enter Try.func125, Try.ntmps125
  go_wp2
  have hDs := hide (dotted_size s)
  have hD : ((⟨#[46]⟩ : ByteArray) ++ s ++ (⟨#[46]⟩ : ByteArray)) = dotted s := rfl
  try rw [hD]
  clear hD
  generalize dotted s = D at *
  have hDb : D.size ≤ 22 := by have := hDs.out; omega
  clear hmk hz1 hz2
  go_loopw [24] (fun i wr => ∃ k : Nat, k ≤ n ∧ i = .int .i64 k ∧ Blk wr w.heap.size 3 (cellsN (layL D (List.replicate (s.size + 1) 0) (l.take k))).toArray ∧ Below w.heap.size w wr) (fun i _ => n - (intOf i).toNat)
  case atStart => exact ⟨0, Nat.zero_le _, rfl, hB0.out, by (repeat (first | exact Below.refl _ _ | assumption | refine Below.alloc ?_ (by first | assumption | omega | (simp; done) | (simp; omega)) _ | refine Below.setCell ?_ (by first | assumption | omega | (simp; done) | (simp; omega)) _ | refine below_drewN ?_ _ | refine Below.drew ?_))⟩
  case round =>
    obtain ⟨k, hk, rfl, hblk, hb⟩ := hrel
    have hblk' := hide hblk
    have hb' := hide hb
    have hbs := hb.size
    have hgl := hblk.lt
    by_cases hlt : k < n
    · obtain ⟨b, off, p, rfl, hbk, hx, c0⟩ := (h.below hb).str hl'.out hlt
      have hpm := hide (List.mem_of_getElem? hx)
      have hpb2 := hide (hpb.out p hpm.out)
      have hps : p.size ≤ 12 := (patB_true hpb2.out).2.2
      have hsn := hide (layL_snoc D (List.replicate (s.size + 1) 0) l k p hx)
      have hOl := hide (show (layL D (List.replicate (s.size + 1) 0) (l.take k)).length = s.size + 1 by rw [hblen.out k, List.length_replicate])
      have hO9 := hide (layL_9 (d := D) (l.take k) (replicate_9 (s.size + 1)))
      clear hx hb hblk
      generalize hOUT : layL D (List.replicate (s.size + 1) 0) (l.take k) = OUT at *
      clear hOUT
      have hS := hide (patS_yes hpb2.out)
      have hLv := hide (patLv_yes hpb2.out)
      go_wp2_with fail
      refine (patParts p _ (by omega)).mono ?_
      rintro e w1 ⟨v, rfl, hrow, hb1⟩
      rw [← hLv.out] at hrow
      rw [← hS.out]
      obtain ⟨A2, c2, rfl, _, hrd2⟩ := own_form hrow
      have hne2 := hide (own_apartG hrow hgl)
      have hm13 := patLv_bd p
      have hlv9 := hide (patLv_9 p)
      have hts := patS_bd p
      have hP := hide (show layP D p OUT = layAt D (patS p) (patLv p) OUT (D.size + 1 - (patS p).size) from rfl)
      have hblk1 := hide (hblk'.out.below' hb1)
      have hbe1 := hide (hb'.out.trans (hb1.mono hbs))
      have hrd2' := hide hrd2
      have hs1 := hbe1.out.size
      clear hrow hb1 hrd2
      generalize patS p = T at *
      generalize patLv p = lv at *
      obtain ⟨m, hm⟩ : ∃ m, lv.length = m := ⟨_, rfl⟩
      rw [hm] at hm13 hrd2' hne2
      have hm' := hide hm
      rw [hm]
      clear hm c0
      go_wp2
      go_loopw [11] (fun i wq => ∃ a : Nat, a ≤ D.size + 1 - T.size ∧ i = .int .i64 a ∧ Blk wq w.heap.size 3 (cellsN (layAt D T lv OUT a)).toArray ∧ w1.grownBy wq (some w.heap.size)) (fun i _ => D.size + 1 - (intOf i).toNat)
      case atStart => exact ⟨0, Nat.zero_le _, rfl, hblk1.out, only_refl _ _⟩
      case round =>
        obtain ⟨a, ha, rfl, hblk2, hg2⟩ := hrel
        have hblk2' := hide hblk2
        have hg2' := hide hg2
        have hO2l := hide ((layAt_len D T lv OUT a).trans hOl.out)
        have hO29 := hide (layAt_9 (d := D) (t := T) hlv9.out hO9.out a)
        clear hblk2 hg2
        by_cases hle : a + T.size ≤ D.size
        · have hi1 : (a : Int) + (T.size : Int) ≤ (D.size : Int) := by omega
          have hi2 : (0 : Int) ≤ (a : Int) + (T.size : Int) := by omega
          have hi3 : ((a : Int) + (T.size : Int)).toNat = a + T.size := by omega
          have hi4 : (a : Int) ≤ (a : Int) + (T.size : Int) := by omega
          cases hf : fits D T a with
          | false =>
            have hst := hide (layAt_no (lv := lv) (out := OUT) hf)
            have hn1 : (bl (D.extract a (a + T.size)) == bl T) = false := hf
            have hn2 : ((D.extract a (a + T.size)).toList == T.toList) = false := (toList_beq _ _).trans hn1
            clear hf hn1
            go_wp2
            go_roundw
            case rel => exact ⟨a + 1, by omega, by go_num, by rw [hst.out]; exact hblk2'.out, hg2'.out⟩
            case measure => simp [intOf]; omega
          | true =>
            have hst := hide (layAt_yes (lv := lv) (out := OUT) hf)
            have hn1 : (bl (D.extract a (a + T.size)) == bl T) = true := hf
            have hn2 : ((D.extract a (a + T.size)).toList == T.toList) = true := (toList_beq _ _).trans hn1
            clear hf hn1
            generalize layAt D T lv OUT a = OUT2 at *
            go_wp2
            go_loopw [53] (fun i wz => ∃ j : Nat, j ≤ m ∧ i = .int .i64 j ∧ Blk wz w.heap.size 3 (cellsN (layK lv a OUT2 j)).toArray ∧ w1.grownBy wz (some w.heap.size)) (fun i _ => m - (intOf i).toNat)
            case atStart => exact ⟨0, Nat.zero_le _, rfl, hblk2'.out, hg2'.out⟩
            case round =>
              obtain ⟨j, hj, rfl, hblk3, hg3⟩ := hrel
              have hblk3' := hide hblk3
              have hg3' := hide hg3
              have hO3l := hide ((layK_len lv a OUT2 j).trans hO2l.out)
              have hO39 := hide (layK_9 (a := a) hlv9.out hO29.out j)
              by_cases hjm : j < m
              · obtain ⟨b3, off3, x, rfl, hb3, hx3, c3⟩ := (hrd2'.out.row hg3 hne2.out).int hm'.out hjm
                have hx3' := hide hx3
                have hx9 := hlv9.out x (List.mem_of_getElem? hx3)
                have hks := hide (show layK lv a OUT2 (j + 1) = bump (layK lv a OUT2 j) ((a : Int) + j - 1) x by rw [layK, gD hx3])
                clear hx3 hblk3 hg3
                cases hin : inB ((a : Int) + (j : Int) - 1) 0 (s.size : Int) with
                | false =>
                  have hno := hide (show layK lv a OUT2 (j + 1) = layK lv a OUT2 j by rw [hks.out]; exact bump_no (by have := inB_false hin; have := hO3l.out; omega))
                  go_wp2_with (go_at_call 82; refine (in_any _ _ _ _).mono ?_; rintro e w' ⟨rfl, rfl⟩)
                  go_roundw
                  case rel => exact ⟨j + 1, by omega, by go_num, by rw [hno.out]; exact hblk3'.out, hg3'.out⟩
                  case measure => simp [intOf]; omega
                | true =>
                  have hpl := inB_true hin
                  obtain ⟨q, hq⟩ : ∃ q : Nat, (a : Int) + (j : Int) - 1 = (q : Int) := ⟨((a : Int) + (j : Int) - 1).toNat, by omega⟩
                  have hqs : q ≤ s.size := by omega
                  obtain ⟨y, hy⟩ : ∃ y, (layK lv a OUT2 j)[q]? = some y := ⟨_, List.getElem?_eq_getElem (by have := hO3l.out; omega)⟩
                  have hy9 := hO39.out y (List.mem_of_getElem? hy)
                  obtain ⟨d0, z0⟩ := hblk3'.out.intAt hy
                  have hyes := hide (show layK lv a OUT2 (j + 1) = (layK lv a OUT2 j).set q (max y x) by rw [hks.out]; exact bump_yes hy hq)
                  have hgl3 := hblk3'.out.lt
                  have hmx := hide (show max y x = (if y < x then x else y) by rw [Int.max_def]; split <;> split <;> omega)
                  have q1 : (0 : Int) ≤ (a : Int) + (j : Int) - 1 := by omega
                  have q2 : (1 : Int) ≤ (a : Int) + (j : Int) := by omega
                  have q3 : ((a : Int) + (j : Int) - 1).toNat = q := by omega
                  have q4 : (a : Int) + (j : Int) - 1 < (s.size : Int) + 1 := by omega
                  clear hq hy
                  go_wp2_with (go_at_call 82; refine (in_any _ _ _ _).mono ?_; rintro e w' ⟨rfl, rfl⟩)
                  go_roundw
                  case rel => exact ⟨j + 1, by omega, by go_num, by rw [hyes.out, hmx.out]; exact Blk.setN (k := q) (if y < x then x else y) hblk3'.out, only_setCell hg3'.out (.inl rfl) _⟩
                  case measure => simp [intOf]; omega
              · obtain rfl : j = m := by omega
                clear hblk3 hg3
                go_wp2
                go_roundw
                case rel => exact ⟨a + 1, by omega, by go_num, by rw [hst.out, hm'.out]; exact hblk3'.out, hg3'.out⟩
                case measure => simp [intOf]; omega
        · have hae : a = D.size + 1 - T.size := by omega
          have hd9 : decide ((a : Int) + (T.size : Int) ≤ (D.size : Int)) = false := decide_eq_false (by omega)
          have hfin := hide (show layAt D T lv OUT a = layP D p OUT by rw [hP.out, hae])
          clear hae
          go_wp2
          go_roundw
          case rel => exact ⟨k + 1, by omega, by go_num, by rw [hsn.out, ← hfin.out]; exact hblk2'.out, Below.only hbe1.out hg2'.out hs1 (Nat.le_refl _)⟩
          case measure => simp [intOf]; omega
    · obtain rfl : n = k := by omega
      have hLL := hide (layL_len D l (List.replicate (s.size + 1) 0))
      have htk : l.take n = l := List.take_of_length_le (by have := hl'.out; omega)
      rw [htk] at hblk'
      clear hblk hb htk
      go_wp2
      unfold RowN
      go_ret
      have hlen2 := hLL.out
      rw [List.length_replicate] at hlen2
      rw [hlen2]
      exact ⟨_, rfl, own_whole1 hblk'.out (Nat.le_refl _) (by rw [len_cellsN, hlen2]) (by unfold maxLen; omega), hb'.out⟩
end Go.Proofs.Ytocaonlmlafjmaa

/- The walks through the levels of a word, the functions themselves. Condition: the slice reads as the list of patterns. -/
namespace Go.Proofs.Ytocaonlmlafjmaa
open Go.RowKit
set_option linter.unusedVariables false
set_option linter.unusedSimpArgs false
set_option maxRecDepth 100000

theorem levelsW_yes {s : ByteArray} {l : List ByteArray} (h1 : wordB s = true) (h2 : pats20 l = true) : levelsW s l = layL (dotted s) (List.replicate (s.size + 1) 0) l := by
  unfold levelsW; rw [if_pos ⟨h1, h2⟩]
theorem specLevels (s : ByteArray) (A : Option Addr) (n c : Nat) (l : List ByteArray) (w : World) (hs : s.size ≤ maxLen) (hn : n ≤ maxLen) (hl : l.length = n) (hz : ∀ s ∈ l, s.size ≤ maxLen) (h : Rd w 1 A n (cellsS l)) :
    Calls Try.prog 126 #[.string s, .slice A n c] w (RowN (levelsW s l) w) := by
  have hww := hide (specWord s w hs)
  have hpp := hide (specPats A n c l w hn hl hz h)
  have hk0 := hide (own_emptyN (base := w.heap.size) (Blk.new w 3 #[]) (Nat.le_refl _))
  cases hv : wordB s with
  | false =>
    rw [levelsW_no (.inl hv)]
    clear hn hl hz h
    go_enter Try.func126, Try.ntmps126
    go_wp2_with fail
    refine hww.out.mono ?_
    rintro e w' ⟨rfl, rfl⟩
    rw [hv]
    go_wp2
    unfold RowN
    go_ret
    exact ⟨_, rfl, hk0.out, by (repeat (first | exact Below.refl _ _ | assumption | refine Below.alloc ?_ (by first | assumption | omega | (simp; done) | (simp; omega)) _ | refine Below.setCell ?_ (by first | assumption | omega | (simp; done) | (simp; omega)) _ | refine below_drewN ?_ _ | refine Below.drew ?_))⟩
  | true =>
    cases hp : pats20 l with
    | false =>
      rw [levelsW_no (.inr hp)]
      clear hn hl hz h
      go_enter Try.func126, Try.ntmps126
      go_wp2_with fail
      refine hww.out.mono ?_
      rintro e w' ⟨rfl, rfl⟩
      rw [hv]
      go_wp2_with fail
      refine hpp.out.mono ?_
      rintro e w' ⟨rfl, rfl⟩
      rw [hp]
      go_wp2
      unfold RowN
      go_ret
      exact ⟨_, rfl, hk0.out, by (repeat (first | exact Below.refl _ _ | assumption | refine Below.alloc ?_ (by first | assumption | omega | (simp; done) | (simp; omega)) _ | refine Below.setCell ?_ (by first | assumption | omega | (simp; done) | (simp; omega)) _ | refine below_drewN ?_ _ | refine Below.drew ?_))⟩
    | true =>
      rw [levelsW_yes hv hp]
      exact specLevels0 s A n c l w hn hl hz h hv hp
theorem implLevels (s : ByteArray) (A : Option Addr) (n c : Nat) (l : List ByteArray) (w : World) (hs : s.size ≤ maxLen) (hn : n ≤ maxLen) (hl : l.length = n) (hz : ∀ s ∈ l, s.size ≤ maxLen) (h : Rd w 1 A n (cellsS l)) :
    Calls Try.prog 113 #[.string s, .slice A n c] w (RowN (levelsW s l) w) := by
  have hww := hide (implWord s w hs)
  have hpp := hide (implPats A n c l w hn hl hz h)
  cases hv : wordB s with
  | false =>
    rw [levelsW_no (.inl hv)]
    clear hn hl hz h
    go_enter Try.func113, Try.ntmps113
    go_wp2_with fail
    refine hww.out.mono ?_
    rintro e w' ⟨rfl, rfl⟩
    rw [hv]
    go_wp2
    unfold RowN
    go_ret
    exact ⟨_, rfl, World.ownsRow_nil _ _ _ _, Below.refl _ _⟩
  | true =>
    cases hp : pats20 l with
    | false =>
      rw [levelsW_no (.inr hp)]
      clear hn hl hz h
      go_enter Try.func113, Try.ntmps113
      go_wp2_with fail
      refine hww.out.mono ?_
      rintro e w' ⟨rfl, rfl⟩
      rw [hv]
      go_wp2_with fail
      refine hpp.out.mono ?_
      rintro e w' ⟨rfl, rfl⟩
      rw [hp]
      go_wp2
      unfold RowN
      go_ret
      exact ⟨_, rfl, World.ownsRow_nil _ _ _ _, Below.refl _ _⟩
    | true =>
      rw [levelsW_yes hv hp]
      have h0 := hide (implLevels0 s A n c l w hn hl hz h hv hp)
      clear hn hl hz h
      go_enter Try.func113, Try.ntmps113
      go_wp2_with fail
      refine hww.out.mono ?_
      rintro e w' ⟨rfl, rfl⟩
      rw [hv]
      go_wp2_with fail
      refine hpp.out.mono ?_
      rintro e w' ⟨rfl, rfl⟩
      rw [hp]
      go_wp2_with fail
      refine h0.out.mono ?_
      rintro e w' ⟨v, rfl, hown, hb⟩
      have hown' := hide hown
      have hb' := hide hb
      clear hown hb
      go_wp2
      unfold RowN
      go_ret
      exact ⟨_, rfl, hown'.out, hb'.out⟩
end Go.Proofs.Ytocaonlmlafjmaa

/- The walks through the places of hyphens. Condition: the slice reads as the list of patterns. -/
namespace Go.Proofs.Ytocaonlmlafjmaa
open Go.RowKit
set_option linter.unusedVariables false
set_option linter.unusedSimpArgs false
set_option maxRecDepth 100000

theorem Rd.rowO {w w' : World} {size n : Nat} {A : Option Addr} {xs : List Value} {rb : Option Nat} (h : Rd w size A n xs) (hg : w.grownBy w' rb) (hq : ∀ b off, A = some ⟨b, off, none⟩ → 0 < n → rb ≠ some b) : Rd w' size A n xs :=
  ⟨h.1, fun hn => by
    obtain ⟨b, off, e, hb, hc⟩ := h.2 hn
    exact ⟨b, off, e, Nat.lt_of_lt_of_le hb hg.size, fun j u hu => (World.cell?_of_block (hg.block b hb (fun e2 => hq b off e hn e2.symm))).trans (hc j u hu)⟩⟩
theorem Rd.blk_lt {w : World} {size n : Nat} {A : Option Addr} {xs : List Value} (h : Rd w size A n xs) : ∀ b off, A = some ⟨b, off, none⟩ → 0 < n → b < w.heap.size := by
  intro b off hA hn
  obtain ⟨b2, off2, e, hb, _⟩ := h.2 hn
  rw [hA] at e
  injection e with e
  injection e with e1
  omega
theorem apart_step {A : Option Addr} {m : Nat} {v : Value} {g3 H n c : Nat} (h : ∀ b off, A = some ⟨b, off, none⟩ → 0 < m → v.ownBlock ≠ some b) (hlt : ∀ b off, A = some ⟨b, off, none⟩ → 0 < m → b < H) (hat : v.ownBlock = some g3 ∨ g3 = H) :
    ∀ b off, A = some ⟨b, off, none⟩ → 0 < m → (Value.slice (some ⟨g3, 0, none⟩) n c).ownBlock ≠ some b := by
  intro b off hA hm e
  have e2 : g3 = b := by simpa [Value.ownBlock] using e
  rcases hat with hat | hat
  · exact h b off hA hm (by rw [hat, e2])
  · have := hlt b off hA hm
    omega
theorem levels_get {lev : List Int} (h : In9 lev) {k : Nat} {x : Int} (hx : lev[k]? = some x) : 0 ≤ x ∧ x ≤ 9 := h x (List.mem_of_getElem? hx)
theorem hyB_odd {lev : List Int} {k : Nat} {x : Int} (hx : lev[k]? = some x) (h2 : 2 ≤ k) (h3 : k + 3 < lev.length) : hyB lev k = (x % 2 == 1) := by
  unfold hyB; rw [gD hx]; simp [h2, h3]
theorem hyB_even {lev : List Int} {k : Nat} {x : Int} (hx : lev[k]? = some x) (h : (x % 2 == 1) = false) : hyB lev k = false := by
  unfold hyB; rw [gD hx, h, Bool.and_false]
theorem hyB_far {lev : List Int} {k : Nat} (h : k < 2 ∨ lev.length ≤ k + 3) : hyB lev k = false := by
  unfold hyB
  rcases h with h | h
  · rw [show decide (2 ≤ k) = false from decide_eq_false (by omega)]; rfl
  · rw [show decide (k + 3 < lev.length) = false from decide_eq_false (by omega), Bool.and_false]; rfl
def PlRel (lev : List Int) (w : World) (A : Option Addr) (m k : Nat) (v : Value) (wr : World) : Prop :=
  wr.ownsRow w.heap.size 3 1 v (toI (hpTo lev k)).length (cellsN (toI (hpTo lev k))) ∧ Rd wr 1 A m (cellsN lev) ∧ (∀ b off, A = some ⟨b, off, none⟩ → 0 < m → v.ownBlock ≠ some b) ∧ Below w.heap.size w wr
theorem pl_yes {lev : List Int} {w wr w3 : World} {A : Option Addr} {m k g3 cap3 : Nat} {v : Value} (hb : hyB lev k = true) (h : PlRel lev w A m k v wr)
    (hown3 : w3.ownsRow w.heap.size 3 1 (.slice (some ⟨g3, 0, none⟩) ((toI (hpTo lev k)).length + 1) cap3) ((toI (hpTo lev k)).length + 1) (cellsN (toI (hpTo lev k)) ++ [.int .i64 (k : Int)]))
    (hg3 : (wr.alloc (.cells #[.int .i64 (k : Int)] 3)).grownBy w3 v.ownBlock) (hat : v.ownBlock = some g3 ∨ g3 = wr.heap.size + 1) : PlRel lev w A m (k + 1) (.slice (some ⟨g3, 0, none⟩) ((toI (hpTo lev k)).length + 1) cap3) w3 := by
  obtain ⟨h1, h2, h3, h4⟩ := h
  have hrd := h2.alloc (.cells #[.int .i64 (k : Int)] 3)
  refine ⟨?_, hrd.rowO hg3 h3, apart_step h3 (fun b off hA hm => by have := h2.blk_lt b off hA hm; omega) hat, (h4.alloc h4.size _).grown hg3 (by simp; have := h4.size; omega) (fun kk hkk => (h1.lt kk hkk).1)⟩
  rw [hpTo_yes hb, toI_snoc, List.length_append, List.length_singleton]
  simpa [cellsN] using hown3
theorem pl_no {lev : List Int} {w wr : World} {A : Option Addr} {m k : Nat} {v : Value} (hb : hyB lev k = false) (h : PlRel lev w A m k v wr) : PlRel lev w A m (k + 1) v wr := by
  unfold PlRel at h ⊢
  rw [hpTo_no hb]
  exact h
theorem pl_len {lev : List Int} (h : lev.length ≤ 21) {k : Nat} (hk : k ≤ 30) : (toI (hpTo lev k)).length ≤ 30 := by
  rw [toI_len]
  have := hpTo_len lev k
  omega
theorem placesI_bd (s : ByteArray) (l : List ByteArray) : (toI (placesN s l)).length ≤ 21 := by rw [toI_len]; exact places_len s l

set_option maxRecDepth 100000 in
set_option maxHeartbeats 1000000 in
theorem specPlaces (s : ByteArray) (A : Option Addr) (n c : Nat) (l : List ByteArray) (w : World) (hs : s.size ≤ maxLen) (hn : n ≤ maxLen) (hl : l.length = n) (hz : ∀ s ∈ l, s.size ≤ maxLen) (h : Rd w 1 A n (cellsS l)) :
    Calls Try.prog 117 #[.string s, .slice A n c] w (RowN (toI (placesN s l)) w) := by
  obtain ⟨i0, hi, hz0, hz1, hz2⟩ := info_parts int_info
  have hlv := hide (specLevels s A n c l (w.alloc (.cells #[] 3)) hs hn hl hz (h.alloc _))
  have hk0 := Blk.new w 3 #[]
  have h21 := levelsW_bd s l
  have h9 := hide (levelsW_9 s l)
  have hP : placesN s l = hpTo (levelsW s l) (levelsW s l).length := rfl
  rw [hP]
  clear hP
  generalize levelsW s l = lev at *
  obtain ⟨m, hm⟩ : ∃ m, lev.length = m := ⟨_, rfl⟩
  have hm' := hide hm
  rw [hm]
  rw [hm] at h21
  clear hm hs hn hl hz h
  go_enter Try.func117, Try.ntmps117
  go_wp2_with fail
  refine hlv.out.mono ?_
  rintro e w1 ⟨v, rfl, hrow, hb1⟩
  obtain ⟨A2, c2, rfl, _, hrd⟩ := own_form hrow
  rw [hm'.out] at hrd hrow
  have hk1 := own_emptyN (base := w.heap.size) (hk0.below' hb1) (Nat.le_refl _)
  have hap : ∀ b off, A2 = some ⟨b, off, none⟩ → 0 < m → (Value.slice (some ⟨w.heap.size, 0, none⟩) 0 0).ownBlock ≠ some b := by
    intro b off hA _ e
    have := (hrow.lt b (by rw [hA]; rfl)).1
    have e2 : w.heap.size = b := by simpa [Value.ownBlock] using e
    simp at this
    omega
  have hst := hide (show PlRel lev w A2 m 2 (Value.slice (some ⟨w.heap.size, 0, none⟩) 0 0) w1 by
    unfold PlRel
    rw [hpTo_two]
    exact ⟨hk1, hrd, hap, ((Below.refl w.heap.size w).alloc (Nat.le_refl _) _).trans (hb1.mono (by simp))⟩)
  clear hk0 hk1 hrow hb1 hrd hap
  rw [hm'.out]
  go_wp2
  go_loopw [5, 7] (fun v i wr => ∃ k : Nat, (2 ≤ k ∧ k ≤ m + 2) ∧ i = .int .i64 k ∧ PlRel lev w A2 m k v wr) (fun _ i _ => m + 2 - (intOf i).toNat)
  case atStart => exact ⟨2, ⟨by omega, by omega⟩, rfl, hst.out⟩
  case round =>
    obtain ⟨k, ⟨hk2, hk⟩, rfl, hrel⟩ := hrel
    have hrel' := hide hrel
    obtain ⟨hown, hrd, hap, hb⟩ := hrel
    have hown' := hide hown
    have hbs := hb.size
    have hlen := pl_len (by rw [hm'.out]; exact h21) (k := k) (by omega)
    by_cases hlt : k + 3 < m
    · obtain ⟨b, off, x, rfl, hbk, hx, c0⟩ := hrd.int hm'.out (show k < m by omega)
      have hx9 := levels_get h9.out hx
      have hyo := hide (hyB_odd hx hk2 (by rw [hm'.out]; exact hlt))
      have hki : (k : Int) + 3 < (m : Int) := by omega
      clear hown hrd hap hb hx hst
      cases ho : (x % 2 == 1) with
      | true =>
        have hyes := hide (hyo.out.trans ho)
        go_wp2_with (first | (at_builtin; refine wpList_append_lies _ rfl _ _ 60 rfl w.heap.size 3 i0 (.int .i64 0) 1 8 Try.underlying60 hi hz0 hz1 hz2 rfl (by decide) _ _ _ rfl (hown'.out.alloc _) ⟨wr.heap.size, 0, none⟩ 1 1 [.int .i64 (k : Int)] rfl rfl (fun j u hj => cell_one_at (by simp) hj) (one_cells _) (by omega) (by unfold maxLen; omega) (by omega) (by simp; omega) _ rfl ?_))
        intro g3 cap3 w3 hown3 hg3 hat3 hlt3
        have hfin := hide (pl_yes hyes.out hrel'.out hown3 hg3 (by simpa using hat3))
        clear hown3 hg3 hat3 hlt3
        go_wp2
        go_roundw
        case rel => exact ⟨k + 1, ⟨by omega, by omega⟩, by go_num, hfin.out⟩
        case measure => simp [intOf]; omega
      | false =>
        have hno := hide (pl_no (hyo.out.trans ho) hrel'.out)
        go_wp2
        go_roundw
        case rel => exact ⟨k + 1, ⟨by omega, by omega⟩, by go_num, hno.out⟩
        case measure => simp [intOf]; omega
    · have hd : decide ((k : Int) + 3 < (m : Int)) = false := decide_eq_false (by omega)
      have hfin := hide (show toI (hpTo lev m) = toI (hpTo lev k) by
        rw [← hm'.out]
        by_cases hkm : k ≤ lev.length
        · rw [hpTo_end (by rw [hm'.out]; omega) hkm]
        · rw [hpTo_small (k := k) (by omega)])
      have hb' := hide hb
      clear hown hrd hap hst
      go_wp2
      unfold RowN
      go_ret
      rw [hfin.out]
      exact ⟨_, rfl, hown'.out, hb'.out⟩
set_option maxRecDepth 100000 in
set_option maxHeartbeats 1000000 in
theorem implPlaces (s : ByteArray) (A : Option Addr) (n c : Nat) (l : List ByteArray) (w : World) (hs : s.size ≤ maxLen) (hn : n ≤ maxLen) (hl : l.length = n) (hz : ∀ s ∈ l, s.size ≤ maxLen) (h : Rd w 1 A n (cellsS l)) :
    Calls Try.prog 93 #[.string s, .slice A n c] w (RowN (toI (placesN s l)) w) := by
  obtain ⟨i0, hi, hz0, hz1, hz2⟩ := info_parts int_info
  have hlv := hide (implLevels s A n c l w hs hn hl hz h)
  have h21 := levelsW_bd s l
  have h9 := hide (levelsW_9 s l)
  have hsz := hide (show (levelsW s l).length = 0 ∨ ((levelsW s l).length = s.size + 1 ∧ s.size ≤ 20) by
    cases h1 : wordB s with
    | false => left; rw [levelsW_no (.inl h1)]; rfl
    | true =>
      cases h2 : pats20 l with
      | false => left; rw [levelsW_no (.inr h2)]; rfl
      | true => right; exact ⟨levelsW_len h1 h2, (wordB_true h1).2.2⟩)
  have hP : placesN s l = hpTo (levelsW s l) (levelsW s l).length := rfl
  rw [hP]
  clear hP
  generalize levelsW s l = lev at *
  obtain ⟨m, hm⟩ : ∃ m, lev.length = m := ⟨_, rfl⟩
  have hm' := hide hm
  rw [hm]
  rw [hm] at h21 hsz
  unfold maxLen at hs
  clear hm hn hl hz h
  go_enter Try.func93, Try.ntmps93
  go_wp2_with fail
  refine hlv.out.mono ?_
  rintro e w1 ⟨v, rfl, hrow, hb1⟩
  obtain ⟨A2, c2, rfl, _, hrd⟩ := own_form hrow
  rw [hm'.out] at hrd
  have hst := hide (show PlRel lev w A2 m 0 (.slice none 0 0) w1 from ⟨World.ownsRow_nil _ _ _ _, hrd, fun b off _ _ e => by simp [Value.ownBlock] at e, hb1⟩)
  clear hrow hb1 hrd
  rw [hm'.out]
  go_wp2
  go_loopw [5, 12] (fun v i wr => ∃ k : Nat, k ≤ m ∧ i = .int .i64 k ∧ PlRel lev w A2 m k v wr) (fun _ i _ => m - (intOf i).toNat)
  case atStart => exact ⟨0, Nat.zero_le _, rfl, hst.out⟩
  case round =>
    obtain ⟨k, hk, rfl, hrel⟩ := hrel
    have hrel' := hide hrel
    obtain ⟨hown, hrd, hap, hb⟩ := hrel
    have hown' := hide hown
    have hbs := hb.size
    have hlen := pl_len (by rw [hm'.out]; exact h21) (k := k) (by omega)
    by_cases hlt : k < m
    · obtain ⟨b, off, x, rfl, hbk, hx, c0⟩ := hrd.int hm'.out hlt
      have hx9 := levels_get h9.out hx
      have hx' := hide hx
      have hms : m = s.size + 1 ∧ s.size ≤ 20 := by rcases hsz.out with h | h <;> omega
      have hs20 := hms.2
      have hms1 := hide hms.1
      clear hown hrd hap hb hx hst hms
      cases ho : (x % 2 == 1) with
      | true =>
        cases hin : inB (k : Int) 2 ((s.size : Int) - 3) with
        | true =>
          have hib := inB_true hin
          have hyes := hide ((hyB_odd hx'.out (by omega) (by rw [hm'.out, hms1.out]; omega)).trans ho)
          go_wp2_with (first | (go_at_call 82; refine (in_any _ _ _ _).mono ?_; rintro e w' ⟨rfl, rfl⟩) | (at_builtin; refine wpList_append_lies _ rfl _ _ 60 rfl w.heap.size 3 i0 (.int .i64 0) 1 8 Try.underlying60 hi hz0 hz1 hz2 rfl (by decide) _ _ _ rfl (hown'.out.alloc _) ⟨wr.heap.size, 0, none⟩ 1 1 [.int .i64 (k : Int)] rfl rfl (fun j u hj => cell_one_at (by simp) hj) (one_cells _) (by omega) (by unfold maxLen; omega) (by omega) (by simp; omega) _ rfl ?_))
          intro g3 cap3 w3 hown3 hg3 hat3 hlt3
          have hfin := hide (pl_yes hyes.out hrel'.out hown3 hg3 (by simpa using hat3))
          clear hown3 hg3 hat3 hlt3
          go_wp2
          go_roundw
          case rel => exact ⟨k + 1, by omega, by go_num, hfin.out⟩
          case measure => simp [intOf]; omega
        | false =>
          have hib := inB_false hin
          have hno := hide (pl_no (hyB_far (lev := lev) (k := k) (by rw [hm'.out, hms1.out]; omega)) hrel'.out)
          clear hib
          go_wp2_with (go_at_call 82; refine (in_any _ _ _ _).mono ?_; rintro e w' ⟨rfl, rfl⟩)
          go_roundw
          case rel => exact ⟨k + 1, by omega, by go_num, hno.out⟩
          case measure => simp [intOf]; omega
      | false =>
        have hno := hide (pl_no (hyB_even hx'.out ho) hrel'.out)
        go_wp2
        go_roundw
        case rel => exact ⟨k + 1, by omega, by go_num, hno.out⟩
        case measure => simp [intOf]; omega
    · obtain rfl : k = m := by omega
      have hb' := hide hb
      clear hown hrd hap hst
      go_wp2
      unfold RowN
      go_ret
      exact ⟨_, rfl, hown'.out, hb'.out⟩
end Go.Proofs.Ytocaonlmlafjmaa

/- The walks through the parts of a word. Condition: the slice reads as the list of patterns. -/
namespace Go.Proofs.Ytocaonlmlafjmaa
open Go.RowKit
set_option linter.unusedVariables false
set_option linter.unusedSimpArgs false
set_option maxRecDepth 100000

theorem partsW_yes {s : ByteArray} {l : List ByteArray} (h1 : wordB s = true) (h2 : pats20 l = true) : partsW s l = partsOf s (placesN s l) := by
  unfold partsW; rw [if_pos ⟨h1, h2⟩]
theorem partsW_no {s : ByteArray} {l : List ByteArray} (h : wordB s = false ∨ pats20 l = false) : partsW s l = [] := by
  unfold partsW
  rw [if_neg]
  rcases h with h | h <;> simp [h]
theorem partsW_bd (s : ByteArray) (l : List ByteArray) : (partsW s l).length ≤ 22 := by
  unfold partsW
  split
  · have := places_len s l
    unfold partsOf
    rw [List.length_append, partTo_len, List.length_singleton]
    omega
  · simp
theorem toI_get {P : List Nat} {k : Nat} {x : Int} (h : (toI P)[k]? = some x) : x = (P.getD k 0 : Int) := by
  unfold toI at h
  rw [List.getElem?_map, Option.map_eq_some_iff] at h
  obtain ⟨y, hy, rfl⟩ := h
  rw [List.getD_eq_getElem?_getD, hy]
  rfl
def PtRel (s : ByteArray) (P : List Nat) (w : World) (A : Option Addr) (k : Nat) (v : Value) (wr : World) : Prop :=
  wr.ownsRow w.heap.size 9 1 v k (cellsS (partTo s P k)) ∧ Rd wr 1 A P.length (cellsN (toI P)) ∧ (∀ b off, A = some ⟨b, off, none⟩ → 0 < P.length → v.ownBlock ≠ some b) ∧ Below w.heap.size w wr
theorem pt_step {s : ByteArray} {P : List Nat} {w wr w3 : World} {A : Option Addr} {k g3 cap3 : Nat} {v : Value} (h : PtRel s P w A k v wr)
    (hown3 : w3.ownsRow w.heap.size 9 1 (.slice (some ⟨g3, 0, none⟩) (k + 1) cap3) (k + 1) (cellsS (partTo s P k) ++ [.string (s.extract (fromAt P k) (P.getD k 0))]))
    (hg3 : (wr.alloc (.cells #[.string (s.extract (fromAt P k) (P.getD k 0))] 9)).grownBy w3 v.ownBlock) (hat : v.ownBlock = some g3 ∨ g3 = wr.heap.size + 1) : PtRel s P w A (k + 1) (.slice (some ⟨g3, 0, none⟩) (k + 1) cap3) w3 := by
  obtain ⟨h1, h2, h3, h4⟩ := h
  have hrd := h2.alloc (.cells #[.string (s.extract (fromAt P k) (P.getD k 0))] 9)
  refine ⟨?_, hrd.rowO hg3 h3, apart_step h3 (fun b off hA hm => by have := h2.blk_lt b off hA hm; omega) hat, (h4.alloc h4.size _).grown hg3 (by simp; have := h4.size; omega) (fun kk hkk => (h1.lt kk hkk).1)⟩
  rw [partTo]
  simpa [cellsS] using hown3

set_option maxRecDepth 100000 in
set_option maxHeartbeats 2000000 in
theorem specParts (s : ByteArray) (A : Option Addr) (n c : Nat) (l : List ByteArray) (w : World) (hs : s.size ≤ maxLen) (hn : n ≤ maxLen) (hl : l.length = n) (hz : ∀ s ∈ l, s.size ≤ maxLen) (h : Rd w 1 A n (cellsS l)) :
    Calls Try.prog 108 #[.string s, .slice A n c] w (RowS (partsW s l) w) := by
  obtain ⟨i0, hi, hz0, hz1, hz2⟩ := info_parts str_info
  have hww := hide (specWord s (w.alloc (.cells #[] 9)) hs)
  have hpp := hide (specPats A n c l (w.alloc (.cells #[] 9)) hn hl hz (h.alloc _))
  have hpl := hide (specPlaces s A n c l (w.alloc (.cells #[] 9)) hs hn hl hz (h.alloc _))
  have hk0 := Blk.new w 9 #[]
  have hk0' := hide (own_empty1 (base := w.heap.size) hk0 (Nat.le_refl _))
  cases hv : wordB s with
  | false =>
    rw [partsW_no (.inl hv)]
    clear hn hl hz h hpl hpp
    go_enter Try.func108, Try.ntmps108
    go_wp2_with fail
    refine hww.out.mono ?_
    rintro e w' ⟨rfl, rfl⟩
    rw [hv]
    go_wp2
    unfold RowS
    go_ret
    exact ⟨_, rfl, hk0'.out, by (repeat (first | exact Below.refl _ _ | assumption | refine Below.alloc ?_ (by first | assumption | omega | (simp; done) | (simp; omega)) _ | refine Below.setCell ?_ (by first | assumption | omega | (simp; done) | (simp; omega)) _ | refine below_drewN ?_ _ | refine Below.drew ?_))⟩
  | true =>
    cases hp : pats20 l with
    | false =>
      rw [partsW_no (.inr hp)]
      clear hn hl hz h hpl
      go_enter Try.func108, Try.ntmps108
      go_wp2_with fail
      refine hww.out.mono ?_
      rintro e w' ⟨rfl, rfl⟩
      rw [hv]
      go_wp2_with fail
      refine hpp.out.mono ?_
      rintro e w' ⟨rfl, rfl⟩
      rw [hp]
      go_wp2
      unfold RowS
      go_ret
      exact ⟨_, rfl, hk0'.out, by (repeat (first | exact Below.refl _ _ | assumption | refine Below.alloc ?_ (by first | assumption | omega | (simp; done) | (simp; omega)) _ | refine Below.setCell ?_ (by first | assumption | omega | (simp; done) | (simp; omega)) _ | refine below_drewN ?_ _ | refine Below.drew ?_))⟩
    | true =>
      have hs20 := (wordB_true hv).2.2
      have hat := hide (fun k (hk : k < (placesN s l).length) => places_at hv hp hk)
      have hfr := hide (fun k (hk : k ≤ (placesN s l).length) => places_from hv hp hk)
      have h21 := places_len s l
      rw [partsW_yes hv hp]
      clear hn hl hz h hs
      generalize placesN s l = P at *
      obtain ⟨m, hm⟩ : ∃ m, P.length = m := ⟨_, rfl⟩
      have hm' := hide hm
      rw [hm] at h21
      clear hm
      go_enter Try.func108, Try.ntmps108
      go_wp2_with fail
      refine hww.out.mono ?_
      rintro e w' ⟨rfl, rfl⟩
      rw [hv]
      go_wp2_with fail
      refine hpp.out.mono ?_
      rintro e w' ⟨rfl, rfl⟩
      rw [hp]
      go_wp2_with fail
      refine hpl.out.mono ?_
      rintro e w1 ⟨v, rfl, hrow, hb1⟩
      obtain ⟨A2, c2, rfl, _, hrd⟩ := own_form hrow
      rw [toI_len] at hrd hrow
      have hk1 := own_empty1 (base := w.heap.size) (hk0.below' hb1) (Nat.le_refl _)
      have hap : ∀ b off, A2 = some ⟨b, off, none⟩ → 0 < P.length → (Value.slice (some ⟨w.heap.size, 0, none⟩) 0 0).ownBlock ≠ some b := by
        intro b off hA _ e
        have := (hrow.lt b (by rw [hA]; rfl)).1
        have e2 : w.heap.size = b := by simpa [Value.ownBlock] using e
        simp at this
        omega
      have hst := hide (show PtRel s P w A2 0 (Value.slice (some ⟨w.heap.size, 0, none⟩) 0 0) w1 from ⟨hk1, hrd, hap, ((Below.refl w.heap.size w).alloc (Nat.le_refl _) _).trans (hb1.mono (by simp))⟩)
      clear hk0 hk0' hk1 hrow hb1 hrd hap
      rw [toI_len, hm'.out]
      go_wp2
      go_loopw [5, 7, 8] (fun v q i wr => ∃ k : Nat, k ≤ m ∧ i = .int .i64 k ∧ q = .int .i64 (fromAt P k : Int) ∧ PtRel s P w A2 k v wr) (fun _ _ i _ => m - (intOf i).toNat)
      case atStart => exact ⟨0, Nat.zero_le _, rfl, rfl, hst.out⟩
      case round =>
        obtain ⟨k, hk, rfl, rfl, hrel⟩ := hrel
        have hrel' := hide hrel
        obtain ⟨hown, hrd, hap, hb⟩ := hrel
        have hown' := hide hown
        have hbs := hb.size
        have hf1 := hfr.out k (by have := hm'.out; omega)
        by_cases hlt : k < m
        · obtain ⟨b, off, x, rfl, hbk, hx, c0⟩ := hrd.int (toI_len P) (show k < P.length by have := hm'.out; omega)
          obtain rfl := toI_get hx
          have ha := hat.out k (by have := hm'.out; omega)
          have hfs := hide (fromAt_succ P k)
          clear hown hrd hap hb hx hst
          generalize hQ : P.getD k 0 = Q at *
          generalize hF : fromAt P k = F at *
          have hQ' := hide hQ
          have hF' := hide hF
          clear hQ hF
          go_wp2_with (at_builtin; refine wpList_append_lies _ rfl _ _ 49 rfl w.heap.size 9 i0 (.string ByteArray.empty) 1 16 Try.underlying49 hi hz0 hz1 hz2 rfl (by decide) _ _ _ rfl (hown'.out.alloc _) ⟨wr.heap.size, 0, none⟩ 1 1 [.string (s.extract F Q)] rfl rfl (fun j u hj => cell_one_at (by simp) hj) (one_str _) (by omega) (by unfold maxLen; omega) (by omega) (by simp; omega) _ rfl ?_)
          intro g3 cap3 w3 hown3 hg3 hat3 hlt3
          have hfin := hide (pt_step hrel'.out (by rw [hF'.out, hQ'.out]; exact hown3) (by rw [hF'.out, hQ'.out]; exact hg3) (by simpa using hat3))
          clear hown3 hg3 hat3 hlt3
          obtain ⟨b9, off9, x9, hA9, hbk9, hx9, d9⟩ := hfin.out.2.1.int (toI_len P) (show k < P.length by have := hm'.out; omega)
          injection hA9 with hA9
          injection hA9 with hA91 hA92
          subst hA91
          subst hA92
          obtain rfl : x9 = (Q : Int) := by have := toI_get hx9; rw [hQ'.out] at this; exact this
          clear hx9
          go_wp2
          go_roundw
          case rel => exact ⟨k + 1, by omega, by go_num, by rw [hfs.out], hfin.out⟩
          case measure => simp [intOf]; omega
        · obtain rfl : k = m := by omega
          have hb' := hide hb
          clear hown hrd hap hb hst
          generalize hF : fromAt P k = F at *
          have hF' := hide hF
          clear hF
          go_wp2_with (at_builtin; refine wpList_append_lies _ rfl _ _ 49 rfl w.heap.size 9 i0 (.string ByteArray.empty) 1 16 Try.underlying49 hi hz0 hz1 hz2 rfl (by decide) _ _ _ rfl (hown'.out.alloc _) ⟨wr.heap.size, 0, none⟩ 1 1 [.string (s.extract F s.size)] rfl rfl (fun j u hj => cell_one_at (by simp) hj) (one_str _) (by omega) (by unfold maxLen; omega) (by omega) (by simp; omega) _ rfl ?_)
          intro g3 cap3 w3 hown3 hg3 hat3 hlt3
          have hbe := hide ((hb'.out.alloc hbs _).grown hg3 (by simp; omega) (fun kk hkk => (hown'.out.lt kk hkk).1))
          have hrow := hide hown3
          clear hown3 hg3 hat3 hlt3
          go_wp2
          unfold RowS
          go_ret
          refine ⟨_, rfl, ?_, hbe.out⟩
          unfold partsOf
          rw [List.length_append, partTo_len, List.length_singleton, hm'.out, hF'.out]
          have q := hrow.out
          simpa [cellsS] using q
set_option maxRecDepth 100000 in
set_option maxHeartbeats 2000000 in
theorem implParts (s : ByteArray) (A : Option Addr) (n c : Nat) (l : List ByteArray) (w : World) (hs : s.size ≤ maxLen) (hn : n ≤ maxLen) (hl : l.length = n) (hz : ∀ s ∈ l, s.size ≤ maxLen) (h : Rd w 1 A n (cellsS l)) :
    Calls Try.prog 52 #[.string s, .slice A n c] w (RowS (partsW s l) w) := by
  obtain ⟨i0, hi, hz0, hz1, hz2⟩ := info_parts str_info
  have hww := hide (implWord s (w) hs)
  have hpp := hide (implPats A n c l (w) hn hl hz h)
  have hpl := hide (implPlaces s A n c l (w) hs hn hl hz h)
  cases hv : wordB s with
  | false =>
    rw [partsW_no (.inl hv)]
    clear hn hl hz h hpl hpp
    go_enter Try.func52, Try.ntmps52
    go_wp2_with fail
    refine hww.out.mono ?_
    rintro e w' ⟨rfl, rfl⟩
    rw [hv]
    go_wp2
    unfold RowS
    go_ret
    exact ⟨_, rfl, World.ownsRow_nil _ _ _ _, by (repeat (first | exact Below.refl _ _ | assumption | refine Below.alloc ?_ (by first | assumption | omega | (simp; done) | (simp; omega)) _ | refine Below.setCell ?_ (by first | assumption | omega | (simp; done) | (simp; omega)) _ | refine below_drewN ?_ _ | refine Below.drew ?_))⟩
  | true =>
    cases hp : pats20 l with
    | false =>
      rw [partsW_no (.inr hp)]
      clear hn hl hz h hpl
      go_enter Try.func52, Try.ntmps52
      go_wp2_with fail
      refine hww.out.mono ?_
      rintro e w' ⟨rfl, rfl⟩
      rw [hv]
      go_wp2_with fail
      refine hpp.out.mono ?_
      rintro e w' ⟨rfl, rfl⟩
      rw [hp]
      go_wp2
      unfold RowS
      go_ret
      exact ⟨_, rfl, World.ownsRow_nil _ _ _ _, by (repeat (first | exact Below.refl _ _ | assumption | refine Below.alloc ?_ (by first | assumption | omega | (simp; done) | (simp; omega)) _ | refine Below.setCell ?_ (by first | assumption | omega | (simp; done) | (simp; omega)) _ | refine below_drewN ?_ _ | refine Below.drew ?_))⟩
    | true =>
      have hs20 := (wordB_true hv).2.2
      have hat := hide (fun k (hk : k < (placesN s l).length) => places_at hv hp hk)
      have hfr := hide (fun k (hk : k ≤ (placesN s l).length) => places_from hv hp hk)
      have h21 := places_len s l
      rw [partsW_yes hv hp]
      clear hn hl hz h hs
      generalize placesN s l = P at *
      obtain ⟨m, hm⟩ : ∃ m, P.length = m := ⟨_, rfl⟩
      have hm' := hide hm
      rw [hm] at h21
      clear hm
      go_enter Try.func52, Try.ntmps52
      go_wp2_with fail
      refine hww.out.mono ?_
      rintro e w' ⟨rfl, rfl⟩
      rw [hv]
      go_wp2_with fail
      refine hpp.out.mono ?_
      rintro e w' ⟨rfl, rfl⟩
      rw [hp]
      go_wp2_with fail
      refine hpl.out.mono ?_
      rintro e w1 ⟨v, rfl, hrow, hb1⟩
      obtain ⟨A2, c2, rfl, _, hrd⟩ := own_form hrow
      rw [toI_len] at hrd hrow
      have hst := hide (show PtRel s P w A2 0 (.slice none 0 0) w1 from ⟨World.ownsRow_nil _ _ _ _, hrd, fun b off _ _ e => by simp [Value.ownBlock] at e, hb1⟩)
      clear hrow hb1 hrd
      rw [toI_len, hm'.out]
      go_wp2
      go_loopw [5, 6, 21] (fun v q i wr => ∃ k : Nat, k ≤ m ∧ i = .int .i64 k ∧ q = .int .i64 (fromAt P k : Int) ∧ PtRel s P w A2 k v wr) (fun _ _ i _ => m - (intOf i).toNat)
      case atStart => exact ⟨0, Nat.zero_le _, rfl, rfl, hst.out⟩
      case round =>
        obtain ⟨k, hk, rfl, rfl, hrel⟩ := hrel
        have hrel' := hide hrel
        obtain ⟨hown, hrd, hap, hb⟩ := hrel
        have hown' := hide hown
        have hbs := hb.size
        have hf1 := hfr.out k (by have := hm'.out; omega)
        by_cases hlt : k < m
        · obtain ⟨b, off, x, rfl, hbk, hx, c0⟩ := hrd.int (toI_len P) (show k < P.length by have := hm'.out; omega)
          obtain rfl := toI_get hx
          have ha := hat.out k (by have := hm'.out; omega)
          have hfs := hide (fromAt_succ P k)
          clear hown hrd hap hb hx hst
          generalize hQ : P.getD k 0 = Q at *
          generalize hF : fromAt P k = F at *
          have hQ' := hide hQ
          have hF' := hide hF
          clear hQ hF
          go_wp2_with (at_builtin; refine wpList_append_lies _ rfl _ _ 49 rfl w.heap.size 9 i0 (.string ByteArray.empty) 1 16 Try.underlying49 hi hz0 hz1 hz2 rfl (by decide) _ _ _ rfl (hown'.out.alloc _) ⟨wr.heap.size, 0, none⟩ 1 1 [.string (s.extract F Q)] rfl rfl (fun j u hj => cell_one_at (by simp) hj) (one_str _) (by omega) (by unfold maxLen; omega) (by omega) (by simp; omega) _ rfl ?_)
          intro g3 cap3 w3 hown3 hg3 hat3 hlt3
          have hfin := hide (pt_step hrel'.out (by rw [hF'.out, hQ'.out]; exact hown3) (by rw [hF'.out, hQ'.out]; exact hg3) (by simpa using hat3))
          clear hown3 hg3 hat3 hlt3
          go_wp2
          go_roundw
          case rel => exact ⟨k + 1, by omega, by go_num, by rw [hfs.out], hfin.out⟩
          case measure => simp [intOf]; omega
        · obtain rfl : k = m := by omega
          have hb' := hide hb
          clear hown hrd hap hb hst
          generalize hF : fromAt P k = F at *
          have hF' := hide hF
          clear hF
          go_wp2_with (at_builtin; refine wpList_append_lies _ rfl _ _ 49 rfl w.heap.size 9 i0 (.string ByteArray.empty) 1 16 Try.underlying49 hi hz0 hz1 hz2 rfl (by decide) _ _ _ rfl (hown'.out.alloc _) ⟨wr.heap.size, 0, none⟩ 1 1 [.string (s.extract F s.size)] rfl rfl (fun j u hj => cell_one_at (by simp) hj) (one_str _) (by omega) (by unfold maxLen; omega) (by omega) (by simp; omega) _ rfl ?_)
          intro g3 cap3 w3 hown3 hg3 hat3 hlt3
          have hbe := hide ((hb'.out.alloc hbs _).grown hg3 (by simp; omega) (fun kk hkk => (hown'.out.lt kk hkk).1))
          have hrow := hide hown3
          clear hown3 hg3 hat3 hlt3
          go_wp2
          unfold RowS
          go_ret
          refine ⟨_, rfl, ?_, hbe.out⟩
          unfold partsOf
          rw [List.length_append, partTo_len, List.length_singleton, hm'.out, hF'.out]
          have q := hrow.out
          simpa [cellsS] using q
end Go.Proofs.Ytocaonlmlafjmaa
