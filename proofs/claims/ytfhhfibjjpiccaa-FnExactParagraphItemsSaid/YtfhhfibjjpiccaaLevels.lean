/- The walks through the levels of a word. Condition: the slice reads as the list of patterns. -/
import Derived.Test.YtfhhfibjjpiccaaWord
import Derived.Test.YtfhhfibjjpiccaaPat2
import Derived.Test.YtfhhfibjjpiccaaPats
import Derived.StillTailTactics
import Derived.Lib.Bytes
namespace Go.Proofs.Ytfhhfibjjpiccaa
open Go.RowKit
set_option linter.unusedVariables false
set_option linter.unusedSimpArgs false
set_option maxRecDepth 100000

theorem hmkN (m : Nat) (hm : m ≤ 1000000) : ∀ W : World, (Instr.makeSlice 39 (.int .i64 ((m : Int) + 1)) (.int .i64 ((m : Int) + 1))).run Try.prog W = .ok (.slice (some ⟨W.heap.size, 0, none⟩) (m + 1) (m + 1)) (W.alloc (.cells (cellsN (List.replicate (m + 1) 0)).toArray 3)) := by
  obtain ⟨i0, hi, hz0, hz1, hz2⟩ := info_parts int_info
  intro W
  have := run_make_rowN (P := Try.prog) 39 3 i0 _ Try.underlying39 hi hz0 .i64 .i64 (m + 1) (m + 1) (Nat.le_refl _) (by rw [hz2]; omega) (by omega) W
  rw [hz1] at this
  refine Eq.trans ?_ (this.trans ?_)
  · simp
  · congr 2
    congr 1
    have e : ∀ l : List Int, cellsN l = l.flatMap fun s => [Value.int .i64 s] := by
      intro l
      induction l with
      | nil => rfl
      | cons a l ih => simp [cellsN] at ih ⊢; exact ih
    rw [e]
    exact made_flat (fun s => [Value.int .i64 s]) 1 (by omega) (fun _ => rfl) 0 (m + 1)
theorem dotted_size (s : ByteArray) : (dotted s).size = s.size + 2 := by
  unfold dotted; rw [ByteArray.size_append, ByteArray.size_append]; show 1 + s.size + 1 = _; omega
theorem Blk.row {w w' : World} {g : Nat} {t : TypeId} {cs : Array Value} {rb : Nat} (h : Blk w g t cs) (hb : w.grownBy w' (some rb)) (hg : g ≠ rb) : Blk w' g t cs := h.grown hb (fun e => by injection e with e; exact hg e)
theorem Rd.row {w w' : World} {size n q : Nat} {A : Option Addr} {xs : List Value} (h : Rd w size A n xs) (hg : w.grownBy w' (some q)) (hq : ∀ b off, A = some ⟨b, off, none⟩ → 0 < n → b ≠ q) : Rd w' size A n xs :=
  ⟨h.1, fun hn => by
    obtain ⟨b, off, e, hb, hc⟩ := h.2 hn
    exact ⟨b, off, e, Nat.lt_of_lt_of_le hb hg.size, fun j u hu => (World.cell?_of_block (hg.block b hb (fun e2 => hq b off e hn (Option.some.inj e2)))).trans (hc j u hu)⟩⟩
theorem own_apartG {w : World} {base n g : Nat} {e : TypeId} {A : Option Addr} {c : Nat} {xs : List Value} (h : w.ownsRow base e 1 (.slice A n c) n xs) (hg : g < base) : ∀ b off, A = some ⟨b, off, none⟩ → 0 < n → b ≠ g := by
  intro b off hA _ hb
  have := (h.lt b (by rw [hA]; rfl)).1
  omega
theorem bump_yes {out : List Int} {p : Nat} {x y : Int} (hy : out[p]? = some y) {q : Int} (hq : q = (p : Int)) : bump out q x = out.set p (max y x) := by
  have hlt := (List.getElem?_eq_some_iff.1 hy).1
  subst hq
  unfold bump
  rw [if_pos ⟨by omega, by omega⟩, Int.toNat_natCast, List.getD_eq_getElem?_getD, hy]
  rfl
theorem bump_no {out : List Int} {q x : Int} (h : q < 0 ∨ (out.length : Int) ≤ q) : bump out q x = out := by
  unfold bump
  rw [if_neg (by omega)]
theorem layAt_yes {d t : ByteArray} {lv out : List Int} {a : Nat} (h : fits d t a = true) : layAt d t lv out (a + 1) = layK lv a (layAt d t lv out a) lv.length := by rw [layAt, if_pos h]
theorem layAt_no {d t : ByteArray} {lv out : List Int} {a : Nat} (h : fits d t a = false) : layAt d t lv out (a + 1) = layAt d t lv out a := by rw [layAt, if_neg (by rw [h]; exact Bool.false_ne_true)]
theorem toList_beq (x y : ByteArray) : (x.toList == y.toList) = (bl x == bl y) := by
  rw [Bool.eq_iff_iff]
  simp only [beq_iff_eq]
  constructor
  · intro h
    rw [Lib.toList_data, Lib.toList_data] at h
    unfold bl; rw [h]
  · intro h; rw [bl_inj h]
theorem replicate_9 (n : Nat) : In9 (List.replicate n 0) := by
  intro x hx
  have := List.eq_of_mem_replicate hx
  omega

set_option maxRecDepth 100000 in
set_option maxHeartbeats 2000000 in
theorem specLevels0 (s : ByteArray) (A : Option Addr) (n c : Nat) (l : List ByteArray) (w : World) (hn : n ≤ maxLen) (hl : l.length = n) (hz : ∀ s ∈ l, s.size ≤ maxLen) (h : Rd w 1 A n (cellsS l)) (hv : wordB s = true) (hp : pats20 l = true) :
    Calls Try.prog 86 #[.string s, .slice A n c] w (RowN (layL (dotted s) (List.replicate (s.size + 1) 0) l) w) := by
  have hs20 : s.size ≤ 20 := (wordB_true hv).2.2
  have hl' := hide hl
  have hz' := hide hz
  have hn20 : n ≤ 20 := by simp only [pats20, Bool.and_eq_true, decide_eq_true_eq] at hp; omega
  have hpb := hide (fun p (hpm : p ∈ l) => (List.all_eq_true.1 (by simp only [pats20, Bool.and_eq_true] at hp; exact hp.1) p hpm : patB p = true))
  have hmk := hmkN s.size (by omega)
  have hd1 : (⟨#[46]⟩ : ByteArray).size = 1 := rfl
  have hz1 : (⟨#[46]⟩ : ByteArray).size + s.size ≤ 9223372036854775807 := by omega
  have hz2 : ((⟨#[46]⟩ : ByteArray) ++ s).size + (⟨#[46]⟩ : ByteArray).size ≤ 9223372036854775807 := by rw [ByteArray.size_append]; omega
  have hww := hide (specWord s w (by unfold maxLen; omega))
  have hpp := hide (specPats A n c l w hn hl hz h)
  have hB0 := hide (Blk.new w 3 (cellsN (List.replicate (s.size + 1) 0)).toArray)
  have hblen := hide (fun k => layL_len (dotted s) (l.take k) (List.replicate (s.size + 1) 0))
  clear hl hz hn hd1
  go_enter Try.func86, Try.ntmps86
  go_wp2_with fail
  refine hww.out.mono ?_
  rintro e w' ⟨rfl, rfl⟩
  rw [hv]
  go_wp2_with fail
  refine hpp.out.mono ?_
  rintro e w' ⟨rfl, rfl⟩
  rw [hp]
  go_wp2
  have hDs := hide (dotted_size s)
  have hD : ((⟨#[46]⟩ : ByteArray) ++ s ++ (⟨#[46]⟩ : ByteArray)) = dotted s := rfl
  try rw [hD]
  clear hD
  generalize dotted s = D at *
  have hDb : D.size ≤ 22 := by have := hDs.out; omega
  clear hmk hz1 hz2
  go_loopw [7] (fun i wr => ∃ k : Nat, k ≤ n ∧ i = .int .i64 k ∧ Blk wr w.heap.size 3 (cellsN (layL D (List.replicate (s.size + 1) 0) (l.take k))).toArray ∧ Below w.heap.size w wr) (fun i _ => n - (intOf i).toNat)
  case atStart => exact ⟨0, Nat.zero_le _, rfl, hB0.out, by (repeat (first | exact Below.refl _ _ | assumption | refine Below.alloc ?_ (by first | assumption | omega | (simp; done) | (simp; omega)) _ | refine Below.setCell ?_ (by first | assumption | omega | (simp; done) | (simp; omega)) _ | refine below_drewN ?_ _ | refine Below.drew ?_))⟩
  case round =>
    obtain ⟨k, hk, rfl, hblk, hb⟩ := hrel
    have hblk' := hide hblk
    have hb' := hide hb
    have hbs := hb.size
    have hgl := hblk.lt
    by_cases hlt : k < n
    · obtain ⟨b, off, p, rfl, hbk, hx, c0⟩ := (h.below hb).str hl'.out hlt
      have hpm := hide (List.mem_of_getElem? hx)
      have hpb2 := hide (hpb.out p hpm.out)
      have hps : p.size ≤ 12 := (patB_true hpb2.out).2.2
      have hsn := hide (layL_snoc D (List.replicate (s.size + 1) 0) l k p hx)
      have hOl := hide (show (layL D (List.replicate (s.size + 1) 0) (l.take k)).length = s.size + 1 by rw [hblen.out k, List.length_replicate])
      have hO9 := hide (layL_9 (d := D) (l.take k) (replicate_9 (s.size + 1)))
      clear hx hb hblk
      generalize hOUT : layL D (List.replicate (s.size + 1) 0) (l.take k) = OUT at *
      clear hOUT
      go_wp2_with fail
      refine (specPatLetters p _ (by unfold maxLen; omega)).mono ?_
      rintro e w' ⟨rfl, rfl⟩
      go_wp2_with fail
      refine (specPatLevels p _ (by unfold maxLen; omega)).mono ?_
      rintro e w1 ⟨v, rfl, hrow, hb1⟩
      obtain ⟨A2, c2, rfl, _, hrd2⟩ := own_form hrow
      have hne2 := hide (own_apartG hrow hgl)
      have hm13 := patLv_bd p
      have hlv9 := hide (patLv_9 p)
      have hts := patS_bd p
      have hP := hide (show layP D p OUT = layAt D (patS p) (patLv p) OUT (D.size + 1 - (patS p).size) from rfl)
      have hblk1 := hide (hblk'.out.below' hb1)
      have hbe1 := hide (hb'.out.trans (hb1.mono hbs))
      have hrd2' := hide hrd2
      have hs1 := hbe1.out.size
      clear hrow hb1 hrd2
      generalize patS p = T at *
      generalize patLv p = lv at *
      obtain ⟨m, hm⟩ : ∃ m, lv.length = m := ⟨_, rfl⟩
      rw [hm] at hm13 hrd2' hne2
      have hm' := hide hm
      rw [hm]
      clear hm c0
      go_wp2
      go_loopw [10] (fun i wq => ∃ a : Nat, a ≤ D.size + 1 - T.size ∧ i = .int .i64 a ∧ Blk wq w.heap.size 3 (cellsN (layAt D T lv OUT a)).toArray ∧ w1.grownBy wq (some w.heap.size)) (fun i _ => D.size + 1 - (intOf i).toNat)
      case atStart => exact ⟨0, Nat.zero_le _, rfl, hblk1.out, only_refl _ _⟩
      case round =>
        obtain ⟨a, ha, rfl, hblk2, hg2⟩ := hrel
        have hblk2' := hide hblk2
        have hg2' := hide hg2
        have hO2l := hide ((layAt_len D T lv OUT a).trans hOl.out)
        have hO29 := hide (layAt_9 (d := D) (t := T) hlv9.out hO9.out a)
        clear hblk2 hg2
        by_cases hle : a + T.size ≤ D.size
        · have hi1 : (a : Int) + (T.size : Int) ≤ (D.size : Int) := by omega
          have hi2 : (0 : Int) ≤ (a : Int) + (T.size : Int) := by omega
          have hi3 : ((a : Int) + (T.size : Int)).toNat = a + T.size := by omega
          have hi4 : (a : Int) ≤ (a : Int) + (T.size : Int) := by omega
          cases hf : fits D T a with
          | false =>
            have hst := hide (layAt_no (lv := lv) (out := OUT) hf)
            have hn1 : (bl (D.extract a (a + T.size)) == bl T) = false := hf
            have hn2 : ((D.extract a (a + T.size)).toList == T.toList) = false := (toList_beq _ _).trans hn1
            clear hf hn1
            go_wp2
            go_roundw
            case rel => exact ⟨a + 1, by omega, by go_num, by rw [hst.out]; exact hblk2'.out, hg2'.out⟩
            case measure => simp [intOf]; omega
          | true =>
            have hst := hide (layAt_yes (lv := lv) (out := OUT) hf)
            have hn1 : (bl (D.extract a (a + T.size)) == bl T) = true := hf
            have hn2 : ((D.extract a (a + T.size)).toList == T.toList) = true := (toList_beq _ _).trans hn1
            clear hf hn1
            generalize layAt D T lv OUT a = OUT2 at *
            go_wp2
            go_loopw [11] (fun i wz => ∃ j : Nat, j ≤ m ∧ i = .int .i64 j ∧ Blk wz w.heap.size 3 (cellsN (layK lv a OUT2 j)).toArray ∧ w1.grownBy wz (some w.heap.size)) (fun i _ => m - (intOf i).toNat)
            case atStart => exact ⟨0, Nat.zero_le _, rfl, hblk2'.out, hg2'.out⟩
            case round =>
              obtain ⟨j, hj, rfl, hblk3, hg3⟩ := hrel
              have hblk3' := hide hblk3
              have hg3' := hide hg3
              have hO3l := hide ((layK_len lv a OUT2 j).trans hO2l.out)
              have hO39 := hide (layK_9 (a := a) hlv9.out hO29.out j)
              by_cases hjm : j < m
              · obtain ⟨b3, off3, x, rfl, hb3, hx3, c3⟩ := (hrd2'.out.row hg3 hne2.out).int hm'.out hjm
                have hx3' := hide hx3
                have hx9 := hlv9.out x (List.mem_of_getElem? hx3)
                have hks := hide (show layK lv a OUT2 (j + 1) = bump (layK lv a OUT2 j) ((a : Int) + j - 1) x by rw [layK, gD hx3])
                clear hx3 hblk3 hg3
                cases hin : inB ((a : Int) + (j : Int) - 1) 0 (s.size : Int) with
                | false =>
                  have hno := hide (show layK lv a OUT2 (j + 1) = layK lv a OUT2 j by rw [hks.out]; exact bump_no (by have := inB_false hin; have := hO3l.out; omega))
                  go_wp2_with (go_at_call 56; refine (l1In_any _ _ _ _).mono ?_; rintro e w' ⟨rfl, rfl⟩)
                  go_roundw
                  case rel => exact ⟨j + 1, by omega, by go_num, by rw [hno.out]; exact hblk3'.out, hg3'.out⟩
                  case measure => simp [intOf]; omega
                | true =>
                  have hpl := inB_true hin
                  obtain ⟨q, hq⟩ : ∃ q : Nat, (a : Int) + (j : Int) - 1 = (q : Int) := ⟨((a : Int) + (j : Int) - 1).toNat, by omega⟩
                  have hqs : q ≤ s.size := by omega
                  obtain ⟨y, hy⟩ : ∃ y, (layK lv a OUT2 j)[q]? = some y := ⟨_, List.getElem?_eq_getElem (by have := hO3l.out; omega)⟩
                  have hy9 := hO39.out y (List.mem_of_getElem? hy)
                  obtain ⟨d0, z0⟩ := hblk3'.out.intAt hy
                  have hyes := hide (show layK lv a OUT2 (j + 1) = (layK lv a OUT2 j).set q (max y x) by rw [hks.out]; exact bump_yes hy hq)
                  have hgl3 := hblk3'.out.lt
                  have hmx := hide (show max y x = (if y < x then x else y) by rw [Int.max_def]; split <;> split <;> omega)
                  have q1 : (0 : Int) ≤ (a : Int) + (j : Int) - 1 := by omega
                  have q2 : (1 : Int) ≤ (a : Int) + (j : Int) := by omega
                  have q3 : ((a : Int) + (j : Int) - 1).toNat = q := by omega
                  have q4 : (a : Int) + (j : Int) - 1 < (s.size : Int) + 1 := by omega
                  clear hq hy
                  go_wp2_with (go_at_call 56; refine (l1In_any _ _ _ _).mono ?_; rintro e w' ⟨rfl, rfl⟩)
                  go_still_tail 12, (by kernel_rfl)
                  go_wp2
                  go_roundw
                  case rel => exact ⟨j + 1, by omega, by go_num, by rw [hyes.out, hmx.out]; exact Blk.drew (Blk.setN (k := q) (if y < x then x else y) hblk3'.out), only_drew (only_setCell hg3'.out (.inl rfl) _)⟩
                  case measure => simp [intOf]; omega
              · obtain rfl : j = m := by omega
                clear hblk3 hg3
                go_wp2
                go_roundw
                case rel => exact ⟨a + 1, by omega, by go_num, by rw [hst.out, hm'.out]; exact hblk3'.out, hg3'.out⟩
                case measure => simp [intOf]; omega
        · have hae : a = D.size + 1 - T.size := by omega
          have hd9 : decide ((a : Int) + (T.size : Int) ≤ (D.size : Int)) = false := decide_eq_false (by omega)
          have hfin := hide (show layAt D T lv OUT a = layP D p OUT by rw [hP.out, hae])
          clear hae
          go_wp2
          go_roundw
          case rel => exact ⟨k + 1, by omega, by go_num, by rw [hsn.out, ← hfin.out]; exact hblk2'.out, Below.only hbe1.out hg2'.out hs1 (Nat.le_refl _)⟩
          case measure => simp [intOf]; omega
    · obtain rfl : n = k := by omega
      have hLL := hide (layL_len D l (List.replicate (s.size + 1) 0))
      have htk : l.take n = l := List.take_of_length_le (by have := hl'.out; omega)
      rw [htk] at hblk'
      clear hblk hb htk
      go_wp2
      unfold RowN
      go_ret
      have hlen2 := hLL.out
      rw [List.length_replicate] at hlen2
      rw [hlen2]
      exact ⟨_, rfl, own_whole1 hblk'.out (Nat.le_refl _) (by rw [len_cellsN, hlen2]) (by unfold maxLen; omega), hb'.out⟩
set_option maxRecDepth 100000 in
set_option maxHeartbeats 2000000 in
theorem implLevels0 (s : ByteArray) (A : Option Addr) (n c : Nat) (l : List ByteArray) (w : World) (hn : n ≤ maxLen) (hl : l.length = n) (hz : ∀ s ∈ l, s.size ≤ maxLen) (h : Rd w 1 A n (cellsS l)) (hv : wordB s = true) (hp : pats20 l = true) :
    Calls Try.prog 91 #[.string s, .slice A n c] w (RowN (layL (dotted s) (List.replicate (s.size + 1) 0) l) w) := by
  have hs20 : s.size ≤ 20 := (wordB_true hv).2.2
  have hl' := hide hl
  have hz' := hide hz
  have hn20 : n ≤ 20 := by simp only [pats20, Bool.and_eq_true, decide_eq_true_eq] at hp; omega
  have hpb := hide (fun p (hpm : p ∈ l) => (List.all_eq_true.1 (by simp only [pats20, Bool.and_eq_true] at hp; exact hp.1) p hpm : patB p = true))
  have hmk := hmkN s.size (by omega)
  have hd1 : (⟨#[46]⟩ : ByteArray).size = 1 := rfl
  have hz1 : (⟨#[46]⟩ : ByteArray).size + s.size ≤ 9223372036854775807 := by omega
  have hz2 : ((⟨#[46]⟩ : ByteArray) ++ s).size + (⟨#[46]⟩ : ByteArray).size ≤ 9223372036854775807 := by rw [ByteArray.size_append]; omega
  have hB0 := hide (Blk.new w 3 (cellsN (List.replicate (s.size + 1) 0)).toArray)
  have hblen := hide (fun k => layL_len (dotted s) (l.take k) (List.replicate (s.size + 1) 0))
  clear hl hz hn hd1
  go_enter Try.func91, Try.ntmps91
  go_wp2
  have hDs := hide (dotted_size s)
  have hD : ((⟨#[46]⟩ : ByteArray) ++ s ++ (⟨#[46]⟩ : ByteArray)) = dotted s := rfl
  try rw [hD]
  clear hD
  generalize dotted s = D at *
  have hDb : D.size ≤ 22 := by have := hDs.out; omega
  clear hmk hz1 hz2
  go_loopw [24] (fun i wr => ∃ k : Nat, k ≤ n ∧ i = .int .i64 k ∧ Blk wr w.heap.size 3 (cellsN (layL D (List.replicate (s.size + 1) 0) (l.take k))).toArray ∧ Below w.heap.size w wr) (fun i _ => n - (intOf i).toNat)
  case atStart => exact ⟨0, Nat.zero_le _, rfl, hB0.out, by (repeat (first | exact Below.refl _ _ | assumption | refine Below.alloc ?_ (by first | assumption | omega | (simp; done) | (simp; omega)) _ | refine Below.setCell ?_ (by first | assumption | omega | (simp; done) | (simp; omega)) _ | refine below_drewN ?_ _ | refine Below.drew ?_))⟩
  case round =>
    obtain ⟨k, hk, rfl, hblk, hb⟩ := hrel
    have hblk' := hide hblk
    have hb' := hide hb
    have hbs := hb.size
    have hgl := hblk.lt
    by_cases hlt : k < n
    · obtain ⟨b, off, p, rfl, hbk, hx, c0⟩ := (h.below hb).str hl'.out hlt
      have hpm := hide (List.mem_of_getElem? hx)
      have hpb2 := hide (hpb.out p hpm.out)
      have hps : p.size ≤ 12 := (patB_true hpb2.out).2.2
      have hsn := hide (layL_snoc D (List.replicate (s.size + 1) 0) l k p hx)
      have hOl := hide (show (layL D (List.replicate (s.size + 1) 0) (l.take k)).length = s.size + 1 by rw [hblen.out k, List.length_replicate])
      have hO9 := hide (layL_9 (d := D) (l.take k) (replicate_9 (s.size + 1)))
      clear hx hb hblk
      generalize hOUT : layL D (List.replicate (s.size + 1) 0) (l.take k) = OUT at *
      clear hOUT
      have hS := hide (patS_yes hpb2.out)
      have hLv := hide (patLv_yes hpb2.out)
      go_wp2_with fail
      refine (patParts p _ (by omega)).mono ?_
      rintro e w1 ⟨v, rfl, hrow, hb1⟩
      rw [← hLv.out] at hrow
      rw [← hS.out]
      obtain ⟨A2, c2, rfl, _, hrd2⟩ := own_form hrow
      have hne2 := hide (own_apartG hrow hgl)
      have hm13 := patLv_bd p
      have hlv9 := hide (patLv_9 p)
      have hts := patS_bd p
      have hP := hide (show layP D p OUT = layAt D (patS p) (patLv p) OUT (D.size + 1 - (patS p).size) from rfl)
      have hblk1 := hide (hblk'.out.below' hb1)
      have hbe1 := hide (hb'.out.trans (hb1.mono hbs))
      have hrd2' := hide hrd2
      have hs1 := hbe1.out.size
      clear hrow hb1 hrd2
      generalize patS p = T at *
      generalize patLv p = lv at *
      obtain ⟨m, hm⟩ : ∃ m, lv.length = m := ⟨_, rfl⟩
      rw [hm] at hm13 hrd2' hne2
      have hm' := hide hm
      rw [hm]
      clear hm c0
      go_wp2
      go_loopw [11] (fun i wq => ∃ a : Nat, a ≤ D.size + 1 - T.size ∧ i = .int .i64 a ∧ Blk wq w.heap.size 3 (cellsN (layAt D T lv OUT a)).toArray ∧ w1.grownBy wq (some w.heap.size)) (fun i _ => D.size + 1 - (intOf i).toNat)
      case atStart => exact ⟨0, Nat.zero_le _, rfl, hblk1.out, only_refl _ _⟩
      case round =>
        obtain ⟨a, ha, rfl, hblk2, hg2⟩ := hrel
        have hblk2' := hide hblk2
        have hg2' := hide hg2
        have hO2l := hide ((layAt_len D T lv OUT a).trans hOl.out)
        have hO29 := hide (layAt_9 (d := D) (t := T) hlv9.out hO9.out a)
        clear hblk2 hg2
        by_cases hle : a + T.size ≤ D.size
        · have hi1 : (a : Int) + (T.size : Int) ≤ (D.size : Int) := by omega
          have hi2 : (0 : Int) ≤ (a : Int) + (T.size : Int) := by omega
          have hi3 : ((a : Int) + (T.size : Int)).toNat = a + T.size := by omega
          have hi4 : (a : Int) ≤ (a : Int) + (T.size : Int) := by omega
          cases hf : fits D T a with
          | false =>
            have hst := hide (layAt_no (lv := lv) (out := OUT) hf)
            have hn1 : (bl (D.extract a (a + T.size)) == bl T) = false := hf
            have hn2 : ((D.extract a (a + T.size)).toList == T.toList) = false := (toList_beq _ _).trans hn1
            clear hf hn1
            go_wp2
            go_roundw
            case rel => exact ⟨a + 1, by omega, by go_num, by rw [hst.out]; exact hblk2'.out, hg2'.out⟩
            case measure => simp [intOf]; omega
          | true =>
            have hst := hide (layAt_yes (lv := lv) (out := OUT) hf)
            have hn1 : (bl (D.extract a (a + T.size)) == bl T) = true := hf
            have hn2 : ((D.extract a (a + T.size)).toList == T.toList) = true := (toList_beq _ _).trans hn1
            clear hf hn1
            generalize layAt D T lv OUT a = OUT2 at *
            go_wp2
            go_loopw [53] (fun i wz => ∃ j : Nat, j ≤ m ∧ i = .int .i64 j ∧ Blk wz w.heap.size 3 (cellsN (layK lv a OUT2 j)).toArray ∧ w1.grownBy wz (some w.heap.size)) (fun i _ => m - (intOf i).toNat)
            case atStart => exact ⟨0, Nat.zero_le _, rfl, hblk2'.out, hg2'.out⟩
            case round =>
              obtain ⟨j, hj, rfl, hblk3, hg3⟩ := hrel
              have hblk3' := hide hblk3
              have hg3' := hide hg3
              have hO3l := hide ((layK_len lv a OUT2 j).trans hO2l.out)
              have hO39 := hide (layK_9 (a := a) hlv9.out hO29.out j)
              by_cases hjm : j < m
              · obtain ⟨b3, off3, x, rfl, hb3, hx3, c3⟩ := (hrd2'.out.row hg3 hne2.out).int hm'.out hjm
                have hx3' := hide hx3
                have hx9 := hlv9.out x (List.mem_of_getElem? hx3)
                have hks := hide (show layK lv a OUT2 (j + 1) = bump (layK lv a OUT2 j) ((a : Int) + j - 1) x by rw [layK, gD hx3])
                clear hx3 hblk3 hg3
                cases hin : inB ((a : Int) + (j : Int) - 1) 0 (s.size : Int) with
                | false =>
                  have hno := hide (show layK lv a OUT2 (j + 1) = layK lv a OUT2 j by rw [hks.out]; exact bump_no (by have := inB_false hin; have := hO3l.out; omega))
                  go_wp2_with (go_at_call 55; refine (in_any _ _ _ _).mono ?_; rintro e w' ⟨rfl, rfl⟩)
                  go_roundw
                  case rel => exact ⟨j + 1, by omega, by go_num, by rw [hno.out]; exact hblk3'.out, hg3'.out⟩
                  case measure => simp [intOf]; omega
                | true =>
                  have hpl := inB_true hin
                  obtain ⟨q, hq⟩ : ∃ q : Nat, (a : Int) + (j : Int) - 1 = (q : Int) := ⟨((a : Int) + (j : Int) - 1).toNat, by omega⟩
                  have hqs : q ≤ s.size := by omega
                  obtain ⟨y, hy⟩ : ∃ y, (layK lv a OUT2 j)[q]? = some y := ⟨_, List.getElem?_eq_getElem (by have := hO3l.out; omega)⟩
                  have hy9 := hO39.out y (List.mem_of_getElem? hy)
                  obtain ⟨d0, z0⟩ := hblk3'.out.intAt hy
                  have hyes := hide (show layK lv a OUT2 (j + 1) = (layK lv a OUT2 j).set q (max y x) by rw [hks.out]; exact bump_yes hy hq)
                  have hgl3 := hblk3'.out.lt
                  have hmx := hide (show max y x = (if y < x then x else y) by rw [Int.max_def]; split <;> split <;> omega)
                  have q1 : (0 : Int) ≤ (a : Int) + (j : Int) - 1 := by omega
                  have q2 : (1 : Int) ≤ (a : Int) + (j : Int) := by omega
                  have q3 : ((a : Int) + (j : Int) - 1).toNat = q := by omega
                  have q4 : (a : Int) + (j : Int) - 1 < (s.size : Int) + 1 := by omega
                  clear hq hy
                  go_wp2_with (go_at_call 55; refine (in_any _ _ _ _).mono ?_; rintro e w' ⟨rfl, rfl⟩)
                  go_roundw
                  case rel => exact ⟨j + 1, by omega, by go_num, by rw [hyes.out, hmx.out]; exact Blk.setN (k := q) (if y < x then x else y) hblk3'.out, only_setCell hg3'.out (.inl rfl) _⟩
                  case measure => simp [intOf]; omega
              · obtain rfl : j = m := by omega
                clear hblk3 hg3
                go_wp2
                go_roundw
                case rel => exact ⟨a + 1, by omega, by go_num, by rw [hst.out, hm'.out]; exact hblk3'.out, hg3'.out⟩
                case measure => simp [intOf]; omega
        · have hae : a = D.size + 1 - T.size := by omega
          have hd9 : decide ((a : Int) + (T.size : Int) ≤ (D.size : Int)) = false := decide_eq_false (by omega)
          have hfin := hide (show layAt D T lv OUT a = layP D p OUT by rw [hP.out, hae])
          clear hae
          go_wp2
          go_roundw
          case rel => exact ⟨k + 1, by omega, by go_num, by rw [hsn.out, ← hfin.out]; exact hblk2'.out, Below.only hbe1.out hg2'.out hs1 (Nat.le_refl _)⟩
          case measure => simp [intOf]; omega
    · obtain rfl : n = k := by omega
      have hLL := hide (layL_len D l (List.replicate (s.size + 1) 0))
      have htk : l.take n = l := List.take_of_length_le (by have := hl'.out; omega)
      rw [htk] at hblk'
      clear hblk hb htk
      go_wp2
      unfold RowN
      go_ret
      have hlen2 := hLL.out
      rw [List.length_replicate] at hlen2
      rw [hlen2]
      exact ⟨_, rfl, own_whole1 hblk'.out (Nat.le_refl _) (by rw [len_cellsN, hlen2]) (by unfold maxLen; omega), hb'.out⟩
end Go.Proofs.Ytfhhfibjjpiccaa
