/- The walks through the letters and the levels of a pattern. No condition but the model's own bound on a text's length. -/
import Derived.Test.YtfhhfibjjpiccaaPatV
import Derived.Test.YtfhhfibjjpiccaaExN
import Derived.Deep.AppendLies
namespace Go.Proofs.Ytfhhfibjjpiccaa
open Go.RowKit
set_option linter.unusedVariables false
set_option linter.unusedSimpArgs false
set_option maxRecDepth 100000

theorem own_whole1 {w : World} {g n base : Nat} {e : TypeId} {xs : List Value} (h : Blk w g e xs.toArray) (hb : base ≤ g) (hl : xs.length = n * 1) (hn : n ≤ maxLen) : w.ownsRow base e 1 (.slice (some ⟨g, 0, none⟩) n n) n xs :=
  ⟨hl, .inr ⟨g, n, xs.toArray, rfl, hb, h, Nat.le_refl _, hn, by simp [hl], by simp [← hl]⟩⟩
theorem own_emptyN {w : World} {t : TypeId} {base g : Nat} (h : Blk w g t #[]) (hg : base ≤ g) : w.ownsRow base t 1 (.slice (some ⟨g, 0, none⟩) 0 0) 0 [] :=
  ⟨rfl, .inr ⟨g, 0, #[], rfl, hg, h, Nat.le_refl _, by simp [maxLen], rfl, rfl⟩⟩
def RowN (R : List Int) (w : World) (e : Ending) (w' : World) : Prop := ∃ v, e = .returned v ∧ w'.ownsRow w.heap.size 3 1 v R.length (cellsN R) ∧ Below w.heap.size w w'
def PartsP (p : ByteArray) (w : World) (e : Ending) (w' : World) : Prop := ∃ v, e = .returned (.tuple #[.string (patTo p p.size), v]) ∧ w'.ownsRow w.heap.size 3 1 v (lvAll (bl p) p.size).length (cellsN (lvAll (bl p) p.size)) ∧ Below w.heap.size w w'
theorem lvAll_set {l : List Int} {k : Nat} (h : isDg (l.getD k 0) = true) : lvAll l (k + 1) = (lvAll l k).set ((lvAll l k).length - 1) (l.getD k 0 - 48) := by
  rw [lvAll_dg h]
  unfold lvAll
  rw [List.length_append, List.length_singleton, Nat.add_sub_cancel, List.set_append, if_neg (by omega), Nat.sub_self]
  rfl
theorem lvAll_pos (l : List Int) (k : Nat) : 0 < (lvAll l k).length := by simp [lvAll]
theorem lvAll_le {l : List Int} (k : Nat) (hk : k ≤ l.length) : (lvAll l k).length ≤ k + 1 := by
  rw [lvAll_len l k hk]
  have := List.length_filter_le (fun c => !isDg c) (l.take k)
  have := List.length_take_le k l
  omega
theorem patTo_dg {p : ByteArray} {k : Nat} (h : isDg ((bl p).getD k 0) = true) : patTo p (k + 1) = patTo p k := by rw [patTo, if_pos h]
theorem patTo_no {p : ByteArray} {k : Nat} (h : isDg ((bl p).getD k 0) = false) : patTo p (k + 1) = patTo p k ++ p.extract k (k + 1) := by rw [patTo, if_neg (by rw [h]; exact Bool.false_ne_true)]
theorem last_at {L : List Int} (h : 0 < L.length) : L[L.length - 1]? = some (L.getD (L.length - 1) 0) := by
  rw [List.getD_eq_getElem?_getD, List.getElem?_eq_getElem (by omega)]; rfl

set_option maxHeartbeats 1000000 in
theorem patParts (p : ByteArray) (w : World) (hp : p.size ≤ 1000000) :
    Calls Try.prog 92 #[.string p] w (PartsP p w) := by
  obtain ⟨i0, hi, hz0, hz1, hz2⟩ := info_parts int_info
  have hst0 := hide (own_whole1 (n := 1) (base := w.heap.size) (Blk.new w 3 (cellsN [0]).toArray) (Nat.le_refl _) rfl (by simp [maxLen]))
  go_enter Try.func92, Try.ntmps92
  go_wp2
  go_loopw [4, 5, 10] (fun q v i wr => ∃ (k : Nat) (o : ByteArray), k ≤ p.size ∧ i = .int .i64 k ∧ q = .string o ∧ o.size ≤ k ∧ Hid (o = patTo p k) ∧ wr.ownsRow w.heap.size 3 1 v (lvAll (bl p) k).length (cellsN (lvAll (bl p) k)) ∧ Below w.heap.size w wr) (fun _ _ i _ => p.size - (intOf i).toNat)
  case atStart => exact ⟨0, ByteArray.empty, Nat.zero_le _, rfl, rfl, by simp, rfl, hst0.out, by (repeat (first | exact Below.refl _ _ | assumption | refine Below.alloc ?_ (by first | assumption | omega | (simp; done) | (simp; omega)) _ | refine Below.setCell ?_ (by first | assumption | omega | (simp; done) | (simp; omega)) _ | refine below_drewN ?_ _ | refine Below.drew ?_))⟩
  case round =>
    obtain ⟨k, o, hk, rfl, rfl, hos, ho, hown, hb⟩ := hrel
    have hlen := hide (lvAll_le (l := bl p) k (by rw [bl_len]; exact hk))
    have hpos := hide (lvAll_pos (bl p) k)
    obtain ⟨g, cap, rfl, hg1, hg2⟩ := hown.form hpos.out
    have hown' := hide hown
    have hb' := hide hb
    have hbs := hb.size
    clear hb
    by_cases hlt : k < p.size
    · have hgd := hide (bl_getD p k hlt)
      cases hv : isDg ((p[k].toNat : Nat) : Int) with
      | true =>
        have hbd := isDg_bd hv
        have e1 := hide (lvAll_set (l := bl p) (k := k) (by rw [hgd.out]; exact hv))
        have e2 := hide (patTo_dg (p := p) (k := k) (by rw [hgd.out]; exact hv))
        obtain ⟨c0, z0⟩ := own_intAt hown rfl (last_at hpos.out)
        clear hown
        obtain ⟨m, hm⟩ : ∃ m, (lvAll (bl p) k).length = m + 1 := ⟨(lvAll (bl p) k).length - 1, by have := hpos.out; omega⟩
        have hm' := hide hm
        rw [hm, Nat.add_sub_cancel] at c0 z0
        have hm1 : m ≤ k := by have := hlen.out; omega
        rw [hm]
        clear hm
        go_wp2_with (go_at_call 87; refine (isDigit_any _ _).mono ?_; rintro e w' ⟨rfl, rfl⟩)
        go_roundw
        case rel =>
          refine ⟨k + 1, o, by omega, by go_num, rfl, by omega, by show _ = _; rw [e2.out, ho.out], ?_, hb'.out.setCell hg1 _⟩
          have q := own_setN (j := m) (((p[k].toNat : Nat) : Int) - 48) hown'.out
          rw [hm'.out] at q
          rw [e1.out, List.length_set, hm'.out, Nat.add_sub_cancel, hgd.out]
          exact q
        case measure => simp [intOf]; omega
      | false =>
        have e1 := hide (lvAll_no (l := bl p) (k := k) (by rw [hgd.out]; exact hv))
        have e2 := hide (patTo_no (p := p) (k := k) (by rw [hgd.out]; exact hv))
        have hxs : (p.extract k (k + 1)).size = 1 := by rw [size_extract _ _ _ (by omega)]; omega
        have hz : o.size + (p.extract k (k + 1)).size ≤ 9223372036854775807 := by omega
        have hxs' := hide hxs
        have hn60 : (lvAll (bl p) k).length ≤ 1000001 := by have := hlen.out; omega
        clear hown hxs
        go_wp2_with (first | (go_at_call 87; refine (isDigit_any _ _).mono ?_; rintro e w' ⟨rfl, rfl⟩) | (at_builtin; refine wpList_append_lies _ rfl _ _ 39 rfl w.heap.size 3 i0 (.int .i64 0) 1 8 Try.underlying39 hi hz0 hz1 hz2 rfl (by decide) _ _ _ rfl (hown'.out.alloc _) ⟨wr.heap.size, 0, none⟩ 1 1 [.int .i64 0] rfl rfl (fun j u hj => cell_one_at (by simp) hj) (one_cells _) (by omega) (by unfold maxLen; omega) (by omega) (by simp; omega) _ rfl ?_))
        intro g3 cap3 w3 hown3 hg3 hat3 hlt3
        have hrow := hide hown3
        have hbe := hide ((hb'.out.alloc hbs _).grown hg3 (by simp; omega) (fun kk hkk => (hown'.out.lt kk hkk).1))
        clear hown3 hg3 hat3 hlt3
        go_wp2
        go_roundw
        case rel =>
          refine ⟨k + 1, _, by omega, by go_num, rfl, by rw [ByteArray.size_append, hxs'.out]; omega, by show _ = _; rw [e2.out, ho.out], ?_, hbe.out⟩
          have q := hrow.out
          rw [e1.out, List.length_append, List.length_singleton]
          simpa [cellsN] using q
        case measure => simp [intOf]; omega
    · obtain rfl : k = p.size := by omega
      have ho' := hide ho.out
      clear hown
      go_wp2
      unfold PartsP
      go_ret2
      exact ⟨_, by rw [← ho'.out]; rfl, hown'.out, hb'.out⟩
end Go.Proofs.Ytfhhfibjjpiccaa
