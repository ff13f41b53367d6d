/- The walk through the exact law of a word's width. No condition. -/
import Derived.Test.YtgcbibabmfncmaaArgs
import Derived.Test.YtgcbibabmfncmaaWidth
namespace Go.Proofs.Ytgcbibabmfncmaa
open Go.RowKit
set_option linter.unusedVariables false
set_option linter.unusedSimpArgs false
theorem walkFnExactWordWidth (a0 : ByteArray) (w : World) (w0 : a0.size ≤ maxLen) :
    Calls Try.prog 8 #[.string a0] w fun e w' => e = .returned (.bool true) ∧ Below w.heap.size w w' := by
  by_cases hn : 1048576 < a0.size
  · have hd : decide (1048576 < (a0.size : Int)) = true := by simp; omega
    clear w0 hn
    go_enter Try.func8, Try.ntmps8
    go_wp2
    go_ret
    exact ⟨rfl, Below.refl _ _⟩
  · have hd : decide (1048576 < (a0.size : Int)) = false := by simp; omega
    go_enter Try.func8, Try.ntmps8
    go_wp2_with fail
    refine (specWidth a0 _ w0).mono ?_
    rintro e w1 ⟨rfl, hb1⟩
    have hb1' := hide hb1
    have hs1 := hb1.size
    clear hb1
    go_wp2_with fail
    refine (implWidth a0 _ w0).mono ?_
    rintro e w2 ⟨rfl, hb2⟩
    have hb2' := hide (hb1'.out.trans (hb2.mono hs1))
    clear hb2
    go_wp2
    go_ret
    exact ⟨rfl, hb2'.out⟩
end Go.Proofs.Ytgcbibabmfncmaa
