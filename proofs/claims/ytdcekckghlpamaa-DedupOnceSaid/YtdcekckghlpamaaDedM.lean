/-
  Dedup, the law on Has and Count: its walk. No condition.
-/
import Derived.Test.YtdcekckghlpamaaDedL
import Derived.BigQuiet
import Derived.StillTailTactics
import Derived.Lib.Overlaps
import Derived.Deep.DeepCutAuto
set_option maxRecDepth 100000
set_option linter.unusedVariables false
set_option linter.unusedSimpArgs false
namespace Go.Proofs.Ytdcekckghlpamaa
open Go.RowKit

namespace Dd

theorem light_can {xs : List Rng} (h : lightB xs = true) : Can xs ∧ xs.length ≤ 100 := by
  simp only [lightB, Bool.and_eq_true, decide_eq_true_eq] at h
  exact ⟨(canon_iff xs).1 h.2, h.1⟩

theorem has_law (A : Option Addr) (n c : Nat) (xs : List Rng) (src ser : Int) (w : World) (h : Sl w A n c xs) :
    Calls Try.prog 3 #[.slice A n c, .int .i64 src, .int .i64 ser] w fun e w' => e = .returned (.bool true) ∧ Below w.heap.size w w' := by
  have HLEN := Lib.hid h.len
  have H := Lib.hid h
  clear h
  by_cases hl : lightB xs = true
  · have LC := Lib.hid (light_can hl)
    have hn100 : n ≤ 100 := by have := LC.out.2; have := HLEN.out; omega
    go_enter Try.func3, Try.ntmps3
    go_wp2_with fail
    refine (light_any A n c xs _ H.out).mono ?_
    rintro e w1 ⟨rfl, hb1⟩
    have H1 := Lib.hid (H.out.below hb1)
    go_wp2_with fail
    refine (has_any A n c xs src ser _ H1.out LC.out.1 (by omega)).mono ?_
    rintro e w2 ⟨rfl, hb2⟩
    have H2 := Lib.hid (H1.out.below hb2)
    go_wp2_with fail
    refine (refhas_any A n c xs src ser _ H2.out).mono ?_
    rintro e w3 ⟨rfl, hb3⟩
    have H3 := Lib.hid (H2.out.below hb3)
    go_wp2_with fail
    refine (count_any A n c xs _ H3.out LC.out.1.bd (by omega)).mono ?_
    rintro e w4 ⟨rfl, hb4⟩
    have H4 := Lib.hid (H3.out.below hb4)
    go_wp2_with fail
    refine (refcount_any A n c xs _ H4.out LC.out.1.bd (by omega)).mono ?_
    rintro e w5 ⟨rfl, hb5⟩
    have hz1 := hb1.size
    have hz2 := hb2.size
    have hz3 := hb3.size
    have hz4 := hb4.size
    have hz5 := hb5.size
    go_wp2_with fail
    refine (awake_any _).mono ?_
    rintro e w6 ⟨rfl, hb6⟩
    have hbb := ((((hb1.trans (hb2.mono (by omega))).trans (hb3.mono (by omega))).trans (hb4.mono (by omega))).trans (hb5.mono (by omega))).trans (hb6.mono (by omega))
    go_wp2_with fail
    go_ret
    exact ⟨rfl, hbb⟩
  · have hl' : lightB xs = false := by simpa using hl
    clear hl
    go_enter Try.func3, Try.ntmps3
    go_wp2_with fail
    refine (light_any A n c xs _ H.out).mono ?_
    rintro e w1 ⟨rfl, hb1⟩
    have hz1 := hb1.size
    go_wp2_with fail
    refine (awake_any _).mono ?_
    rintro e w2 ⟨rfl, hb2⟩
    have hbb := hb1.trans (hb2.mono (by omega))
    go_wp2_with fail
    go_ret
    exact ⟨rfl, hbb⟩

end Dd
end Go.Proofs.Ytdcekckghlpamaa
