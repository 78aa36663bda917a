/-
  Dedup, the law on Check: its walk. No condition.
-/
import Derived.Test.YtdcekckghlpamaaDedK
import Derived.Test.YtdcekckghlpamaaLaw
import Derived.BigQuiet
import Derived.StillTailTactics
import Derived.Lib.Overlaps
import Derived.Deep.DeepCutAuto
set_option maxRecDepth 100000
set_option linter.unusedVariables false
set_option linter.unusedSimpArgs false
namespace Go.Proofs.Ytdcekckghlpamaa
open Go.RowKit

namespace Dd

theorem rng_read {H : Type} {enc : TypeId × Value → H} {w : World} {base : Nat} {spare : Nat → Bool} {held : Bool} (n : Nat) (cs : List Value) (y : DataW H × List MemPlace) (hl : cs.length = Flat.sz Rng)
    (h : DataW.trod enc Try.prog w base spare held n 30 cs = some y) : ∃ x : Rng, cs = Flat.cells x := by
  have hS : Try.prog.underlying 30 = some (.struct (Try.prog.fieldsOf 30)) := by kernel_rfl
  have hone : Go.Deep.oneCellFields Try.prog (Try.prog.fieldsOf 30) = true := by kernel_rfl
  have h3 : cs.length = 3 := hl
  obtain ⟨f0, hf0, hk0⟩ : ∃ f, (Try.prog.fieldsOf 30)[0]? = some f ∧ Try.prog.underlying f.type = some (.int .i64) := ⟨_, rfl, by kernel_rfl⟩
  obtain ⟨f1, hf1, hk1⟩ : ∃ f, (Try.prog.fieldsOf 30)[1]? = some f ∧ Try.prog.underlying f.type = some (.int .i64) := ⟨_, rfl, by kernel_rfl⟩
  obtain ⟨f2, hf2, hk2⟩ : ∃ f, (Try.prog.fieldsOf 30)[2]? = some f ∧ Try.prog.underlying f.type = some (.int .i64) := ⟨_, rfl, by kernel_rfl⟩
  obtain ⟨a, ha, _⟩ := field_int hS hone h hf0 (by omega) hk0
  obtain ⟨b, hb, _⟩ := field_int hS hone h hf1 (by omega) hk1
  obtain ⟨c, hc, _⟩ := field_int hS hone h hf2 (by omega) hk2
  match cs, h3 with
  | [u, v, w], _ =>
    simp at ha hb hc
    exact ⟨⟨a, b, c⟩, by rw [ha, hb, hc]; rfl⟩

theorem checks_any (A : Option Addr) (n c : Nat) (xs : List Rng) (w : World) (h : Sl w A n c xs) :
    Calls Try.prog 5 #[.slice A n c] w fun e w' => e = .returned (.bool true) ∧ Below w.heap.size w w' := by
  have hn := h.nmax
  have H := Lib.hid h
  clear h
  by_cases h1 : 200 < n
  · have f1 : decide ((n : Int) > 200) = true := by simp; omega
    have f2 : decide (200 < (n : Int)) = true := by simp; omega
    go_enter Try.func5, Try.ntmps5
    go_wp2_with (go_at_call 11; go_must (
      refine (awake_any _).mono ?_
      rintro e w1 ⟨rfl, hb1⟩))
    go_ret
    exact ⟨rfl, hb1⟩
  · have f1 : decide ((n : Int) > 200) = false := by simp; omega
    have f2 : decide (200 < (n : Int)) = false := by simp; omega
    go_enter Try.func5, Try.ntmps5
    go_wp2_with fail
    refine (check_any A n c xs _ H.out).mono ?_
    rintro e w1 ⟨rfl, hb1⟩
    have H1 := Lib.hid (H.out.below hb1)
    go_wp2_with fail
    refine (refcheck_any A n c xs _ H1.out).mono ?_
    rintro e w2 ⟨rfl, hb2⟩
    have hz1 := hb1.size
    go_wp2_with fail
    refine (awake_any _).mono ?_
    rintro e w3 ⟨rfl, hb3⟩
    have hz2 := hb2.size
    have hbb := (hb1.trans (hb2.mono hz1)).trans (hb3.mono (by omega))
    go_wp2_with fail
    go_ret
    exact ⟨rfl, hbb⟩

end Dd
end Go.Proofs.Ytdcekckghlpamaa
