/-
  An expression as an argument, opened. No condition.
-/
import Derived.Test.YtdnnnajohdohaaaLawT
import Derived.Test.YtdnnnajohdohaaaExC
set_option maxRecDepth 100000
set_option linter.unusedVariables false
set_option linter.unusedSimpArgs false
namespace Go.Proofs.Ytdnnnajohdohaaa
open Go.ChangeShapes Go.WideShapes Go.ChangeAt Go.RowKit
namespace Xp
section
variable {H : Type} {enc : TypeId × Value → H} {w : World} {base : Nat} {spare : Nat → Bool} {held : Bool}

theorem exs_of {w : World} : ∀ (xs : List It), (∀ x ∈ xs, ∃ e, Rp w e x) → ∃ args : List Ex, xs.length = args.length ∧ ∀ (i : Nat) (x : It) (e : Ex), xs[i]? = some x → args[i]? = some e → Rp w e x
  | [], _ => ⟨[], rfl, fun i x e h => by simp at h⟩
  | x :: xs, h => by
    obtain ⟨e, he⟩ := h x (by simp)
    obtain ⟨args, hl, hc⟩ := exs_of xs (fun y hy => h y (by simp [hy]))
    refine ⟨e :: args, by simp [hl], fun i y a h1 h2 => ?_⟩
    cases i with
    | zero => cases h1; cases h2; exact he
    | succ i => exact hc i y a (by simpa using h1) (by simpa using h2)
theorem list4 {cs : List Value} {a b c d : Value} (hl : cs.length = 4) (h0 : cs[0]? = some a) (h1 : cs[1]? = some b) (h2 : cs[2]? = some c) (h3 : cs[3]? = some d) : cs = [a, b, c, d] := by
  match cs, hl with
  | [_, _, _, _], _ => cases h0; cases h1; cases h2; cases h3; rfl
theorem ex_read : ∀ (fuel n : Nat), n < fuel → ∀ (cs : List Value) (y : DataW H × List MemPlace), cs.length = 4 → DataW.trod enc Try.prog w base spare held n 60 cs = some y → ∃ x : It, cs = Flat.cells x ∧ ∃ e, Rp w e x
  | 0, n, hn, _, _, _, _ => absurd hn (by omega)
  | fuel + 1, n, hn, cs, y, hl, h => by
    obtain ⟨i0, h0, _⟩ := field_int Try.underlying60 (by kernel_rfl) h (i := 0) rfl (by omega) Try.underlying3
    obtain ⟨i1, h1, _⟩ := field_int Try.underlying60 (by kernel_rfl) h (i := 1) rfl (by omega) Try.underlying3
    obtain ⟨s2, h2, _⟩ := field_str Try.underlying60 (by kernel_rfl) h (i := 2) rfl (by omega) Try.underlying9
    obtain ⟨v, m, z, rfl, h3, ht⟩ := field_cellF Try.underlying60 (by kernel_rfl) h (i := 3) rfl (by omega)
    obtain ⟨A, k, c, xs, rfl, hnil, hsl, hK⟩ := open_items (α := It) (fun x => ∃ e, Rp w e x) Try.underlying58 (by kernel_rfl) (fun n' cs' y' hn' hl' ht' => ex_read fuel n' (by omega) cs' y' hl' ht') ht
    obtain ⟨args, hal, hc⟩ := exs_of xs hK
    exact ⟨⟨i0, i1, s2, A, k, c⟩, list4 hl h0 h1 h2 h3, .mk i0 i1 s2 args, .mk i0 i1 s2 args A k c xs hsl hal hnil hc⟩
theorem open_ex {v : Value} {d : DataW H} {p : List MemPlace} {r : Reach} {b0 : Nat} (hv : Value.okWide Try.prog w r b0 60 v) (h : DataW.Trod enc Try.prog w base spare held 60 v d p) : ∃ (e : Ex) (x : It), v = x.val ∧ Rp w e x := by
  obtain ⟨cs, rfl, hsz⟩ := okWide_struct Try.underlying60 hv
  obtain ⟨fuel, hf⟩ := h
  obtain ⟨x, hx, e, he⟩ := ex_read (fuel + 1) fuel (by omega) cs.toList _ (by rw [Array.length_toList, hsz]; kernel_rfl) (by simpa [Value.cells] using hf)
  refine ⟨e, x, ?_, he⟩
  unfold It.val
  congr 1
  exact Array.toList_inj.1 hx
end
end Xp
end Go.Proofs.Ytdnnnajohdohaaa
