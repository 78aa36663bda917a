/-
  Expressions: operands, within, attribute, combined. No condition.
-/
import Derived.Test.YtdnnnajohdohaaaRows
import Derived.Test.YtdnnnajohdohaaaExA
import Derived.Test.YtdnnnajohdohaaaComB
import Derived.BigQuiet
import Derived.StillTailTactics
import Derived.Lib.Overlaps
import Derived.Deep.DeepCutAuto
set_option maxRecDepth 100000
set_option linter.unusedVariables false
set_option linter.unusedSimpArgs false
namespace Go.Proofs.Ytdnnnajohdohaaa
open Go.RowKit

namespace Xp

theorem operands_any (op : Int) (w : World) : Calls Try.prog 83 #[.int .i64 op] w fun e w' => e = .returned (.int .i64 (arity op)) ∧ w = w' := by
  go_enter Try.func83, Try.ntmps83
  go_wp2
  all_goals (go_ret; refine ⟨ret_int ?_, rfl⟩; unfold arity; (repeat' split) <;> simp_all <;> omega)

instance : Flat Int where
  sz := 1
  cells c := [.int .i64 c]
  len _ := rfl
  one _ := by simp [Value.oneCell']
  pos := by decide
theorem Sl.one {α : Type} [Flat α] (h1 : Flat.sz α = 1) {w : World} {A : Option Addr} {n c : Nat} {xs : List α} (h : Sl w A n c xs) (hn : 0 < n) : ∃ b off, A = some ⟨b, off, none⟩ ∧ b < w.heap.size ∧
    ∀ (i : Nat) (x : α) (v : Value), xs[i]? = some x → (Flat.cells x)[0]? = some v → w.cell? ⟨b, off + i, none⟩ = some v := by
  obtain ⟨b, off, e, hb, hc⟩ := h.base hn
  refine ⟨b, off, e, hb, fun i x v hx hv => ?_⟩
  have := hc i x hx 0 v hv
  rw [h1, Nat.mul_one] at this
  exact this
def inB (most n : Int) : Bool := decide (0 ≤ n) && decide (n ≤ most)
set_option maxHeartbeats 400000 in
theorem within_any (most : Int) (A : Option Addr) (n c : Nat) (xs : List Int) (w : World) (h : Sl w A n c xs) :
    Calls Try.prog 36 #[.int .i64 most, .slice A n c] w fun e w' => e = .returned (.bool (xs.all (inB most))) ∧ w = w' := by
  have hn := h.nmax
  have H := Lib.hid h
  clear h
  go_enter Try.func36, Try.ntmps36
  go_wp2_with fail
  go_loop [9] (fun i => ∃ k : Nat, k ≤ n ∧ i = .int .i64 k ∧ (xs.take k).all (inB most) = true) (fun i => n - (intOf i).toNat)
  case atStart => exact ⟨0, Nat.zero_le _, rfl, by simp⟩
  case round =>
    obtain ⟨k, hk, rfl, ha⟩ := hrel
    have HA := Lib.hid ha
    clear ha
    by_cases hlt : k < n
    · obtain ⟨b, off, rfl, hbw, hc⟩ := Sl.one rfl H.out (by omega)
      obtain ⟨x, hx⟩ := H.out.get hlt
      have c0 : w.cell? ⟨b, off + k, none⟩ = some (.int .i64 x) := hc k x _ hx rfl
      have HX := Lib.hid hx
      clear hx hc
      go_wp2_with fail
      all_goals first
        | (go_ret
           refine ⟨ret_bool ?_, rfl⟩
           rw [eq_comm, List.all_eq_false]
           exact ⟨x, List.mem_of_getElem? HX.out, by simp [inB]; omega⟩)
        | (go_round
           case rel =>
             refine ⟨k + 1, by omega, by go_num, ?_⟩
             rw [List.take_add_one, HX.out, List.all_append, HA.out]
             simp [inB]; omega
           case measure => simp [intOf]; omega)
    · obtain rfl : n = k := by omega
      have ha := HA.out
      rw [List.take_of_length_le (by rw [H.out.len]; exact Nat.le_refl _)] at ha
      have HA2 := Lib.hid ha
      clear ha
      go_wp2_with fail
      go_ret
      exact ⟨ret_bool HA2.out.symm, rfl⟩

theorem attr_cases (t : ByteArray) : (t = nKind ∨ t = nUnits ∨ t = nWeekday ∨ t = nMinute ∨ t = nTotal ∨ t = nSpent ∨ t = nZone ∨ t = nBand ∨ t = nFamily) ∨
    (t ≠ nKind ∧ t ≠ nUnits ∧ t ≠ nWeekday ∧ t ≠ nMinute ∧ t ≠ nTotal ∧ t ≠ nSpent ∧ t ≠ nZone ∧ t ≠ nBand ∧ t ≠ nFamily) := by
  by_cases h : (t = nKind ∨ t = nUnits ∨ t = nWeekday ∨ t = nMinute ∨ t = nTotal ∨ t = nSpent ∨ t = nZone ∨ t = nBand ∨ t = nFamily)
  · exact .inl h
  · exact .inr (by simpa [not_or] using h)
theorem ne_list {t : ByteArray} {l : List UInt8} {u : ByteArray} (h : t ≠ u) (hu : u = ⟨l.toArray⟩) : (t.toList == l) = false := by
  rw [beq_eq_false_iff_ne]
  intro e
  apply h
  rw [Lib.toList_data] at e
  rw [hu, ← e]
set_option maxHeartbeats 1000000 in
theorem attribute_any (t : ByteArray) (w : World) : Calls Try.prog 84 #[.string t] w fun e w' => e = .returned (.int .i64 (attrSort t)) ∧ w = w' := by
  rcases attr_cases t with h | ⟨h1, h2, h3, h4, h5, h6, h7, h8, h9⟩
  · rcases h with rfl | rfl | rfl | rfl | rfl | rfl | rfl | rfl | rfl
    all_goals
      go_enter Try.func84, Try.ntmps84
      simp only [nKind, nUnits, nWeekday, nMinute, nTotal, nSpent, nZone, nBand, nFamily]
      go_wp2
      go_ret
      exact ⟨ret_int (by kernel_rfl), rfl⟩
  · have HR := Lib.hid (show attrSort t = 0 by simp [attrSort, *])
    have e1 := ne_list h1 rfl
    have e2 := ne_list h2 rfl
    have e3 := ne_list h3 rfl
    have e4 := ne_list h4 rfl
    have e5 := ne_list h5 rfl
    have e6 := ne_list h6 rfl
    have e7 := ne_list h7 rfl
    have e8 := ne_list h8 rfl
    have e9 := ne_list h9 rfl
    clear h1 h2 h3 h4 h5 h6 h7 h8 h9
    go_enter Try.func84, Try.ntmps84
    go_wp2
    go_ret
    exact ⟨ret_int HR.out.symm, rfl⟩

end Xp
end Go.Proofs.Ytdnnnajohdohaaa
