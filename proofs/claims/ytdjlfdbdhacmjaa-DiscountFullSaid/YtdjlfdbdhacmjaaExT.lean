/-
  Expressions: text and the reference's. No condition.
-/
import Derived.Test.YtdjlfdbdhacmjaaExG
import Derived.BigQuiet
import Derived.StillTailTactics
import Derived.Lib.Overlaps
import Derived.Deep.DeepCutAuto
set_option maxRecDepth 100000
set_option linter.unusedVariables false
set_option linter.unusedSimpArgs false
namespace Go.Proofs.Ytdjlfdbdhacmjaa
open Go.RowKit

namespace Xp

set_option maxHeartbeats 1000000 in
theorem text_any (v : Env) (e : Ex) (x : It) (w : World) (h : Rp w e x) : Calls Try.prog 45 #[x.val, v.val] w fun r w' => r = .returned (.string (txtE v e)) ∧ Below w.heap.size w w' := by
  obtain ⟨op, num, text, args, A, n, c, items, rfl, rfl, -, -, -, -⟩ := h.inv
  unfold It.val Env.val
  obtain ⟨R, hR⟩ : ∃ R, txtE v (.mk op num text args) = R := ⟨_, rfl⟩
  rw [hR]
  have HR := Lib.hid (show (if op = 2 then text else if text = nZone then v.zone else v.band) = R from hR)
  clear hR h
  have ho : op = 2 ∨ ((op == 2) = false ∧ text = nZone) ∨ ((op == 2) = false ∧ (text.toList == [122, 111, 110, 101]) = false ∧ text ≠ nZone) := by
    by_cases h1 : op = 2
    · exact .inl h1
    · by_cases h2 : text = nZone
      · exact .inr (.inl ⟨by simpa using h1, h2⟩)
      · exact .inr (.inr ⟨by simpa using h1, ne_list h2 rfl, h2⟩)
  rcases ho with rfl | ⟨o1, rfl⟩ | ⟨o1, o2, o3⟩
  · have HF := Lib.hid (show text = R by rw [← HR.out]; rfl)
    go_enter Try.func45, Try.ntmps45
    go_wp2
    go_ret
    exact ⟨by rw [← HF.out]; rfl, by (repeat (first | exact Below.refl _ _ | exact Below.refl _ _ | (refine Below.alloc ?_ (by (try simp) <;> omega) _) | (refine Below.setCell ?_ (by (try simp) <;> omega) _) | refine Below.drew ?_ | refine below_drewN ?_ _))⟩
  · have HF := Lib.hid (show v.zone = R by rw [← HR.out, if_neg (by simpa using o1), if_pos rfl])
    go_enter Try.func45, Try.ntmps45
    simp only [nZone]
    go_wp2
    go_ret
    exact ⟨by rw [← HF.out]; rfl, by (repeat (first | exact Below.refl _ _ | exact Below.refl _ _ | (refine Below.alloc ?_ (by (try simp) <;> omega) _) | (refine Below.setCell ?_ (by (try simp) <;> omega) _) | refine Below.drew ?_ | refine below_drewN ?_ _))⟩
  · have HF := Lib.hid (show v.band = R by rw [← HR.out, if_neg (by simpa using o1), if_neg o3])
    clear o3
    go_enter Try.func45, Try.ntmps45
    go_wp2
    go_ret
    exact ⟨by rw [← HF.out]; rfl, by (repeat (first | exact Below.refl _ _ | exact Below.refl _ _ | (refine Below.alloc ?_ (by (try simp) <;> omega) _) | (refine Below.setCell ?_ (by (try simp) <;> omega) _) | refine Below.drew ?_ | refine below_drewN ?_ _))⟩

set_option maxHeartbeats 1000000 in
theorem reftext_any (v : Env) (e : Ex) (x : It) (w : World) (h : Rp w e x) : Calls Try.prog 49 #[x.val, v.val] w fun r w' => r = .returned (.string (txtE v e)) ∧ Below w.heap.size w w' := by
  obtain ⟨op, num, text, args, A, n, c, items, rfl, rfl, -, -, -, -⟩ := h.inv
  unfold It.val Env.val
  obtain ⟨R, hR⟩ : ∃ R, txtE v (.mk op num text args) = R := ⟨_, rfl⟩
  rw [hR]
  have HR := Lib.hid (show (if op = 2 then text else if text = nZone then v.zone else v.band) = R from hR)
  clear hR h
  have ho : op = 2 ∨ ((op == 2) = false ∧ text = nZone) ∨ ((op == 2) = false ∧ (text.toList == [122, 111, 110, 101]) = false ∧ text ≠ nZone) := by
    by_cases h1 : op = 2
    · exact .inl h1
    · by_cases h2 : text = nZone
      · exact .inr (.inl ⟨by simpa using h1, h2⟩)
      · exact .inr (.inr ⟨by simpa using h1, ne_list h2 rfl, h2⟩)
  rcases ho with rfl | ⟨o1, rfl⟩ | ⟨o1, o2, o3⟩
  · have HF := Lib.hid (show text = R by rw [← HR.out]; rfl)
    go_enter Try.func49, Try.ntmps49
    go_wp2
    go_ret
    exact ⟨by rw [← HF.out]; rfl, by (repeat (first | exact Below.refl _ _ | exact Below.refl _ _ | (refine Below.alloc ?_ (by (try simp) <;> omega) _) | (refine Below.setCell ?_ (by (try simp) <;> omega) _) | refine Below.drew ?_ | refine below_drewN ?_ _))⟩
  · have HF := Lib.hid (show v.zone = R by rw [← HR.out, if_neg (by simpa using o1), if_pos rfl])
    go_enter Try.func49, Try.ntmps49
    simp only [nZone]
    go_wp2
    go_ret
    exact ⟨by rw [← HF.out]; rfl, by (repeat (first | exact Below.refl _ _ | exact Below.refl _ _ | (refine Below.alloc ?_ (by (try simp) <;> omega) _) | (refine Below.setCell ?_ (by (try simp) <;> omega) _) | refine Below.drew ?_ | refine below_drewN ?_ _))⟩
  · have HF := Lib.hid (show v.band = R by rw [← HR.out, if_neg (by simpa using o1), if_neg o3])
    clear o3
    go_enter Try.func49, Try.ntmps49
    go_wp2
    go_ret
    exact ⟨by rw [← HF.out]; rfl, by (repeat (first | exact Below.refl _ _ | exact Below.refl _ _ | (refine Below.alloc ?_ (by (try simp) <;> omega) _) | (refine Below.setCell ?_ (by (try simp) <;> omega) _) | refine Below.drew ?_ | refine below_drewN ?_ _))⟩

end Xp
end Go.Proofs.Ytdjlfdbdhacmjaa
