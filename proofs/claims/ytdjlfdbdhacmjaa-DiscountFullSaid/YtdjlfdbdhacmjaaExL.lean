/-
  Expressions: holds. No condition.
-/
import Derived.Test.YtdjlfdbdhacmjaaExJ
import Derived.BigQuiet
import Derived.StillTailTactics
import Derived.Lib.Overlaps
import Derived.Deep.DeepCutAuto
import Derived.Deep.RegionWith
set_option maxRecDepth 100000
set_option linter.unusedVariables false
set_option linter.unusedSimpArgs false
namespace Go.Proofs.Ytdjlfdbdhacmjaa
open Go.RowKit

namespace Xp
theorem hol_leaf {v : Env} {d : Nat} {op num : Int} {text : ByteArray} {args : List Ex} (h : srt (d + 1) (.mk op num text args) = (3, 0)) :
    (args = [] ∧ op = 3) ∨ (∃ a, args = [a] ∧ op = 4 ∧ srt d a = (3, 0)) ∨ (∃ a b, args = [a, b] ∧ (op = 5 ∨ op = 6) ∧ srt d a = (3, 0) ∧ srt d b = (3, 0)) ∨ (∃ a b, args = [a, b] ∧ (7 ≤ op ∧ op ≤ 10) ∧ CmpOk d op a b) := by
  have h0 : (srt (d + 1) (.mk op num text args)).2 = 0 := by rw [h]
  rcases arity_args h0 with ⟨rfl, rfl | rfl | rfl⟩ | ⟨a, rfl, rfl, ha⟩ | ⟨a, b, rfl, h5, h15, ha, hb, hc⟩
  · rw [srt_leaf (.inl rfl)] at h
    simp only [leaf] at h
    rw [if_pos trivial] at h
    split at h <;> simp at h
  · rw [srt_leaf (.inr (.inl rfl))] at h
    simp [leaf] at h
    split at h <;> simp at h
  · exact .inl ⟨rfl, rfl⟩
  · exact .inr (.inl ⟨a, rfl, rfl, ha⟩)
  · refine .inr (.inr ?_)
    rw [srt_bin ⟨h5, h15⟩] at h
    unfold bin at h
    rw [if_neg (by simpa using ha), if_neg (by simpa using hb)] at h
    unfold comb at h
    rw [if_pos hc] at h
    have h10 : op ≤ 10 := by
      by_cases hh : 4 ≤ op ∧ op ≤ 10
      · exact hh.2
      · rw [if_neg hh] at h; simp at h
    unfold combOk at hc
    rw [if_neg (by omega)] at hc
    by_cases h56 : op = 5 ∨ op = 6
    · rw [if_pos h56, decide_eq_true_eq] at hc
      exact .inl ⟨a, b, rfl, h56, Prod.ext hc.1 ha, Prod.ext hc.2 hb⟩
    · rw [if_neg h56] at hc
      refine .inr ⟨a, b, rfl, ⟨by omega, h10⟩, ?_⟩
      by_cases h78 : op = 7 ∨ op = 8
      · rw [if_pos h78, decide_eq_true_eq] at hc
        rcases srt_res d a with ⟨-, h1 | h1 | h1⟩ | ⟨h1, -⟩
        · exact .inr ⟨Prod.ext h1 ha, Prod.ext (hc.1.symm.trans h1) hb, by omega, h10⟩
        · exact .inl ⟨Prod.ext h1 ha, Prod.ext (hc.1.symm.trans h1) hb, h78⟩
        · exact absurd h1 hc.2
        · exact absurd ha h1
      · rw [if_neg h78, decide_eq_true_eq] at hc
        exact .inr ⟨Prod.ext hc.1 ha, Prod.ext hc.2 hb, by omega, h10⟩
theorem holE_leaf {v : Env} {d : Nat} {num : Int} {text : ByteArray} : holE v (d + 1) (.mk 3 num text []) = v.family := by rw [holE.eq_2, if_pos rfl]
theorem holE_not {v : Env} {d : Nat} {num : Int} {text : ByteArray} {a : Ex} : holE v (d + 1) (.mk 4 num text [a]) = !holE v d a := by rw [holE.eq_2, if_neg (by decide)]; rfl
theorem holE_and {v : Env} {d : Nat} {num : Int} {text : ByteArray} {a b : Ex} : holE v (d + 1) (.mk 5 num text [a, b]) = (holE v d a && holE v d b) := by rw [holE.eq_2, if_neg (by decide)]; rfl
theorem holE_or {v : Env} {d : Nat} {num : Int} {text : ByteArray} {a b : Ex} : holE v (d + 1) (.mk 6 num text [a, b]) = (holE v d a || holE v d b) := by rw [holE.eq_2, if_neg (by decide)]; rfl
theorem holE_cmp {v : Env} {d : Nat} {op num : Int} {text : ByteArray} {a b : Ex} (h : 7 ≤ op) : holE v (d + 1) (.mk op num text [a, b]) = cmpE v d op a b := by
  rw [holE.eq_2, if_neg (by omega)]
  show (if op = 5 then _ else if op = 6 then _ else _) = _
  rw [if_neg (by omega), if_neg (by omega)]
  rfl
set_option maxHeartbeats 2000000 in
theorem holdside (i k : Nat) (hk : (i = 0 ∧ k = 0) ∨ (i = 1 ∧ k = 4)) (g : Nat) (w : World) (v : Env) (R : Bool) (b off n c : Nat) (y : It) (hg : g + 1 < w.heap.size) (hbl : b < w.heap.size) (hin : i < n) (hnm : n ≤ 1000)
    (qa3 : w.cell? ⟨g, 3, none⟩ = some (.slice (some ⟨b, off, none⟩) n c))
    (qb0 : w.cell? ⟨g + 1, 0, none⟩ = some (.int .i64 v.kind)) (qb1 : w.cell? ⟨g + 1, 1, none⟩ = some (.int .i64 v.units)) (qb2 : w.cell? ⟨g + 1, 2, none⟩ = some (.int .i64 v.weekday)) (qb3 : w.cell? ⟨g + 1, 3, none⟩ = some (.int .i64 v.minute)) (qb4 : w.cell? ⟨g + 1, 4, none⟩ = some (.int .i64 v.total)) (qb5 : w.cell? ⟨g + 1, 5, none⟩ = some (.int .i64 v.spent)) (qb6 : w.cell? ⟨g + 1, 6, none⟩ = some (.string v.zone)) (qb7 : w.cell? ⟨g + 1, 7, none⟩ = some (.string v.band)) (qb8 : w.cell? ⟨g + 1, 8, none⟩ = some (.bool v.family))
    (k0 : w.cell? ⟨b, off + k, none⟩ = some (.int .i64 y.op)) (k1 : w.cell? ⟨b, off + k + 1, none⟩ = some (.int .i64 y.num)) (k2 : w.cell? ⟨b, off + k + 2, none⟩ = some (.string y.text)) (k3 : w.cell? ⟨b, off + k + 3, none⟩ = some (.slice y.A y.n y.c))
    (H : ∀ w', Below w.heap.size w w' → Calls Try.prog 25 #[y.val, v.val] w' fun r w'' => r = .returned (.bool R) ∧ Below w'.heap.size w' w'') :
    Calls Try.prog 32 #[.int .i64 (i : Int), .pointer (some ⟨g, 0, none⟩), .pointer (some ⟨g + 1, 0, none⟩)] w fun r w' => r = .returned (.bool R) ∧ Below w.heap.size w w' := by
  have HH := Lib.hid H
  clear H
  have hg0 : g < w.heap.size := by omega
  rcases hk with ⟨rfl, rfl⟩ | ⟨rfl, rfl⟩
  all_goals
    (try simp only [Nat.add_zero] at k0 k1 k2 k3)
    have hcr : ∀ z : Wd (Below w.heap.size w), ∀ b o, b < w.heap.size → z.w.cell? ⟨b, o, none⟩ = w.cell? ⟨b, o, none⟩ := fun z => z.cells
    cases R
    all_goals
      go_enter Try.func32, Try.ntmps32
      go_wp2_with fail
      ((with_reducible refine wp_region_class (Below w.heap.size w) ?_ ?_ ?_ ?_); kernel_rfl; kernel_rfl; (exact (Below.refl _ _).drew); (intro hnonemp); skip; (repeat (any_goals (first | go_big_quiet_step (((go_at_call 25; (refine (HH.out _ (Wd.h _)).mono ?_); rintro e w' ⟨rfl, hb⟩; exact ⟨rfl, ⟨w', below_wd _ hb⟩, rfl⟩))) | (refine wpQuiet_step (fun K hK => ?_); go_simp; (first | (refine hK _ ?_; clear hK K) | (split <;> rename_i hg <;> (refine hK _ ?_; clear hK K) <;> (try simp only [Bool.not_eq_true] at hg) <;> (first | simp only [Int.not_lt.2 hg, decide_false] | simp only [Int.not_le.1 hg, decide_true] | simp only [hg, decide_true, decide_false] | skip)))))));  all_goals (refine wpQuiet_nil ?_; intro wq hgq))
      go_wp2_with fail
      go_ret
      exact ⟨rfl, hgq⟩

end Xp
end Go.Proofs.Ytdjlfdbdhacmjaa
