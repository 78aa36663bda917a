/-
  Expressions: number. No condition.
-/
import Derived.Test.YtdjlfdbdhacmjaaExG
import Derived.BigQuiet
import Derived.StillTailTactics
import Derived.Lib.Overlaps
import Derived.Deep.DeepCutAuto
set_option maxRecDepth 100000
set_option linter.unusedVariables false
set_option linter.unusedSimpArgs false
namespace Go.Proofs.Ytdjlfdbdhacmjaa
open Go.RowKit

namespace Xp

set_option maxHeartbeats 2000000 in
theorem numside (i k : Nat) (hk : (i = 0 ∧ k = 0) ∨ (i = 1 ∧ k = 4)) (g : Nat) (w : World) (v : Env) (R : Option Int) (b off n c : Nat) (y : It) (hg : g + 1 < w.heap.size) (hbl : b < w.heap.size) (hin : i < n) (hnm : n ≤ 1000)
    (qa3 : w.cell? ⟨g, 3, none⟩ = some (.slice (some ⟨b, off, none⟩) n c))
    (qb0 : w.cell? ⟨g + 1, 0, none⟩ = some (.int .i64 v.kind)) (qb1 : w.cell? ⟨g + 1, 1, none⟩ = some (.int .i64 v.units)) (qb2 : w.cell? ⟨g + 1, 2, none⟩ = some (.int .i64 v.weekday)) (qb3 : w.cell? ⟨g + 1, 3, none⟩ = some (.int .i64 v.minute)) (qb4 : w.cell? ⟨g + 1, 4, none⟩ = some (.int .i64 v.total)) (qb5 : w.cell? ⟨g + 1, 5, none⟩ = some (.int .i64 v.spent)) (qb6 : w.cell? ⟨g + 1, 6, none⟩ = some (.string v.zone)) (qb7 : w.cell? ⟨g + 1, 7, none⟩ = some (.string v.band)) (qb8 : w.cell? ⟨g + 1, 8, none⟩ = some (.bool v.family))
    (k0 : w.cell? ⟨b, off + k, none⟩ = some (.int .i64 y.op)) (k1 : w.cell? ⟨b, off + k + 1, none⟩ = some (.int .i64 y.num)) (k2 : w.cell? ⟨b, off + k + 2, none⟩ = some (.string y.text)) (k3 : w.cell? ⟨b, off + k + 3, none⟩ = some (.slice y.A y.n y.c))
    (H : ∀ w', Below w.heap.size w w' → Calls Try.prog 46 #[y.val, v.val] w' fun r w'' => r = .returned (optV R) ∧ Below w'.heap.size w' w'') :
    Calls Try.prog 54 #[.int .i64 (i : Int), .pointer (some ⟨g, 0, none⟩), .pointer (some ⟨g + 1, 0, none⟩)] w fun r w' => r = .returned (optV R) ∧ Below w.heap.size w w' := by
  have HH := Lib.hid H
  clear H
  have hg0 : g < w.heap.size := by omega
  rcases hk with ⟨rfl, rfl⟩ | ⟨rfl, rfl⟩
  all_goals
    (try simp only [Nat.add_zero] at k0 k1 k2 k3)
    have hcr : ∀ z : Wd (Below w.heap.size w), ∀ b o, b < w.heap.size → z.w.cell? ⟨b, o, none⟩ = w.cell? ⟨b, o, none⟩ := fun z => z.cells
    have hov : optV none = .tuple #[.int .i64 0, .bool false] := rfl
    have hov2 : ∀ x : Int, optV (some x) = .tuple #[.int .i64 x, .bool true] := fun _ => rfl
    cases R
    all_goals
      go_enter Try.func54, Try.ntmps54
      go_wp2_with fail
      ((with_reducible refine wp_region_class (Below w.heap.size w) ?_ ?_ ?_ ?_); kernel_rfl; kernel_rfl; (exact (Below.refl _ _).drew); (intro hnonemp); skip; (repeat (any_goals (first | go_big_quiet_step (((go_at_call 46; (refine (HH.out _ (Wd.h _)).mono ?_); rintro e w' ⟨rfl, hb⟩; exact ⟨rfl, ⟨w', below_wd _ hb⟩, rfl⟩))) | (refine wpQuiet_step (fun K hK => ?_); go_simp; (first | (refine hK _ ?_; clear hK K) | (split <;> rename_i hg <;> (refine hK _ ?_; clear hK K) <;> (try simp only [Bool.not_eq_true] at hg) <;> (first | simp only [Int.not_lt.2 hg, decide_false] | simp only [Int.not_le.1 hg, decide_true] | simp only [hg, decide_true, decide_false] | skip)))))));  all_goals (refine wpQuiet_nil ?_; intro wq hgq))
      go_wp2_with fail
      go_ret2
      exact ⟨rfl, hgq⟩

theorem num_leaf {v : Env} {d : Nat} {op num : Int} {text : ByteArray} {args : List Ex} (h : srt (d + 1) (.mk op num text args) = (1, 0)) :
    (args = [] ∧ op = 1 ∧ 0 ≤ num ∧ num ≤ 1099511627776) ∨ (args = [] ∧ op = 3) ∨ (∃ a b, args = [a, b] ∧ 11 ≤ op ∧ op ≤ 15 ∧ srt d a = (1, 0) ∧ srt d b = (1, 0)) := by
  have h0 : (srt (d + 1) (.mk op num text args)).2 = 0 := by rw [h]
  rcases arity_args h0 with ⟨rfl, rfl | rfl | rfl⟩ | ⟨a, rfl, rfl, ha⟩ | ⟨a, b, rfl, h5, h15, ha, hb, hc⟩
  · rw [srt_leaf (.inl rfl)] at h
    simp only [leaf] at h
    rw [if_pos trivial] at h
    split at h
    · rename_i hn; exact .inl ⟨rfl, rfl, hn.1, hn.2⟩
    · simp at h
  · rw [srt_leaf (.inr (.inl rfl))] at h
    simp [leaf] at h
    split at h <;> simp at h
  · exact .inr (.inl ⟨rfl, rfl⟩)
  · rw [srt_not, ha] at h
    simp [un, comb, combOk] at h
  · refine .inr (.inr ⟨a, b, rfl, ?_⟩)
    rw [srt_bin ⟨h5, h15⟩] at h
    unfold bin at h
    rw [if_neg (by simpa using ha), if_neg (by simpa using hb)] at h
    unfold comb at h
    rw [if_pos hc] at h
    have h11 : 11 ≤ op := by
      by_cases hh : 4 ≤ op ∧ op ≤ 10
      · rw [if_pos hh] at h; simp at h
      · omega
    unfold combOk at hc
    rw [if_neg (by omega), if_neg (by omega), if_neg (by omega), decide_eq_true_eq] at hc
    exact ⟨h11, h15, Prod.ext hc.1 ha, Prod.ext hc.2 hb⟩
theorem numE_bin {v : Env} {d : Nat} {op num : Int} {text : ByteArray} {a b : Ex} (h : 11 ≤ op) : numE v (d + 1) (.mk op num text [a, b]) = both op (numE v d a) (numE v d b) := by
  rw [numE.eq_2, if_neg (by omega), if_neg (by omega)]; rfl
theorem tdiv_bd {x y : Int} (hx1 : -4611686018427387904 ≤ x) (hx2 : x ≤ 4611686018427387904) : -4611686018427387904 ≤ x.tdiv y ∧ x.tdiv y ≤ 4611686018427387904 := by
  have h1 := Int.natAbs_tdiv_le_natAbs x y
  omega
theorem tmod_bd {x y : Int} (hx1 : -4611686018427387904 ≤ x) (hx2 : x ≤ 4611686018427387904) : -4611686018427387904 ≤ x.tmod y ∧ x.tmod y ≤ 4611686018427387904 := by
  have h1 := Int.natAbs_tmod x y
  have h2 : x.natAbs % y.natAbs ≤ x.natAbs := Nat.mod_le _ _
  omega
theorem rng_in {n : Int} (h : -4611686018427387904 ≤ n ∧ n ≤ 4611686018427387904) : rng n = some n := by unfold rng lim; rw [if_neg (by omega)]

end Xp
end Go.Proofs.Ytdjlfdbdhacmjaa
