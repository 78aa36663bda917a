/-
  Customers: an event inserted, in plain words. No condition.
-/
import Derived.Test.YteaanngagcflhaaCuAK
import Derived.BigQuiet
import Derived.StillTailTactics
import Derived.Lib.Overlaps
import Derived.Deep.DeepCutAuto
import Derived.Deep.RegionWith
set_option maxRecDepth 100000
set_option linter.unusedVariables false
set_option linter.unusedSimpArgs false
namespace Go.Proofs.Yteaanngagcflhaa
open Go.RowKit

namespace Cu
theorem infoEv : (Try.prog.info? 36).map (fun i => (i.zero, i.size, i.bytes)) = some (some (.agg #[.int .i64 0, .int .i64 0, .int .i64 0, .int .i64 0, .string ⟨#[]⟩, .string ⟨#[]⟩, .int .i64 0]), 7, 72) := by kernel_rfl
def insR (x : Int) (l : List Ev) : List Ev := if x = 0 then l else []
theorem insR_0 (l : List Ev) : insR 0 l = l := rfl
theorem insR_ne {x : Int} (h : ¬ x = 0) (l : List Ev) : insR x l = [] := if_neg h
def insL (l : List Ev) (e : Ev) : List Ev := l.take (cutN l e.at_) ++ [e] ++ l.drop (cutN l e.at_)
theorem cutN_eq {l : List Ev} {t : Int} {k : Nat} (hk : k ≤ l.length) (h1 : ∀ (m : Nat) y, m < k → l[m]? = some y → y.at_ ≤ t) (h2 : ∀ y, l[k]? = some y → ¬ y.at_ ≤ t) : cutN l t = k := by
  unfold cutN
  induction l generalizing k with
  | nil => simp at hk; simp [hk]
  | cons x l ih =>
    cases k with
    | zero =>
      have := h2 x rfl
      rw [List.takeWhile_cons_of_neg (by simpa using this)]; rfl
    | succ k =>
      have := h1 0 x (by omega) rfl
      rw [List.takeWhile_cons_of_pos (by simpa using this), List.length_cons, ih (k := k) (by simpa using hk) (fun m y hm hy => h1 (m + 1) y (by omega) (by simpa using hy)) (fun y hy => h2 y (by simpa using hy))]
theorem insL_sz {l : List Ev} {e : Ev} (h : SzOk l) (he : e.num.size ≤ maxLen ∧ e.name.size ≤ maxLen) : SzOk (insL l e) := fun x hx => by
  unfold insL at hx
  rcases List.mem_append.1 hx with hx | hx
  · rcases List.mem_append.1 hx with hx | hx
    · exact h x (List.mem_of_mem_take hx)
    · rcases List.mem_singleton.1 hx with rfl; exact he
  · exact h x (List.mem_of_mem_drop hx)
theorem insL_len (l : List Ev) (e : Ev) : (insL l e).length = l.length + 1 := by
  have : cutN l e.at_ ≤ l.length := by unfold cutN; exact (List.takeWhile_prefix _).length_le
  unfold insL
  simp
  omega
theorem of_sub {b : Bk} {e : Ev} {last : Int} (h : faultR b e last = 0) (hu : uA e.kind = false) : formR e last = 0 ∧ ofSub b e = 0 := by
  unfold faultR at h
  by_cases h1 : formR e last = 0
  · rw [if_neg (by simp [h1]), if_neg (by simp [hu])] at h
    exact ⟨h1, h⟩
  · rw [if_pos h1] at h; exact absurd h h1
end Cu
end Go.Proofs.Yteaanngagcflhaa
