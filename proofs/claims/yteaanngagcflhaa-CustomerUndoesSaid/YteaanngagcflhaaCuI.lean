/-
  Customers: begin. No condition.
-/
import Derived.Test.YteaanngagcflhaaCuH
import Derived.BigQuiet
import Derived.StillTailTactics
import Derived.Lib.Overlaps
import Derived.Deep.DeepCutAuto
import Derived.Deep.RegionWith
import Derived.Laws.RangeAny
set_option maxRecDepth 100000
set_option linter.unusedVariables false
set_option linter.unusedSimpArgs false
namespace Go.Proofs.Yteaanngagcflhaa
open Go.RowKit

namespace Cu
open Go.Maps
section
variable {P : Program} {k e t : TypeId} {w : World} {b n : Nat} {f : Lit → Option Value}
theorem Mf.run (h : Mf P k w b n f) (K : Keyed P k) (ht : P.underlying t = some (.map k e)) {z : Value} (hz : (zeroValue e).run P w = .ok z w) {key : Value} {l : Lit} (hkey : keyOf P k key = some l) {v : Value} (hv : (f l).getD z = v) :
    (Instr.lookup t (.map (some b)) key false).run P w = .ok v w := by
  obtain ⟨D, hD, hf⟩ := h
  obtain ⟨v', ps, hrun, hv'⟩ := hD.lookup K ht hz (zd := .held z) (zp := []) rfl hkey
  have e1 : v' = v := by
    unfold Rid at hv'
    injection hv' with hv'
    injection hv' with h1 _
    rw [(hf l ⟨key, hkey⟩).2 z, hv] at h1
    injection h1
  rw [← e1]; exact hrun
theorem Mf.run_ok (h : Mf P k w b n f) (K : Keyed P k) (ht : P.underlying t = some (.map k e)) {z : Value} (hz : (zeroValue e).run P w = .ok z w) {key : Value} {l : Lit} (hkey : keyOf P k key = some l) {v : Value} {c : Bool} (hv : (f l).getD z = v) (hc : (f l).isSome = c) :
    (Instr.lookup t (.map (some b)) key true).run P w = .ok (.tuple #[v, .bool c]) w := by
  obtain ⟨D, hD, hf⟩ := h
  obtain ⟨v', ps, hrun, hv'⟩ := hD.look_ok K ht hz (zd := .held z) (zp := []) rfl hkey
  have e1 : v' = v := by
    unfold Rid at hv'
    injection hv' with hv'
    injection hv' with h1 _
    rw [(hf l ⟨key, hkey⟩).2 z, hv] at h1
    injection h1
  rw [← e1, ← hc, ← (hf l ⟨key, hkey⟩).1]; exact hrun
end
theorem zeroA (w : World) : (zeroValue 46).run Try.prog w = .ok (.agg #[.int .i64 0, .int .i64 0, .int .i64 0, .bool false, .bool false, .slice none 0 0]) w := by kernel_rfl
theorem zeroSb (w : World) : (zeroValue 51).run Try.prog w = .ok (.agg #[.int .i64 0, .int .i64 0, .int .i64 0, .string ⟨#[]⟩, .slice none 0 0, .slice none 0 0, .bool false, .bool false]) w := by kernel_rfl
theorem zeroB (w : World) : (zeroValue 4).run Try.prog w = .ok (.bool false) w := by kernel_rfl
theorem zeroI (w : World) : (zeroValue 3).run Try.prog w = .ok (.int .i64 0) w := by kernel_rfl
theorem made1 (w : World) (k : TypeId) (n : Nat) (h : w.heap.size = n) : Mf Try.prog k (w.alloc (.map #[] 0)) n 0 (fun _ => none) := by
  subst h
  exact Mf.made w Try.prog k
theorem rep0 (w W : World) (e : TypeId) (n : Nat) (hn : w.heap.size = n) (hW : W = (((((w.alloc (.map #[] 0)).alloc (.map #[] 0)).alloc (.map #[] 0)).alloc (.map #[] 0)).alloc (.map #[] 0)).alloc (.cells #[.map (some n), .map (some (n + 1)), .map (some (n + 1 + 1)), .map (some (n + 1 + 1 + 1)), .map (some (n + 1 + 1 + 1 + 1)), .slice none 0 0, .slice none 0 0] e)) :
    Rep W n W.heap.size 0 ⟨n + 1 + 1 + 1 + 1 + 1, n, n + 1, n + 1 + 1, n + 1 + 1 + 1, n + 1 + 1 + 1 + 1⟩ st0 ∧ Below n w W := by
  have hsz : W.heap.size = n + 6 := by rw [hW]; simp [hn]
  obtain ⟨V, hV⟩ : ∃ V, V = ((((w.alloc (.map #[] 0)).alloc (.map #[] 0)).alloc (.map #[] 0)).alloc (.map #[] 0)).alloc (.map #[] 0) := ⟨_, rfl⟩
  have hVs : V.heap.size = n + 1 + 1 + 1 + 1 + 1 := by rw [hV]; simp [hn]
  obtain ⟨X, hX, hbX, hzX, hc, hf⟩ := box1 V #[.map (some n), .map (some (n + 1)), .map (some (n + 1 + 1)), .map (some (n + 1 + 1 + 1)), .map (some (n + 1 + 1 + 1 + 1)), .slice none 0 0, .slice none 0 0] e
  obtain rfl : W = X := by rw [hW, hX, hV]
  rw [hVs] at hc hf
  have hbV : Below n w V := by
    rw [hV, ← hn]
    exact (((((Below.refl _ _).alloc (Nat.le_refl _) _).alloc (by simp) _).alloc (by simp; omega) _).alloc (by simp; omega) _).alloc (by simp; omega) _
  have m1 : Mf Try.prog 3 V n 0 (fun _ => none) := by rw [hV]; exact ((((made1 w _ n hn).alloc _).alloc _).alloc _).alloc _
  have m2 : Mf Try.prog 3 V (n + 1) 0 (fun _ => none) := by rw [hV]; exact (((made1 _ _ (n + 1) (by simp [hn])).alloc _).alloc _).alloc _
  have m3 : Mf Try.prog 3 V (n + 1 + 1) 0 (fun _ => none) := by rw [hV]; exact ((made1 _ _ (n + 1 + 1) (by simp [hn])).alloc _).alloc _
  have m4 : Mf Try.prog 9 V (n + 1 + 1 + 1) 0 (fun _ => none) := by rw [hV]; exact (made1 _ _ (n + 1 + 1 + 1) (by simp [hn])).alloc _
  have m5 : Mf Try.prog 3 V (n + 1 + 1 + 1 + 1) 0 (fun _ => none) := by rw [hV]; exact made1 _ _ (n + 1 + 1 + 1 + 1) (by simp [hn])
  refine ⟨⟨fun _ h => h, by dsimp only; omega, by dsimp only; omega, Nat.le_refl _, by dsimp only; omega, by dsimp only; omega, hf, hc 0 _ rfl, hc 1 _ rfl, hc 2 _ rfl, hc 3 _ rfl, hc 4 _ rfl, ⟨_, m1.below hbX, fun x => rfl⟩, ⟨_, m2.below hbX, fun x => rfl⟩, ⟨_, m3.below hbX, fun x => rfl⟩, ⟨_, m4.below hbX, fun x => rfl⟩, ⟨_, m5.below hbX, fun x => ⟨rfl, Int.le_refl _, Int.le_refl _⟩⟩, ⟨none, 0, 0, hc 5 _ rfl, Sl.nil_ _, fun _ => rfl, OkA.nil_, Nat.le_refl _⟩, ⟨none, 0, 0, hc 6 _ rfl, Sl.nil_ _, fun _ => rfl, OkA.nil_, Nat.le_refl _⟩⟩, hbV.trans (hbX.mono (by omega))⟩
set_option maxHeartbeats 4000000 in
theorem begin_any (w : World) : Calls Try.prog 68 #[] w fun e w' => ∃ k : Bl, e = .returned (.pointer (some ⟨k.p, 0, none⟩)) ∧ Rep w' w.heap.size w'.heap.size 0 k st0 ∧ Below w.heap.size w w' := by
  have hmm := @run_makeMap Try.prog
  go_enter Try.func68, Try.ntmps68
  go_wp2_with fail
  go_ret
  have h := rep0 w _ 128 w.heap.size rfl rfl
  exact ⟨⟨w.heap.size + 1 + 1 + 1 + 1 + 1, w.heap.size, w.heap.size + 1, w.heap.size + 1 + 1, w.heap.size + 1 + 1 + 1, w.heap.size + 1 + 1 + 1 + 1⟩, rfl, h.1, h.2⟩
end Cu
end Go.Proofs.Yteaanngagcflhaa
