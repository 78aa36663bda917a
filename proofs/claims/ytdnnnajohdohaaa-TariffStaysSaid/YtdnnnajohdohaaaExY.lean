/-
  Expressions: the count of nodes, small expressions. No condition.
-/
import Derived.Test.YtdnnnajohdohaaaExC
import Derived.Test.YtdnnnajohdohaaaComB
import Derived.BigQuiet
import Derived.StillTailTactics
import Derived.Lib.Overlaps
import Derived.Deep.DeepCutAuto
import Derived.Deep.RegionWith
set_option maxRecDepth 100000
set_option linter.unusedVariables false
set_option linter.unusedSimpArgs false
namespace Go.Proofs.Ytdnnnajohdohaaa
open Go.RowKit

namespace Xp

set_option maxHeartbeats 4000000 in
theorem count_from {w : World} {e : Ex} {x : It} (h : Rp w e x) : ∀ w', Below w.heap.size w w' → Calls Try.prog 51 #[x.val] w' fun r w'' => (∃ m : Int, r = .returned (.int .i64 m)) ∧ Below w'.heap.size w' w'' := by
  induction h with
  | mk op num text args A n c items hsl hl hnil hc ih =>
    intro w' hb
    have IH := Lib.hid ih
    have HS := Lib.hid hsl
    have HL := Lib.hid hl
    have hn := hsl.nmax
    have hlen := hsl.len
    clear ih hsl hl hnil hc
    unfold It.val
    go_enter Try.func51, Try.ntmps51
    go_upto_region 1 with (fail)
    (obtain ⟨W, hWW, hbW, hzW, f1W, qfa⟩ := box1 w' #[.int .i64 op, .int .i64 num, .string text, .slice A n c] 60; rw [← hWW]; have qa0 : W.cell? ⟨w'.heap.size, 0, none⟩ = some (.int .i64 op) := f1W 0 _ rfl; have qa1 : W.cell? ⟨w'.heap.size, 1, none⟩ = some (.int .i64 num) := f1W 1 _ rfl; have qa2 : W.cell? ⟨w'.heap.size, 2, none⟩ = some (.string text) := f1W 2 _ rfl; have qa3 : W.cell? ⟨w'.heap.size, 3, none⟩ = some (.slice A n c) := f1W 3 _ rfl; clear hWW f1W)
    go_wp2_with fail
    go_loopw [3, 4] (fun s i wr => ∃ (k : Nat) (m : Int), k ≤ n ∧ i = .int .i64 k ∧ s = .int .i64 m ∧ Below w'.heap.size w' wr ∧ W.heap.size ≤ wr.heap.size ∧ wr.cell? ⟨w'.heap.size, 3, none⟩ = some (.slice A n c)) (fun _ i _ => n - (intOf i).toNat)
    case atStart => exact ⟨0, 1, Nat.zero_le _, rfl, rfl, hbW, Nat.le_refl _, qa3⟩
    case round =>
      obtain ⟨k, m, hk, rfl, rfl, hbr, hz, qa3⟩ := hrel
      have hgr : w'.heap.size < wr.heap.size := by omega
      by_cases hlt : k < n
      · obtain ⟨y, hy⟩ := HS.out.get hlt
        obtain ⟨e, he⟩ : ∃ e, args[k]? = some e := ⟨args[k]'(by have := HL.out; omega), List.getElem?_eq_getElem _⟩
        have hwr := hb.trans (hbr.mono hb.size)
        obtain ⟨b, off, rfl, hbw, hcells⟩ := HS.out.baseIn hwr (by omega)
        have c0 : wr.cell? ⟨b, off + k * 4, none⟩ = some (.int .i64 y.op) := Sl.at_ hcells hy 0 rfl
        have c1 : wr.cell? ⟨b, off + k * 4 + 1, none⟩ = some (.int .i64 y.num) := Sl.at_ hcells hy 1 rfl
        have c2 : wr.cell? ⟨b, off + k * 4 + 2, none⟩ = some (.string y.text) := Sl.at_ hcells hy 2 rfl
        have c3 : wr.cell? ⟨b, off + k * 4 + 3, none⟩ = some (.slice y.A y.n y.c) := Sl.at_ hcells hy 3 rfl
        have HC := Lib.hid (IH.out k y e hy he wr hwr)
        clear hcells hy he
        go_wp2_with fail
        refine HC.out.mono ?_
        rintro r w2 ⟨⟨m2, rfl⟩, hb2⟩
        have qa3' := (hb2.cell (p := ⟨_, _, none⟩) (by (try dsimp only) <;> omega)).trans qa3
        have hz2 := hb2.size
        go_wp2_with fail
        all_goals
          go_roundw
          case rel => exact ⟨k + 1, _, by omega, by go_num, rfl, hbr.trans (hb2.mono hbr.size), by omega, qa3'⟩
          case measure => simp [intOf]; omega
      · have hkn : ¬ ((k : Int) < (n : Int)) := by omega
        go_wp2_with fail
        go_ret
        exact ⟨⟨_, rfl⟩, hbr⟩

set_option maxHeartbeats 4000000 in
theorem small_from {w : World} {e : Ex} {x : It} (h : Rp w e x) : ∀ w', Below w.heap.size w w' → Calls Try.prog 34 #[x.val] w' fun r w'' => (∃ m : Bool, r = .returned (.bool m)) ∧ Below w'.heap.size w' w'' := by
  induction h with
  | mk op num text args A n c items hsl hl hnil hc ih =>
    intro w' hb
    have IH := Lib.hid ih
    have HS := Lib.hid hsl
    have HL := Lib.hid hl
    have hn := hsl.nmax
    have hlen := hsl.len
    have HCT := Lib.hid (fun w1 (h1 : Below w.heap.size w w1) => count_from (Rp.mk op num text args A n c items hsl hl hnil hc) w1 h1)
    clear ih hsl hl hnil hc
    unfold It.val
    unfold It.val at HCT
    go_enter Try.func34, Try.ntmps34
    go_upto_region 1 with (fail)
    (obtain ⟨W, hWW, hbW, hzW, f1W, qfa⟩ := box1 w' #[.int .i64 op, .int .i64 num, .string text, .slice A n c] 60; rw [← hWW]; have qa0 : W.cell? ⟨w'.heap.size, 0, none⟩ = some (.int .i64 op) := f1W 0 _ rfl; have qa1 : W.cell? ⟨w'.heap.size, 1, none⟩ = some (.int .i64 num) := f1W 1 _ rfl; have qa2 : W.cell? ⟨w'.heap.size, 2, none⟩ = some (.string text) := f1W 2 _ rfl; have qa3 : W.cell? ⟨w'.heap.size, 3, none⟩ = some (.slice A n c) := f1W 3 _ rfl; clear hWW f1W)
    go_wp2_with fail
    go_loopw [3] (fun i wr => ∃ (k : Nat), k ≤ n ∧ i = .int .i64 k ∧ Below w'.heap.size w' wr ∧ W.heap.size ≤ wr.heap.size ∧ wr.cell? ⟨w'.heap.size, 0, none⟩ = some (.int .i64 op) ∧ wr.cell? ⟨w'.heap.size, 1, none⟩ = some (.int .i64 num) ∧ wr.cell? ⟨w'.heap.size, 2, none⟩ = some (.string text) ∧ wr.cell? ⟨w'.heap.size, 3, none⟩ = some (.slice A n c)) (fun i _ => n - (intOf i).toNat)
    case atStart => exact ⟨0, Nat.zero_le _, rfl, hbW, Nat.le_refl _, qa0, qa1, qa2, qa3⟩
    case round =>
      obtain ⟨k, hk, rfl, hbr, hz, qa0, qa1, qa2, qa3⟩ := hrel
      have hgr : w'.heap.size < wr.heap.size := by omega
      by_cases hlt : k < n
      · obtain ⟨y, hy⟩ := HS.out.get hlt
        obtain ⟨e, he⟩ : ∃ e, args[k]? = some e := ⟨args[k]'(by have := HL.out; omega), List.getElem?_eq_getElem _⟩
        have hwr := hb.trans (hbr.mono hb.size)
        obtain ⟨b, off, rfl, hbw, hcells⟩ := HS.out.baseIn hwr (by omega)
        have c0 : wr.cell? ⟨b, off + k * 4, none⟩ = some (.int .i64 y.op) := Sl.at_ hcells hy 0 rfl
        have c1 : wr.cell? ⟨b, off + k * 4 + 1, none⟩ = some (.int .i64 y.num) := Sl.at_ hcells hy 1 rfl
        have c2 : wr.cell? ⟨b, off + k * 4 + 2, none⟩ = some (.string y.text) := Sl.at_ hcells hy 2 rfl
        have c3 : wr.cell? ⟨b, off + k * 4 + 3, none⟩ = some (.slice y.A y.n y.c) := Sl.at_ hcells hy 3 rfl
        have HC := Lib.hid (IH.out k y e hy he wr hwr)
        clear hcells hy he
        go_wp2_with fail
        refine HC.out.mono ?_
        rintro r w2 ⟨⟨m2, rfl⟩, hb2⟩
        have qb0 := (hb2.cell (p := ⟨_, _, none⟩) (by (try dsimp only) <;> omega)).trans qa0
        have qb1 := (hb2.cell (p := ⟨_, _, none⟩) (by (try dsimp only) <;> omega)).trans qa1
        have qb2 := (hb2.cell (p := ⟨_, _, none⟩) (by (try dsimp only) <;> omega)).trans qa2
        have qb3 := (hb2.cell (p := ⟨_, _, none⟩) (by (try dsimp only) <;> omega)).trans qa3
        have hz2 := hb2.size
        cases m2
        · go_wp2_with fail
          go_ret
          exact ⟨⟨_, rfl⟩, hbr.trans (hb2.mono hbr.size)⟩
        · go_wp2_with fail
          all_goals
            go_roundw
            case rel => exact ⟨k + 1, by omega, by go_num, hbr.trans (hb2.mono hbr.size), by omega, qb0, qb1, qb2, qb3⟩
            case measure => simp [intOf]; omega
      · have hkn : ¬ ((k : Int) < (n : Int)) := by omega
        have hwr := hb.trans (hbr.mono hb.size)
        have HC := Lib.hid (HCT.out wr hwr)
        by_cases h300 : text.size ≤ 300
        · by_cases h8 : n ≤ 8
          · have h300' : (text.size : Int) ≤ 300 := by omega
            have h8' : (n : Int) ≤ 8 := by omega
            go_wp2_with fail
            refine HC.out.mono ?_
            rintro r w2 ⟨⟨m2, rfl⟩, hb2⟩
            go_wp2_with fail
            go_ret
            exact ⟨⟨_, rfl⟩, hbr.trans (hb2.mono hbr.size)⟩
          · have h300' : (text.size : Int) ≤ 300 := by omega
            have h8' : ¬ ((n : Int) ≤ 8) := by omega
            go_wp2_with fail
            go_ret
            exact ⟨by first | exact ⟨false, rfl⟩ | exact .inl rfl, hbr⟩
        · have h300' : ¬ ((text.size : Int) ≤ 300) := by omega
          go_wp2_with fail
          go_ret
          exact ⟨by first | exact ⟨false, rfl⟩ | exact .inl rfl, hbr⟩
theorem small_any {w : World} {e : Ex} {x : It} (h : Rp w e x) : Calls Try.prog 34 #[x.val] w fun r w'' => (∃ m : Bool, r = .returned (.bool m)) ∧ Below w.heap.size w w'' := small_from h w (Below.refl _ _)

end Xp
end Go.Proofs.Ytdnnnajohdohaaa
