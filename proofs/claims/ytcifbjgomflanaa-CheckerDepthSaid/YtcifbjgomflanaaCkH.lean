/-
  Checker: how deep a sum may be. No condition.
-/
import Derived.Test.YtcifbjgomflanaaCkG
import Derived.BigQuiet
import Derived.StillTailTactics
import Derived.Lib.Overlaps
import Derived.Deep.DeepCutAuto
set_option maxRecDepth 100000
set_option linter.unusedVariables false
set_option linter.unusedSimpArgs false
namespace Go.Proofs.Ytcifbjgomflanaa
open Go.RowKit

namespace Ck
open Xp
set_option maxHeartbeats 8000000 in
theorem CheckerDepth_true (m : Nat) (hm : m ≤ 40) (w : World) : Calls Try.prog 5 #[.int .u8 (m : Int), .bool true] w fun r w' => r = .returned (.bool true) ∧ Below w.heap.size w w' := by
  have h40 : ¬ (40 : Int) < (m : Int) := by omega
  have hwm : IntKind.i64.wrap (m : Int) = (m : Int) := IntWalk.i64_in _ (by omega)
  go_enter Try.func5, Try.ntmps5
  go_upto_region 4 with (fail)
  (obtain ⟨W, hWW, hbW, hzW, f1W, qfa⟩ := box1 w #[.int .i64 3, .int .i64 0, .string ⟨#[102, 97, 109, 105, 108, 121]⟩, .slice none 0 0] 24; rw [← hWW]; have qa0 : W.cell? ⟨w.heap.size, 0, none⟩ = some (.int .i64 3) := f1W 0 _ rfl; have qa1 : W.cell? ⟨w.heap.size, 1, none⟩ = some (.int .i64 0) := f1W 1 _ rfl; have qa2 : W.cell? ⟨w.heap.size, 2, none⟩ = some (.string ⟨#[102, 97, 109, 105, 108, 121]⟩) := f1W 2 _ rfl; have qa3 : W.cell? ⟨w.heap.size, 3, none⟩ = some (.slice none 0 0) := f1W 3 _ rfl; clear hWW f1W)
  have hT := hbW
  have hgW : w.heap.size < W.heap.size := hzW
  go_upto_region 7 with (fail)
  obtain ⟨U, hSU, u0, u1, u2, u3, hfarU, hfrU, hblU, hszU⟩ := put4 w.heap.size (a' := .int .i64 1) (b' := .int .i64 7) (c' := .string ⟨#[]⟩) (d' := .slice none 0 0) qa0 qa1 qa2 qa3
  rw [← hSU]
  clear hSU
  replace hT := hT.trans (hblU _ (Nat.le_refl _))
  replace hgW : w.heap.size < U.heap.size := by omega
  have ufa : ∀ j, U.frozen? ⟨w.heap.size, j, none⟩ = false := fun j => (hfrU _ j).trans (qfa j)
  clear hfarU hfrU hblU
  go_wp2_with fail
  go_loopw [8] (fun i wr => ∃ (k : Nat) (x : It), k ≤ m ∧ i = .int .i64 k ∧ Below w.heap.size w wr ∧ w.heap.size < wr.heap.size ∧ wr.cell? ⟨w.heap.size, 0, none⟩ = some (.int .i64 x.op) ∧ wr.cell? ⟨w.heap.size, 1, none⟩ = some (.int .i64 x.num) ∧ wr.cell? ⟨w.heap.size, 2, none⟩ = some (.string x.text) ∧ wr.cell? ⟨w.heap.size, 3, none⟩ = some (.slice x.A x.n x.c) ∧ (∀ j, wr.frozen? ⟨w.heap.size, j, none⟩ = false) ∧ RpG w.heap.size wr (depN k) x) (fun i _ => m - (intOf i).toNat)
  case atStart => exact ⟨0, ⟨1, 7, ⟨#[]⟩, none, 0, 0⟩, Nat.zero_le _, rfl, hT, hgW, u0, u1, u2, u3, ufa, RpG.leaf _ _ _ _ _⟩
  case round =>
    clear hT hbW qa0 qa1 qa2 qa3 qfa hgW hzW u0 u1 u2 u3 ufa
    obtain ⟨k, x, hk, rfl, hbr, hgr, qa0, qa1, qa2, qa3, qfa, hG⟩ := hrel
    have HG := Lib.hid hG
    clear hG
    have hsr := hbr.size
    by_cases hlt : k < m
    · go_upto_region 12 with (fail)
      obtain ⟨V, hWV, hbV, hzV, f1V, f2V, -, fr2V⟩ := box2 wr #[.int .i64 x.op, .int .i64 x.num, .string x.text, .slice x.A x.n x.c] 24 #[.int .i64 11, .int .i64 0, .string ⟨#[]⟩, .slice (some ⟨wr.heap.size, 0, none⟩) 1 1] 24
      rw [← hWV]
      have hown0 : Ow (wr.alloc (.cells #[.int .i64 x.op, .int .i64 x.num, .string x.text, .slice x.A x.n x.c] 24)) wr.heap.size 24 (.slice (some ⟨wr.heap.size, 0, none⟩) 1 1) [x] :=
        World.ownsRow_lit wr #[.int .i64 x.op, .int .i64 x.num, .string x.text, .slice x.A x.n x.c] 1 (Nat.le_refl _) (by unfold maxLen; decide) rfl
      have hownV := hown0.alloc (.cells #[.int .i64 11, .int .i64 0, .string ⟨#[]⟩, .slice (some ⟨wr.heap.size, 0, none⟩) 1 1] 24)
      rw [← hWV] at hownV
      have HOV := Lib.hid hownV
      have HO0 := Lib.hid hown0
      clear hown0 hownV
      have mb0 : V.cell? ⟨wr.heap.size + 1, 0, none⟩ = some (.int .i64 11) := f2V 0 _ rfl
      have mb1 : V.cell? ⟨wr.heap.size + 1, 1, none⟩ = some (.int .i64 0) := f2V 1 _ rfl
      have mb2 : V.cell? ⟨wr.heap.size + 1, 2, none⟩ = some (.string ⟨#[]⟩) := f2V 2 _ rfl
      have mb3 : V.cell? ⟨wr.heap.size + 1, 3, none⟩ = some (.slice (some ⟨wr.heap.size, 0, none⟩) 1 1) := f2V 3 _ rfl
      have hbV0 := hbV
      (have hzhbV := hbV.size; replace qa0 := (hbV.cell (p := ⟨_, _, none⟩) (by (try dsimp only) <;> omega)).trans qa0; replace qa1 := (hbV.cell (p := ⟨_, _, none⟩) (by (try dsimp only) <;> omega)).trans qa1; replace qa2 := (hbV.cell (p := ⟨_, _, none⟩) (by (try dsimp only) <;> omega)).trans qa2; replace qa3 := (hbV.cell (p := ⟨_, _, none⟩) (by (try dsimp only) <;> omega)).trans qa3; replace qfa := fun j => (hbV.frozen (p := ⟨_, j, none⟩) (by (try dsimp only) <;> omega)).trans (qfa j); replace hbr := Below.trans hbr (Below.mono hbV (by omega)))
      clear f1V f2V hWV
      have hgV : w.heap.size < V.heap.size := by omega
      have hgV1 : wr.heap.size + 1 < V.heap.size := hzV
      go_upto_region 14 with (at_builtin; go_must (
            refine wpl_append1 _ rfl (.tmp 30) (.tmp 33) 22 rfl wr.heap.size 24 _ 56 Try.underlying22 info_ex rfl (.slice (some ⟨wr.heap.size, 0, none⟩) 1 1) [x] rfl (HOV.out.alloc _) _ ⟨1, (k : Int), ⟨#[]⟩, none, 0, 0⟩ rfl (fun j u hu => cells_new _ _ _ _ _ (by simp) u hu) (by simp) (by omega) (by rw [alloc_size]; omega) ?_
            intro v2 w2 hown2 hu2
            have hbv2 := hu2.belowBase (HOV.out.alloc _) (hbV0.alloc (by omega) _) (by rw [alloc_size]; omega)
            have hbVA := (Below.refl V.heap.size V).alloc (Nat.le_refl _) (.cells #[.int .i64 1, .int .i64 (k : Int), .string ⟨#[]⟩, .slice none 0 0] 24)
            replace mb0 := (grown_fresh HO0.out hu2.grew (b := wr.heap.size + 1) (by rw [alloc_size]; exact Nat.le_refl _) (by rw [alloc_size]; omega) 0).trans ((hbVA.cell (p := ⟨_, _, none⟩) hgV1).trans mb0)
            replace mb1 := (grown_fresh HO0.out hu2.grew (b := wr.heap.size + 1) (by rw [alloc_size]; exact Nat.le_refl _) (by rw [alloc_size]; omega) 1).trans ((hbVA.cell (p := ⟨_, _, none⟩) hgV1).trans mb1)
            replace mb2 := (grown_fresh HO0.out hu2.grew (b := wr.heap.size + 1) (by rw [alloc_size]; exact Nat.le_refl _) (by rw [alloc_size]; omega) 2).trans ((hbVA.cell (p := ⟨_, _, none⟩) hgV1).trans mb2)
            replace mb3 := (grown_fresh HO0.out hu2.grew (b := wr.heap.size + 1) (by rw [alloc_size]; exact Nat.le_refl _) (by rw [alloc_size]; omega) 3).trans ((hbVA.cell (p := ⟨_, _, none⟩) hgV1).trans mb3)
            have mfb : ∀ j, w2.frozen? ⟨wr.heap.size + 1, j, none⟩ = false := fun j => (grown_freshF HO0.out hu2.grew (b := wr.heap.size + 1) (by rw [alloc_size]; exact Nat.le_refl _) (by rw [alloc_size]; omega) j).trans ((hbVA.frozen (p := ⟨_, _, none⟩) hgV1).trans (fr2V j))
            obtain ⟨A2, c2, hv2, hsl2⟩ := hown2.sl
            replace hv2 : v2 = .slice A2 2 c2 := hv2
            subst hv2
            have hat : Value.ownBlock (.slice A2 2 c2) ≠ some (wr.heap.size + 1) := fun hh => by
              rcases hu2.at_ with h1 | ⟨g, h1, h2⟩
              · rw [h1] at hh; injection hh with hh; exact absurd (show wr.heap.size = wr.heap.size + 1 from hh) (by omega)
              · rw [h1] at hh; injection hh with hh; rw [alloc_size] at h2; omega
            have hsz2 := hu2.size
            rw [alloc_size] at hsz2
            have HOW := Lib.hid hown2
            clear hu2 hown2 hbVA hsl2
            have hbq : Below wr.heap.size V w2 := ⟨hbv2.os.trans hbV0.os.symm, hbv2.tape.trans hbV0.tape.symm, hbv2.output.trans hbV0.output.symm, by omega, fun b hb => (hbv2.block b hb).trans (hbV0.block b hb).symm⟩
            replace qa0 := (hbq.cell (p := ⟨w.heap.size, 0, none⟩) hgr).trans qa0
            replace qa1 := (hbq.cell (p := ⟨w.heap.size, 1, none⟩) hgr).trans qa1
            replace qa2 := (hbq.cell (p := ⟨w.heap.size, 2, none⟩) hgr).trans qa2
            replace qa3 := (hbq.cell (p := ⟨w.heap.size, 3, none⟩) hgr).trans qa3
            replace qfa : ∀ j, w2.frozen? ⟨w.heap.size, j, none⟩ = false := fun j => (hbq.frozen (p := ⟨w.heap.size, j, none⟩) hgr).trans (qfa j)
            replace hbr := hbr.trans (hbq.mono (by omega))
            clear hbq))
      have hown3 := HOW.out.setFar (p := ⟨wr.heap.size + 1, 3, none⟩) hat (.slice A2 2 c2)
      obtain ⟨W3, hS3, hn3, hfar3, hfr3, hbl3, hsz3⟩ := set1 (wr.heap.size + 1) 3 (u := .slice A2 2 c2) mb3
      rw [← hS3] at hown3
      rw [← hS3]
      clear hS3
      replace mb3 := hn3
      have hb3 := hbl3 wr.heap.size (by omega)
      replace hbr := hbr.trans (hb3.mono (by omega))
      replace qa0 := (hfar3 w.heap.size 0 (.inl (by omega))).trans qa0
      replace qa1 := (hfar3 w.heap.size 1 (.inl (by omega))).trans qa1
      replace qa2 := (hfar3 w.heap.size 2 (.inl (by omega))).trans qa2
      replace qa3 := (hfar3 w.heap.size 3 (.inl (by omega))).trans qa3
      replace qfa : ∀ j, W3.frozen? ⟨w.heap.size, j, none⟩ = false := fun j => (hfr3 _ j).trans (qfa j)
      replace mb0 := (hfar3 _ _ (by omega)).trans mb0
      replace mb1 := (hfar3 _ _ (by omega)).trans mb1
      replace mb2 := (hfar3 _ _ (by omega)).trans mb2
      have hsl3 : Sl W3 A2 2 c2 [x, ⟨1, (k : Int), ⟨#[]⟩, none, 0, 0⟩] := by
        obtain ⟨A', c', hv, hs⟩ := hown3.sl
        injection hv with e1 e2 e3
        subst e1 e3
        exact hs
      have hA2 : ∀ ad, A2 = some ad → ad.block ≠ w.heap.size := fun ad hh hb => by
        subst hh
        have := (HOW.out.lt ad.block rfl).1
        omega
      have hb4 := hbv2.trans hb3
      have HG2 := Lib.hid (RpG.two 11 0 ⟨#[]⟩ HG.out (RpG.leaf _ _ _ _ _) hsl3 hA2 hb4.size fun b o hb _ => hb4.cell (p := ⟨b, o, none⟩) hb)
      clear hsl3 hA2 hb4 hb3 hbv2 hfar3 hfr3 hbl3 hn3 hown3 HOW hat mfb HOV HO0 HG
      have hgm : wr.heap.size + 1 < W3.heap.size := by omega
      have hgm0 : w.heap.size < W3.heap.size := by omega
      go_upto_region 10 with (fail)
      obtain ⟨V2, hS, n0, n1, n2, n3, hfar, hfr, hbl, hsz⟩ := put4 w.heap.size (a' := .int .i64 11) (b' := .int .i64 0) (c' := .string ⟨#[]⟩) (d' := .slice A2 2 c2) qa0 qa1 qa2 qa3
      rw [← hS]
      clear hS
      go_wp2_with fail
      go_roundw
      case rel => exact ⟨k + 1, ⟨11, 0, ⟨#[]⟩, A2, 2, c2⟩, by omega, by go_num, hbr.trans (hbl _ (Nat.le_refl _)), by omega, n0, n1, n2, n3, fun j => (hfr _ j).trans (qfa j), HG2.out.on hsz fun b o _ hne => hfar b o hne⟩
      case measure => simp [intOf]; omega
    · obtain rfl : k = m := by omega
      have hkn : ¬ ((k : Int) < (k : Int)) := by omega
      have HP := Lib.hid HG.out.rp
      by_cases h16 : k < 16
      · have hE := srt_depN 16 k (by omega)
        rw [if_pos h16] at hE
        have HE := Lib.hid hE
        clear hE
        have h16' : ¬ (16 : Int) ≤ (k : Int) := by omega
        go_wp2_with fail
        refine (expr_s _ x _ 1 0 HE.out HP.out).mono ?_
        rintro r w3 ⟨rfl, hb3⟩
        replace hbr := hbr.trans (hb3.mono (by omega))
        have hz3 := hbr.size
        go_wp2_with fail
        refine (awake_any _).mono ?_
        rintro r w6 ⟨rfl, hb6⟩
        have hbE := hbr.trans (hb6.mono (by omega))
        go_wp2_with fail
        go_ret
        exact ⟨rfl, hbE⟩
      · have hE := srt_depN 16 k (by omega)
        rw [if_neg h16] at hE
        have HE := Lib.hid hE
        clear hE
        have h16' : (16 : Int) ≤ (k : Int) := by omega
        go_wp2_with fail
        refine (expr_s _ x _ 0 24 HE.out HP.out).mono ?_
        rintro r w3 ⟨rfl, hb3⟩
        replace hbr := hbr.trans (hb3.mono (by omega))
        have hz3 := hbr.size
        go_wp2_with fail
        refine (awake_any _).mono ?_
        rintro r w6 ⟨rfl, hb6⟩
        have hbE := hbr.trans (hb6.mono (by omega))
        go_wp2_with fail
        go_ret
        exact ⟨rfl, hbE⟩
set_option maxHeartbeats 4000000 in
theorem CheckerDepth_run (n : Int) (b : Bool) (hn : 0 ≤ n) (w : World) : Calls Try.prog 5 #[.int .u8 n, .bool b] w fun r w' => r = .returned (.bool true) ∧ Below w.heap.size w w' := by
  by_cases h : 40 < n
  · go_enter Try.func5, Try.ntmps5
    go_wp2_with fail
    refine (awake_any _).mono ?_
    rintro r w6 ⟨rfl, hb6⟩
    go_wp2_with fail
    go_ret
    exact ⟨rfl, hb6⟩
  · obtain ⟨m, rfl⟩ : ∃ m : Nat, n = (m : Int) := ⟨n.toNat, by omega⟩
    cases b
    · exact CheckerDepth_false m (by omega) w
    · exact CheckerDepth_true m (by omega) w
end Ck
end Go.Proofs.Ytcifbjgomflanaa
