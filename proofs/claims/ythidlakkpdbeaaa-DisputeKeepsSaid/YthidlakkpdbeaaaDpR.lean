/-
  Disputes: among. No condition.
-/
import Derived.Test.YthidlakkpdbeaaaDpQ
import Derived.BigQuiet
import Derived.StillTailTactics
import Derived.Lib.Overlaps
import Derived.Deep.DeepCutAuto
import Derived.Deep.RegionWith
import Derived.Laws.Rows
set_option maxRecDepth 100000
set_option linter.unusedVariables false
set_option linter.unusedSimpArgs false
namespace Go.Proofs.Ythidlakkpdbeaaa
open Go.RowKit

namespace Dp
set_option maxHeartbeats 8000000 in
theorem among_any (e : Dsp) (A : Option Addr) (n c : Nat) (ds : List Dsp) (w : World) (h : Sl w A n c ds) (hm : e ∈ ds) :
    Calls Try.prog 25 #[.slice A n c, e.val] w fun r w' => r = .returned (.bool true) ∧ Below w.heap.size w w' := by
  have hn := h.nmax
  have hlen := Lib.hid h.len
  have H := Lib.hid h
  obtain ⟨p, hp⟩ := List.getElem?_of_mem hm
  have HP := Lib.hid hp
  clear h hm hp
  unfold Dsp.val
  go_enter Try.func25, Try.ntmps25
  go_upto_region 1 with (fail)
  (obtain ⟨W, hWW, hbW, hzW, f1W, zfa⟩ := box1 w #[.int .i64 e.id, .int .i64 e.acc, .int .i64 e.use, .int .i64 e.amt, .int .i64 e.st, .int .i64 e.cr, .int .i64 e.at_] 24; rw [← hWW]; have za0 : W.cell? ⟨w.heap.size, 0, none⟩ = some (.int .i64 e.id) := f1W 0 _ rfl; have za1 : W.cell? ⟨w.heap.size, 1, none⟩ = some (.int .i64 e.acc) := f1W 1 _ rfl; have za2 : W.cell? ⟨w.heap.size, 2, none⟩ = some (.int .i64 e.use) := f1W 2 _ rfl; have za3 : W.cell? ⟨w.heap.size, 3, none⟩ = some (.int .i64 e.amt) := f1W 3 _ rfl; have za4 : W.cell? ⟨w.heap.size, 4, none⟩ = some (.int .i64 e.st) := f1W 4 _ rfl; have za5 : W.cell? ⟨w.heap.size, 5, none⟩ = some (.int .i64 e.cr) := f1W 5 _ rfl; have za6 : W.cell? ⟨w.heap.size, 6, none⟩ = some (.int .i64 e.at_) := f1W 6 _ rfl; clear hWW f1W)
  have hg0 : w.heap.size < W.heap.size := hzW
  have ya0 := za0
  have ya1 := za1
  have ya2 := za2
  have ya3 := za3
  have ya4 := za4
  have ya5 := za5
  have ya6 := za6
  clear za0 za1 za2 za3 za4 za5 za6
  go_wp2_with fail
  go_loopw [5] (fun i wr => ∃ k : Nat, k ≤ n ∧ i = .int .i64 k ∧ Below w.heap.size w wr ∧ w.heap.size < wr.heap.size ∧ wr.cell? ⟨w.heap.size, 0, none⟩ = some (.int .i64 e.id) ∧ wr.cell? ⟨w.heap.size, 1, none⟩ = some (.int .i64 e.acc) ∧ wr.cell? ⟨w.heap.size, 2, none⟩ = some (.int .i64 e.use) ∧ wr.cell? ⟨w.heap.size, 3, none⟩ = some (.int .i64 e.amt) ∧ wr.cell? ⟨w.heap.size, 4, none⟩ = some (.int .i64 e.st) ∧ wr.cell? ⟨w.heap.size, 5, none⟩ = some (.int .i64 e.cr) ∧ wr.cell? ⟨w.heap.size, 6, none⟩ = some (.int .i64 e.at_) ∧ ∀ (j : Nat) (x : Dsp), j < k → ds[j]? = some x → x ≠ e) (fun i _ => n - (intOf i).toNat)
  case atStart => exact ⟨0, Nat.zero_le _, rfl, hbW, hg0, ya0, ya1, ya2, ya3, ya4, ya5, ya6, fun j x hj => absurd hj (by omega)⟩
  case round =>
    clear ya0 ya1 ya2 ya3 ya4 ya5 ya6
    obtain ⟨k, hk, rfl, hb, hgr, qa0, qa1, qa2, qa3, qa4, qa5, qa6, hL⟩ := hrel
    have HL := Lib.hid hL
    clear hL
    by_cases hlt : k < n
    · obtain ⟨b, off, rfl, hbw, hc⟩ := H.out.baseIn hb (by omega)
      obtain ⟨x, hr⟩ := H.out.get (k := k) (by omega)
      (have c0 : wr.cell? ⟨b, off + k * 7, none⟩ = some (.int .i64 x.id) := Sl.at_ hc hr 0 rfl; have c1 : wr.cell? ⟨b, off + k * 7 + 1, none⟩ = some (.int .i64 x.acc) := Sl.at_ hc hr 1 rfl; have c2 : wr.cell? ⟨b, off + k * 7 + 2, none⟩ = some (.int .i64 x.use) := Sl.at_ hc hr 2 rfl; have c3 : wr.cell? ⟨b, off + k * 7 + 3, none⟩ = some (.int .i64 x.amt) := Sl.at_ hc hr 3 rfl; have c4 : wr.cell? ⟨b, off + k * 7 + 4, none⟩ = some (.int .i64 x.st) := Sl.at_ hc hr 4 rfl; have c5 : wr.cell? ⟨b, off + k * 7 + 5, none⟩ = some (.int .i64 x.cr) := Sl.at_ hc hr 5 rfl; have c6 : wr.cell? ⟨b, off + k * 7 + 6, none⟩ = some (.int .i64 x.at_) := Sl.at_ hc hr 6 rfl)
      have HR := Lib.hid hr
      have hne : x ≠ e → ∀ (j : Nat) (y : Dsp), j < k + 1 → ds[j]? = some y → y ≠ e := fun h0 j y hj hy => by
        by_cases hjk : j = k
        · subst hjk
          have := HR.out.symm.trans hy
          injection this with this
          subst this
          exact h0
        · exact HL.out j y (by omega) hy
      clear hr hc
      by_cases f0 : x.id = e.id
      · have b0 : (x.id == e.id) = true := by simpa using f0
        by_cases f1 : x.acc = e.acc
        · have b1 : (x.acc == e.acc) = true := by simpa using f1
          by_cases f2 : x.use = e.use
          · have b2 : (x.use == e.use) = true := by simpa using f2
            by_cases f3 : x.amt = e.amt
            · have b3 : (x.amt == e.amt) = true := by simpa using f3
              by_cases f4 : x.st = e.st
              · have b4 : (x.st == e.st) = true := by simpa using f4
                by_cases f5 : x.cr = e.cr
                · have b5 : (x.cr == e.cr) = true := by simpa using f5
                  by_cases f6 : x.at_ = e.at_
                  · have b6 : (x.at_ == e.at_) = true := by simpa using f6
                    clear f0 f1 f2 f3 f4 f5 f6 hne
                    go_upto_region 4 with (fail)
                    go_still_tail 5, (by kernel_rfl)
                    change wpList _ _ _ _ _ wr.drew
                    go_wp2_with fail
                    go_ret
                    exact ⟨rfl, hb.trans ((Below.refl _ _).drew.mono hb.size)⟩
                  · have b6 : (x.at_ == e.at_) = false := by simpa using f6
                    have HN := Lib.hid (hne (fun h => f6 (by rw [h])))
                    clear hne f0 f1 f2 f3 f4 f5 f6
                    go_upto_region 4 with (fail)
                    go_still_tail 5, (by kernel_rfl)
                    change wpList _ _ _ _ _ wr.drew
                    go_wp2_with fail
                    go_roundw
                    case rel => exact ⟨k + 1, by omega, by go_num, (hb.trans ((Below.refl _ _).drew.mono hb.size)), hgr, qa0, qa1, qa2, qa3, qa4, qa5, qa6, HN.out⟩
                    case measure => simp [intOf]; omega
                · have b5 : (x.cr == e.cr) = false := by simpa using f5
                  have HN := Lib.hid (hne (fun h => f5 (by rw [h])))
                  clear hne f0 f1 f2 f3 f4 f5
                  go_upto_region 4 with (fail)
                  go_still_tail 5, (by kernel_rfl)
                  change wpList _ _ _ _ _ wr.drew
                  go_wp2_with fail
                  go_roundw
                  case rel => exact ⟨k + 1, by omega, by go_num, (hb.trans ((Below.refl _ _).drew.mono hb.size)), hgr, qa0, qa1, qa2, qa3, qa4, qa5, qa6, HN.out⟩
                  case measure => simp [intOf]; omega
              · have b4 : (x.st == e.st) = false := by simpa using f4
                have HN := Lib.hid (hne (fun h => f4 (by rw [h])))
                clear hne f0 f1 f2 f3 f4
                go_upto_region 4 with (fail)
                go_still_tail 5, (by kernel_rfl)
                change wpList _ _ _ _ _ wr.drew
                go_wp2_with fail
                go_roundw
                case rel => exact ⟨k + 1, by omega, by go_num, (hb.trans ((Below.refl _ _).drew.mono hb.size)), hgr, qa0, qa1, qa2, qa3, qa4, qa5, qa6, HN.out⟩
                case measure => simp [intOf]; omega
            · have b3 : (x.amt == e.amt) = false := by simpa using f3
              have HN := Lib.hid (hne (fun h => f3 (by rw [h])))
              clear hne f0 f1 f2 f3
              go_upto_region 4 with (fail)
              go_still_tail 5, (by kernel_rfl)
              change wpList _ _ _ _ _ wr.drew
              go_wp2_with fail
              go_roundw
              case rel => exact ⟨k + 1, by omega, by go_num, (hb.trans ((Below.refl _ _).drew.mono hb.size)), hgr, qa0, qa1, qa2, qa3, qa4, qa5, qa6, HN.out⟩
              case measure => simp [intOf]; omega
          · have b2 : (x.use == e.use) = false := by simpa using f2
            have HN := Lib.hid (hne (fun h => f2 (by rw [h])))
            clear hne f0 f1 f2
            go_upto_region 4 with (fail)
            go_still_tail 5, (by kernel_rfl)
            change wpList _ _ _ _ _ wr.drew
            go_wp2_with fail
            go_roundw
            case rel => exact ⟨k + 1, by omega, by go_num, (hb.trans ((Below.refl _ _).drew.mono hb.size)), hgr, qa0, qa1, qa2, qa3, qa4, qa5, qa6, HN.out⟩
            case measure => simp [intOf]; omega
        · have b1 : (x.acc == e.acc) = false := by simpa using f1
          have HN := Lib.hid (hne (fun h => f1 (by rw [h])))
          clear hne f0 f1
          go_upto_region 4 with (fail)
          go_still_tail 5, (by kernel_rfl)
          change wpList _ _ _ _ _ wr.drew
          go_wp2_with fail
          go_roundw
          case rel => exact ⟨k + 1, by omega, by go_num, (hb.trans ((Below.refl _ _).drew.mono hb.size)), hgr, qa0, qa1, qa2, qa3, qa4, qa5, qa6, HN.out⟩
          case measure => simp [intOf]; omega
      · have b0 : (x.id == e.id) = false := by simpa using f0
        have HN := Lib.hid (hne (fun h => f0 (by rw [h])))
        clear hne f0
        go_upto_region 4 with (fail)
        go_still_tail 5, (by kernel_rfl)
        change wpList _ _ _ _ _ wr.drew
        go_wp2_with fail
        go_roundw
        case rel => exact ⟨k + 1, by omega, by go_num, (hb.trans ((Below.refl _ _).drew.mono hb.size)), hgr, qa0, qa1, qa2, qa3, qa4, qa5, qa6, HN.out⟩
        case measure => simp [intOf]; omega
    · obtain rfl : k = n := by omega
      exfalso
      have h1 := (List.getElem?_eq_some_iff.1 HP.out).1
      have h2 := hlen.out
      exact HL.out p e (by omega) HP.out rfl
end Dp
end Go.Proofs.Ythidlakkpdbeaaa
