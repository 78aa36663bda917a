/-
  Disputes: Pending. No condition.
-/
import Derived.Test.YthidlakkpdbeaaaDpD
import Derived.BigQuiet
import Derived.StillTailTactics
import Derived.Lib.Overlaps
import Derived.Deep.DeepCutAuto
import Derived.Deep.RegionWith
import Derived.Laws.Rows
set_option maxRecDepth 100000
set_option linter.unusedVariables false
set_option linter.unusedSimpArgs false
namespace Go.Proofs.Ythidlakkpdbeaaa
open Go.RowKit

namespace Dp
theorem propB_in {d : Dsp} (h : propB d = true) : (d.st = 1 ∨ d.st = 2 ∨ d.st = 3) ∧ 1 ≤ d.amt ∧ d.amt ≤ 1125899906842624 ∧ 0 ≤ d.cr ∧ d.cr ≤ d.amt := by
  unfold propB at h
  rw [Bool.and_eq_true, Bool.and_eq_true] at h
  obtain ⟨⟨h1, h2⟩, h3⟩ := h
  have h4 := numB_iff.1 h1
  by_cases s1 : d.st = 1 ∨ d.st = 3
  · rw [if_pos s1, decide_eq_true_eq] at h3
    omega
  · rw [if_neg s1] at h3
    by_cases s2 : d.st = 2
    · rw [if_pos s2, Bool.and_eq_true, decide_eq_true_eq, decide_eq_true_eq] at h3
      omega
    · rw [if_neg s2] at h3
      cases h3
theorem dropc2 {α : Type} {l : List α} {k : Nat} {s : α} (h : l[k]? = some s) : l.drop k = s :: l.drop (k + 1) := by
  obtain ⟨hk, rfl⟩ := List.getElem?_eq_some_iff.1 h
  exact List.drop_eq_getElem_cons hk
def pendF (a : Int) : Int → List Dsp → Int
  | n, [] => n
  | n, d :: l => pendF a (if d.acc = a ∧ d.st = 1 then (if 1125899906842624 < n + d.amt then 1125899906842624 else n + d.amt) else n) l
set_option maxHeartbeats 8000000 in
theorem refpending_any (a : Int) (A : Option Addr) (n c : Nat) (ds : List Dsp) (w : World) (h : Sl w A n c ds) (hp : ∀ (i : Nat) (d : Dsp), ds[i]? = some d → propB d = true) :
    Calls Try.prog 14 #[.slice A n c, .int .i64 a] w fun r w' => r = .returned (.int .i64 (pendF a 0 ds)) ∧ Below w.heap.size w w' := by
  have hn := h.nmax
  have hlen := Lib.hid h.len
  have H := Lib.hid h
  have HP := Lib.hid hp
  clear h hp
  go_enter Try.func14, Try.ntmps14
  go_wp2_with fail
  go_loopw [5, 6] (fun s i wr => ∃ (k : Nat) (m : Int), k ≤ n ∧ i = .int .i64 k ∧ s = .int .i64 m ∧ 0 ≤ m ∧ m ≤ 1125899906842624 ∧ Below w.heap.size w wr ∧ pendF a 0 ds = pendF a m (ds.drop k)) (fun _ i _ => n - (intOf i).toNat)
  case atStart => exact ⟨0, 0, Nat.zero_le _, rfl, rfl, by omega, by omega, Below.refl _ _, rfl⟩
  case round =>
    obtain ⟨k, m, hk, rfl, rfl, hm0, hm1, hbT, hF⟩ := hrel
    have HF := Lib.hid hF
    clear hF
    have hsz := hbT.size
    by_cases hlt : k < n
    · obtain ⟨b, off, rfl, hbw, hc⟩ := H.out.baseIn hbT (by omega)
      obtain ⟨d, hr⟩ := H.out.get (k := k) (by omega)
      (have c0 : wr.cell? ⟨b, off + k * 7, none⟩ = some (.int .i64 d.id) := Sl.at_ hc hr 0 rfl; have c1 : wr.cell? ⟨b, off + k * 7 + 1, none⟩ = some (.int .i64 d.acc) := Sl.at_ hc hr 1 rfl; have c2 : wr.cell? ⟨b, off + k * 7 + 2, none⟩ = some (.int .i64 d.use) := Sl.at_ hc hr 2 rfl; have c3 : wr.cell? ⟨b, off + k * 7 + 3, none⟩ = some (.int .i64 d.amt) := Sl.at_ hc hr 3 rfl; have c4 : wr.cell? ⟨b, off + k * 7 + 4, none⟩ = some (.int .i64 d.st) := Sl.at_ hc hr 4 rfl; have c5 : wr.cell? ⟨b, off + k * 7 + 5, none⟩ = some (.int .i64 d.cr) := Sl.at_ hc hr 5 rfl; have c6 : wr.cell? ⟨b, off + k * 7 + 6, none⟩ = some (.int .i64 d.at_) := Sl.at_ hc hr 6 rfl)
      have HR := Lib.hid hr
      have hpd := HP.out k d hr
      obtain ⟨hst3, ha1, ha2, hcr1, hcr2⟩ := propB_in hpd
      have hbr : b < wr.heap.size := by omega
      have HD := Lib.hid (dropc2 hr)
      clear hr hc hpd
      have hw : IntKind.i64.wrap (m + d.amt) = m + d.amt := IntWalk.i64_in _ (by omega)
      by_cases h1 : d.acc = a
      · have q1 : (d.acc == a) = true := by simpa using h1
        by_cases h2 : d.st = 1
        · have q2 : (d.st == 1) = true := by simpa using h2
          have HN := Lib.hid (HF.out.trans (by rw [HD.out, pendF, if_pos ⟨h1, h2⟩]))
          have hmn : 0 ≤ (if 1125899906842624 < m + d.amt then 1125899906842624 else m + d.amt) ∧ (if 1125899906842624 < m + d.amt then 1125899906842624 else m + d.amt) ≤ 1125899906842624 := by split <;> omega
          have HMN := Lib.hid hmn
          clear h1 h2 hst3 hmn
          go_wp2_with fail
          go_roundw
          case rel => exact ⟨k + 1, _, by omega, by go_num, rfl, HMN.out.1, HMN.out.2, hbT, HN.out⟩
          case measure => simp [intOf]; omega
        · have q2 : (d.st == 1) = false := by simpa using h2
          have HN := Lib.hid (HF.out.trans (by rw [HD.out, pendF, if_neg (fun h => h2 h.2)]))
          clear h1 h2 hst3
          go_wp2_with fail
          go_roundw
          case rel => exact ⟨k + 1, m, by omega, by go_num, rfl, hm0, hm1, hbT, HN.out⟩
          case measure => simp [intOf]; omega
      · have q1 : (d.acc == a) = false := by simpa using h1
        have HN := Lib.hid (HF.out.trans (by rw [HD.out, pendF, if_neg (fun h => h1 h.1)]))
        clear h1 hst3
        go_wp2_with fail
        go_roundw
        case rel => exact ⟨k + 1, m, by omega, by go_num, rfl, hm0, hm1, hbT, HN.out⟩
        case measure => simp [intOf]; omega
    · obtain rfl : k = n := by omega
      have hkn : ¬ ((k : Int) < (k : Int)) := by omega
      have HG := Lib.hid (HF.out.trans (by rw [List.drop_of_length_le (by have := hlen.out; omega), pendF]))
      go_wp2_with fail
      go_ret
      exact ⟨ret_int (by rw [HG.out]), hbT⟩
set_option maxHeartbeats 8000000 in
theorem pending_any (a : Int) (A : Option Addr) (n c : Nat) (ds : List Dsp) (w : World) (h : Sl w A n c ds) (hp : ∀ (i : Nat) (d : Dsp), ds[i]? = some d → propB d = true) :
    Calls Try.prog 13 #[.slice A n c, .int .i64 a] w fun r w' => r = .returned (.int .i64 (pendF a 0 ds)) ∧ Below w.heap.size w w' := by
  have hn := h.nmax
  have hlen := Lib.hid h.len
  have H := Lib.hid h
  have HP := Lib.hid hp
  clear h hp
  go_enter Try.func13, Try.ntmps13
  go_upto_region 2 with (fail)
  (obtain ⟨W, hWW, hbW, hzW, f1W, sfa⟩ := box1 w #[.int .i64 0, .int .i64 0, .int .i64 0, .int .i64 0] 64; rw [← hWW]; have sa0 : W.cell? ⟨w.heap.size, 0, none⟩ = some (.int .i64 0) := f1W 0 _ rfl; have sa1 : W.cell? ⟨w.heap.size, 1, none⟩ = some (.int .i64 0) := f1W 1 _ rfl; have sa2 : W.cell? ⟨w.heap.size, 2, none⟩ = some (.int .i64 0) := f1W 2 _ rfl; have sa3 : W.cell? ⟨w.heap.size, 3, none⟩ = some (.int .i64 0) := f1W 3 _ rfl; clear hWW f1W)
  have hg0 : w.heap.size < W.heap.size := hzW
  go_wp2_with fail
  go_loopw [10] (fun i wr => ∃ (k : Nat) (m m2 m3 : Int), k ≤ n ∧ i = .int .i64 k ∧ Below w.heap.size w wr ∧ w.heap.size < wr.heap.size ∧ (∀ j, wr.frozen? ⟨w.heap.size, j, none⟩ = false) ∧ wr.cell? ⟨w.heap.size, 0, none⟩ = some (.int .i64 0) ∧ wr.cell? ⟨w.heap.size, 1, none⟩ = some (.int .i64 m) ∧ wr.cell? ⟨w.heap.size, 2, none⟩ = some (.int .i64 m2) ∧ wr.cell? ⟨w.heap.size, 3, none⟩ = some (.int .i64 m3) ∧
      0 ≤ m ∧ m ≤ 1125899906842624 ∧ 0 ≤ m2 ∧ m2 ≤ 1125899906842624 ∧ 0 ≤ m3 ∧ m3 ≤ 1125899906842624 ∧ pendF a 0 ds = pendF a m (ds.drop k)) (fun i _ => n - (intOf i).toNat)
  case atStart => exact ⟨0, 0, 0, 0, Nat.zero_le _, rfl, hbW, hg0, sfa, sa0, sa1, sa2, sa3, by omega, by omega, by omega, by omega, by omega, by omega, rfl⟩
  case round =>
    clear sa0 sa1 sa2 sa3 sfa hbW
    obtain ⟨k, m, m2, m3, hk, rfl, hbA, hgr, sfa, sa0, sa1, sa2, sa3, hm0, hm1, hm20, hm21, hm30, hm31, hF⟩ := hrel
    have HF := Lib.hid hF
    clear hF
    by_cases hlt : k < n
    · have hbT := hbA
      have hsz := hbT.size
      obtain ⟨b, off, rfl, hbw, hc⟩ := H.out.baseIn hbT (by omega)
      obtain ⟨d, hr⟩ := H.out.get (k := k) (by omega)
      (have c0 : wr.cell? ⟨b, off + k * 7, none⟩ = some (.int .i64 d.id) := Sl.at_ hc hr 0 rfl; have c1 : wr.cell? ⟨b, off + k * 7 + 1, none⟩ = some (.int .i64 d.acc) := Sl.at_ hc hr 1 rfl; have c2 : wr.cell? ⟨b, off + k * 7 + 2, none⟩ = some (.int .i64 d.use) := Sl.at_ hc hr 2 rfl; have c3 : wr.cell? ⟨b, off + k * 7 + 3, none⟩ = some (.int .i64 d.amt) := Sl.at_ hc hr 3 rfl; have c4 : wr.cell? ⟨b, off + k * 7 + 4, none⟩ = some (.int .i64 d.st) := Sl.at_ hc hr 4 rfl; have c5 : wr.cell? ⟨b, off + k * 7 + 5, none⟩ = some (.int .i64 d.cr) := Sl.at_ hc hr 5 rfl; have c6 : wr.cell? ⟨b, off + k * 7 + 6, none⟩ = some (.int .i64 d.at_) := Sl.at_ hc hr 6 rfl)
      have HR := Lib.hid hr
      have hpd := HP.out k d hr
      obtain ⟨hst3, ha1, ha2, hcr1, hcr2⟩ := propB_in hpd
      have hbr : b < wr.heap.size := by omega
      have HD := Lib.hid (dropc2 hr)
      clear hr hc hpd
      clear hbT
      by_cases h1 : d.acc = a
      · have q1 : (d.acc == a) = true := by simpa using h1
        rcases hst3 with hs | hs | hs
        · have HN := Lib.hid (HF.out.trans (by rw [HD.out, pendF, if_pos ⟨h1, hs⟩]))
          clear h1
          have hw : IntKind.i64.wrap (m + d.amt) = m + d.amt := IntWalk.i64_in _ (by omega)
          have hmn : 0 ≤ (if 1125899906842624 < m + d.amt then 1125899906842624 else m + d.amt) ∧ (if 1125899906842624 < m + d.amt then 1125899906842624 else m + d.amt) ≤ 1125899906842624 := by split <;> omega
          have HMN := Lib.hid hmn
          clear hmn
          have e4 : wr.cell? ⟨b, off + k * 7 + 4, none⟩ = some (.int .i64 1) := by rw [c4, hs]
          clear c4
          have hs2 := Lib.hid hs
          clear hs
          go_upto_region 5 with (fail)
          (obtain ⟨V, hWV, hbV, hzV, f1V, qfa⟩ := box1 wr #[.int .i64 d.id, .int .i64 d.acc, .int .i64 d.use, .int .i64 d.amt, .int .i64 1, .int .i64 d.cr, .int .i64 d.at_] 24; rw [← hWV]; have qa0 : V.cell? ⟨wr.heap.size, 0, none⟩ = some (.int .i64 d.id) := f1V 0 _ rfl; have qa1 : V.cell? ⟨wr.heap.size, 1, none⟩ = some (.int .i64 d.acc) := f1V 1 _ rfl; have qa2 : V.cell? ⟨wr.heap.size, 2, none⟩ = some (.int .i64 d.use) := f1V 2 _ rfl; have qa3 : V.cell? ⟨wr.heap.size, 3, none⟩ = some (.int .i64 d.amt) := f1V 3 _ rfl; have qa4 : V.cell? ⟨wr.heap.size, 4, none⟩ = some (.int .i64 1) := f1V 4 _ rfl; have qa5 : V.cell? ⟨wr.heap.size, 5, none⟩ = some (.int .i64 d.cr) := f1V 5 _ rfl; have qa6 : V.cell? ⟨wr.heap.size, 6, none⟩ = some (.int .i64 d.at_) := f1V 6 _ rfl; clear hWV f1V)
          (have hzhbV := hbV.size; replace sa0 := (hbV.cell (p := ⟨_, _, none⟩) (by (try dsimp only) <;> omega)).trans sa0; replace sa1 := (hbV.cell (p := ⟨_, _, none⟩) (by (try dsimp only) <;> omega)).trans sa1; replace sa2 := (hbV.cell (p := ⟨_, _, none⟩) (by (try dsimp only) <;> omega)).trans sa2; replace sa3 := (hbV.cell (p := ⟨_, _, none⟩) (by (try dsimp only) <;> omega)).trans sa3; replace sfa := fun j => (hbV.frozen (p := ⟨_, j, none⟩) (by (try dsimp only) <;> omega)).trans (sfa j); replace hbA := Below.trans hbA (Below.mono hbV (by omega)))
          have hgV : w.heap.size < V.heap.size := by omega
          have hbV1 : wr.heap.size < V.heap.size := hzV
          clear c0 c1 c2 c3 c5 c6 e4
          go_upto_region 6 with (fail)
          go_still_tail 11, (by kernel_rfl)
          change wpList _ _ _ _ _ V.drew
          go_upto_region 7 with (fail)
          obtain ⟨X, hS, hn1, hfar, hfr, hbl, hsz2⟩ := set1 w.heap.size 1 (u := .int .i64 ((if 1125899906842624 < m + d.amt then 1125899906842624 else m + d.amt))) sa1
          rw [← hS]
          clear hS
          replace sa1 := hn1
          replace sa0 := (hfar w.heap.size 0 (by omega)).trans sa0
          replace sa2 := (hfar w.heap.size 2 (by omega)).trans sa2
          replace sa3 := (hfar w.heap.size 3 (by omega)).trans sa3
          replace sfa : ∀ j, X.frozen? ⟨w.heap.size, j, none⟩ = false := fun j => (hfr _ j).trans (sfa j)
          replace hbA := hbA.trans (hbl _ (by omega))
          clear hn1 hfar hfr hbl
          obtain ⟨U, hU⟩ : ∃ U, U = X.drew := ⟨_, rfl⟩
          have hbU : Below X.heap.size X U := by rw [hU]; exact (Below.refl _ _).drew
          rw [← hU]
          clear hU
          (have hzhbU := hbU.size; replace sa0 := (hbU.cell (p := ⟨_, _, none⟩) (by (try dsimp only) <;> omega)).trans sa0; replace sa1 := (hbU.cell (p := ⟨_, _, none⟩) (by (try dsimp only) <;> omega)).trans sa1; replace sa2 := (hbU.cell (p := ⟨_, _, none⟩) (by (try dsimp only) <;> omega)).trans sa2; replace sa3 := (hbU.cell (p := ⟨_, _, none⟩) (by (try dsimp only) <;> omega)).trans sa3; replace sfa := fun j => (hbU.frozen (p := ⟨_, j, none⟩) (by (try dsimp only) <;> omega)).trans (sfa j); replace hbA := Below.trans hbA (Below.mono hbU (by omega)))
          go_wp2_with fail
          go_roundw
          case rel => exact ⟨k + 1, _, m2, m3, by omega, by go_num, hbA, by omega, sfa, sa0, sa1, sa2, sa3, HMN.out.1, HMN.out.2, hm20, hm21, hm30, hm31, HN.out⟩
          case measure => simp [intOf]; omega
        · have HN := Lib.hid (HF.out.trans (by rw [HD.out, pendF, if_neg (fun h => by have := h.2; omega)]))
          clear h1
          have hw : IntKind.i64.wrap (m2 + d.amt) = m2 + d.amt := IntWalk.i64_in _ (by omega)
          have hmn : 0 ≤ (if 1125899906842624 < m2 + d.amt then 1125899906842624 else m2 + d.amt) ∧ (if 1125899906842624 < m2 + d.amt then 1125899906842624 else m2 + d.amt) ≤ 1125899906842624 := by split <;> omega
          have HMN := Lib.hid hmn
          clear hmn
          have e4 : wr.cell? ⟨b, off + k * 7 + 4, none⟩ = some (.int .i64 2) := by rw [c4, hs]
          clear c4
          have hs2 := Lib.hid hs
          clear hs
          go_upto_region 5 with (fail)
          (obtain ⟨V, hWV, hbV, hzV, f1V, qfa⟩ := box1 wr #[.int .i64 d.id, .int .i64 d.acc, .int .i64 d.use, .int .i64 d.amt, .int .i64 2, .int .i64 d.cr, .int .i64 d.at_] 24; rw [← hWV]; have qa0 : V.cell? ⟨wr.heap.size, 0, none⟩ = some (.int .i64 d.id) := f1V 0 _ rfl; have qa1 : V.cell? ⟨wr.heap.size, 1, none⟩ = some (.int .i64 d.acc) := f1V 1 _ rfl; have qa2 : V.cell? ⟨wr.heap.size, 2, none⟩ = some (.int .i64 d.use) := f1V 2 _ rfl; have qa3 : V.cell? ⟨wr.heap.size, 3, none⟩ = some (.int .i64 d.amt) := f1V 3 _ rfl; have qa4 : V.cell? ⟨wr.heap.size, 4, none⟩ = some (.int .i64 2) := f1V 4 _ rfl; have qa5 : V.cell? ⟨wr.heap.size, 5, none⟩ = some (.int .i64 d.cr) := f1V 5 _ rfl; have qa6 : V.cell? ⟨wr.heap.size, 6, none⟩ = some (.int .i64 d.at_) := f1V 6 _ rfl; clear hWV f1V)
          (have hzhbV := hbV.size; replace sa0 := (hbV.cell (p := ⟨_, _, none⟩) (by (try dsimp only) <;> omega)).trans sa0; replace sa1 := (hbV.cell (p := ⟨_, _, none⟩) (by (try dsimp only) <;> omega)).trans sa1; replace sa2 := (hbV.cell (p := ⟨_, _, none⟩) (by (try dsimp only) <;> omega)).trans sa2; replace sa3 := (hbV.cell (p := ⟨_, _, none⟩) (by (try dsimp only) <;> omega)).trans sa3; replace sfa := fun j => (hbV.frozen (p := ⟨_, j, none⟩) (by (try dsimp only) <;> omega)).trans (sfa j); replace hbA := Below.trans hbA (Below.mono hbV (by omega)))
          have hgV : w.heap.size < V.heap.size := by omega
          have hbV1 : wr.heap.size < V.heap.size := hzV
          clear c0 c1 c2 c3 c5 c6 e4
          go_upto_region 6 with (fail)
          go_still_tail 11, (by kernel_rfl)
          change wpList _ _ _ _ _ V.drew
          go_upto_region 7 with (fail)
          obtain ⟨X, hS, hn1, hfar, hfr, hbl, hsz2⟩ := set1 w.heap.size 2 (u := .int .i64 ((if 1125899906842624 < m2 + d.amt then 1125899906842624 else m2 + d.amt))) sa2
          rw [← hS]
          clear hS
          replace sa2 := hn1
          replace sa0 := (hfar w.heap.size 0 (by omega)).trans sa0
          replace sa1 := (hfar w.heap.size 1 (by omega)).trans sa1
          replace sa3 := (hfar w.heap.size 3 (by omega)).trans sa3
          replace sfa : ∀ j, X.frozen? ⟨w.heap.size, j, none⟩ = false := fun j => (hfr _ j).trans (sfa j)
          replace hbA := hbA.trans (hbl _ (by omega))
          clear hn1 hfar hfr hbl
          obtain ⟨U, hU⟩ : ∃ U, U = X.drew := ⟨_, rfl⟩
          have hbU : Below X.heap.size X U := by rw [hU]; exact (Below.refl _ _).drew
          rw [← hU]
          clear hU
          (have hzhbU := hbU.size; replace sa0 := (hbU.cell (p := ⟨_, _, none⟩) (by (try dsimp only) <;> omega)).trans sa0; replace sa1 := (hbU.cell (p := ⟨_, _, none⟩) (by (try dsimp only) <;> omega)).trans sa1; replace sa2 := (hbU.cell (p := ⟨_, _, none⟩) (by (try dsimp only) <;> omega)).trans sa2; replace sa3 := (hbU.cell (p := ⟨_, _, none⟩) (by (try dsimp only) <;> omega)).trans sa3; replace sfa := fun j => (hbU.frozen (p := ⟨_, j, none⟩) (by (try dsimp only) <;> omega)).trans (sfa j); replace hbA := Below.trans hbA (Below.mono hbU (by omega)))
          go_wp2_with fail
          go_roundw
          case rel => exact ⟨k + 1, m, _, m3, by omega, by go_num, hbA, by omega, sfa, sa0, sa1, sa2, sa3, hm0, hm1, HMN.out.1, HMN.out.2, hm30, hm31, HN.out⟩
          case measure => simp [intOf]; omega
        · have HN := Lib.hid (HF.out.trans (by rw [HD.out, pendF, if_neg (fun h => by have := h.2; omega)]))
          clear h1
          have hw : IntKind.i64.wrap (m3 + d.amt) = m3 + d.amt := IntWalk.i64_in _ (by omega)
          have hmn : 0 ≤ (if 1125899906842624 < m3 + d.amt then 1125899906842624 else m3 + d.amt) ∧ (if 1125899906842624 < m3 + d.amt then 1125899906842624 else m3 + d.amt) ≤ 1125899906842624 := by split <;> omega
          have HMN := Lib.hid hmn
          clear hmn
          have e4 : wr.cell? ⟨b, off + k * 7 + 4, none⟩ = some (.int .i64 3) := by rw [c4, hs]
          clear c4
          have hs2 := Lib.hid hs
          clear hs
          go_upto_region 5 with (fail)
          (obtain ⟨V, hWV, hbV, hzV, f1V, qfa⟩ := box1 wr #[.int .i64 d.id, .int .i64 d.acc, .int .i64 d.use, .int .i64 d.amt, .int .i64 3, .int .i64 d.cr, .int .i64 d.at_] 24; rw [← hWV]; have qa0 : V.cell? ⟨wr.heap.size, 0, none⟩ = some (.int .i64 d.id) := f1V 0 _ rfl; have qa1 : V.cell? ⟨wr.heap.size, 1, none⟩ = some (.int .i64 d.acc) := f1V 1 _ rfl; have qa2 : V.cell? ⟨wr.heap.size, 2, none⟩ = some (.int .i64 d.use) := f1V 2 _ rfl; have qa3 : V.cell? ⟨wr.heap.size, 3, none⟩ = some (.int .i64 d.amt) := f1V 3 _ rfl; have qa4 : V.cell? ⟨wr.heap.size, 4, none⟩ = some (.int .i64 3) := f1V 4 _ rfl; have qa5 : V.cell? ⟨wr.heap.size, 5, none⟩ = some (.int .i64 d.cr) := f1V 5 _ rfl; have qa6 : V.cell? ⟨wr.heap.size, 6, none⟩ = some (.int .i64 d.at_) := f1V 6 _ rfl; clear hWV f1V)
          (have hzhbV := hbV.size; replace sa0 := (hbV.cell (p := ⟨_, _, none⟩) (by (try dsimp only) <;> omega)).trans sa0; replace sa1 := (hbV.cell (p := ⟨_, _, none⟩) (by (try dsimp only) <;> omega)).trans sa1; replace sa2 := (hbV.cell (p := ⟨_, _, none⟩) (by (try dsimp only) <;> omega)).trans sa2; replace sa3 := (hbV.cell (p := ⟨_, _, none⟩) (by (try dsimp only) <;> omega)).trans sa3; replace sfa := fun j => (hbV.frozen (p := ⟨_, j, none⟩) (by (try dsimp only) <;> omega)).trans (sfa j); replace hbA := Below.trans hbA (Below.mono hbV (by omega)))
          have hgV : w.heap.size < V.heap.size := by omega
          have hbV1 : wr.heap.size < V.heap.size := hzV
          clear c0 c1 c2 c3 c5 c6 e4
          go_upto_region 6 with (fail)
          go_still_tail 11, (by kernel_rfl)
          change wpList _ _ _ _ _ V.drew
          go_upto_region 7 with (fail)
          obtain ⟨X, hS, hn1, hfar, hfr, hbl, hsz2⟩ := set1 w.heap.size 3 (u := .int .i64 ((if 1125899906842624 < m3 + d.amt then 1125899906842624 else m3 + d.amt))) sa3
          rw [← hS]
          clear hS
          replace sa3 := hn1
          replace sa0 := (hfar w.heap.size 0 (by omega)).trans sa0
          replace sa1 := (hfar w.heap.size 1 (by omega)).trans sa1
          replace sa2 := (hfar w.heap.size 2 (by omega)).trans sa2
          replace sfa : ∀ j, X.frozen? ⟨w.heap.size, j, none⟩ = false := fun j => (hfr _ j).trans (sfa j)
          replace hbA := hbA.trans (hbl _ (by omega))
          clear hn1 hfar hfr hbl
          obtain ⟨U, hU⟩ : ∃ U, U = X.drew := ⟨_, rfl⟩
          have hbU : Below X.heap.size X U := by rw [hU]; exact (Below.refl _ _).drew
          rw [← hU]
          clear hU
          (have hzhbU := hbU.size; replace sa0 := (hbU.cell (p := ⟨_, _, none⟩) (by (try dsimp only) <;> omega)).trans sa0; replace sa1 := (hbU.cell (p := ⟨_, _, none⟩) (by (try dsimp only) <;> omega)).trans sa1; replace sa2 := (hbU.cell (p := ⟨_, _, none⟩) (by (try dsimp only) <;> omega)).trans sa2; replace sa3 := (hbU.cell (p := ⟨_, _, none⟩) (by (try dsimp only) <;> omega)).trans sa3; replace sfa := fun j => (hbU.frozen (p := ⟨_, j, none⟩) (by (try dsimp only) <;> omega)).trans (sfa j); replace hbA := Below.trans hbA (Below.mono hbU (by omega)))
          go_wp2_with fail
          go_roundw
          case rel => exact ⟨k + 1, m, m2, _, by omega, by go_num, hbA, by omega, sfa, sa0, sa1, sa2, sa3, hm0, hm1, hm20, hm21, HMN.out.1, HMN.out.2, HN.out⟩
          case measure => simp [intOf]; omega
      · have q1 : (d.acc == a) = false := by simpa using h1
        have HN := Lib.hid (HF.out.trans (by rw [HD.out, pendF, if_neg (fun h => h1 h.1)]))
        clear h1 hst3
        go_upto_region 5 with (fail)
        (obtain ⟨V, hWV, hbV, hzV, f1V, qfa⟩ := box1 wr #[.int .i64 d.id, .int .i64 d.acc, .int .i64 d.use, .int .i64 d.amt, .int .i64 d.st, .int .i64 d.cr, .int .i64 d.at_] 24; rw [← hWV]; have qa0 : V.cell? ⟨wr.heap.size, 0, none⟩ = some (.int .i64 d.id) := f1V 0 _ rfl; have qa1 : V.cell? ⟨wr.heap.size, 1, none⟩ = some (.int .i64 d.acc) := f1V 1 _ rfl; have qa2 : V.cell? ⟨wr.heap.size, 2, none⟩ = some (.int .i64 d.use) := f1V 2 _ rfl; have qa3 : V.cell? ⟨wr.heap.size, 3, none⟩ = some (.int .i64 d.amt) := f1V 3 _ rfl; have qa4 : V.cell? ⟨wr.heap.size, 4, none⟩ = some (.int .i64 d.st) := f1V 4 _ rfl; have qa5 : V.cell? ⟨wr.heap.size, 5, none⟩ = some (.int .i64 d.cr) := f1V 5 _ rfl; have qa6 : V.cell? ⟨wr.heap.size, 6, none⟩ = some (.int .i64 d.at_) := f1V 6 _ rfl; clear hWV f1V)
        (have hzhbV := hbV.size; replace sa0 := (hbV.cell (p := ⟨_, _, none⟩) (by (try dsimp only) <;> omega)).trans sa0; replace sa1 := (hbV.cell (p := ⟨_, _, none⟩) (by (try dsimp only) <;> omega)).trans sa1; replace sa2 := (hbV.cell (p := ⟨_, _, none⟩) (by (try dsimp only) <;> omega)).trans sa2; replace sa3 := (hbV.cell (p := ⟨_, _, none⟩) (by (try dsimp only) <;> omega)).trans sa3; replace sfa := fun j => (hbV.frozen (p := ⟨_, j, none⟩) (by (try dsimp only) <;> omega)).trans (sfa j); replace hbA := Below.trans hbA (Below.mono hbV (by omega)))
        have hgV : w.heap.size < V.heap.size := by omega
        clear c0 c1 c2 c3 c4 c5 c6
        go_wp2_with fail
        go_roundw
        case rel => exact ⟨k + 1, m, m2, m3, by omega, by go_num, hbA, hgV, sfa, sa0, sa1, sa2, sa3, hm0, hm1, hm20, hm21, hm30, hm31, HN.out⟩
        case measure => simp [intOf]; omega
    · obtain rfl : k = n := by omega
      have hkn : ¬ ((k : Int) < (k : Int)) := by omega
      have HG := Lib.hid (HF.out.trans (by rw [List.drop_of_length_le (by have := hlen.out; omega), pendF]))
      go_wp2_with fail
      go_ret
      exact ⟨ret_int (by rw [HG.out]), hbA⟩
end Dp
end Go.Proofs.Ythidlakkpdbeaaa
