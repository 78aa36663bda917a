/-
  Disputes of the reference: numbers, Proper, Valid. No condition.
-/
import Derived.Test.YthidlakkpdbeaaaDpC
import Derived.Test.YthidlakkpdbeaaaSlc
import Derived.BigQuiet
import Derived.StillTailTactics
import Derived.Lib.Overlaps
import Derived.Deep.DeepCutAuto
import Derived.Deep.RegionWith
import Derived.Laws.Rows
set_option maxRecDepth 100000
set_option linter.unusedVariables false
set_option linter.unusedSimpArgs false
namespace Go.Proofs.Ythidlakkpdbeaaa
open Go.RowKit

namespace Dp
theorem numbers_any (d : Dsp) (w : World) : Calls Try.prog 31 #[d.val] w fun r w' => r = .returned (.bool (numB d)) ∧ Below w.heap.size w w' := by
  obtain ⟨nb, hnb⟩ : ∃ nb, numB d = nb := ⟨_, rfl⟩
  have HNB := Lib.hid hnb
  rw [hnb]
  unfold Dsp.val
  cases nb
  · rcases numB_no hnb with h1 | ⟨h1, h2⟩ | ⟨h1, h2, h3⟩ | ⟨h1, h2, h3, h4⟩ | ⟨h1, h2, h3, h4, h5⟩ | ⟨h1, h2, h3, h4, h5, h6⟩ | ⟨h1, h2, h3, h4, h5, h6, h7⟩
    all_goals
      clear hnb
      go_enter Try.func31, Try.ntmps31
      go_upto_region 1 with (fail)
      (obtain ⟨W, hWW, hbW, hzW, f1W, qfa⟩ := box1 w #[.int .i64 d.id, .int .i64 d.acc, .int .i64 d.use, .int .i64 d.amt, .int .i64 d.st, .int .i64 d.cr, .int .i64 d.at_] 24; rw [← hWW]; have qa0 : W.cell? ⟨w.heap.size, 0, none⟩ = some (.int .i64 d.id) := f1W 0 _ rfl; have qa1 : W.cell? ⟨w.heap.size, 1, none⟩ = some (.int .i64 d.acc) := f1W 1 _ rfl; have qa2 : W.cell? ⟨w.heap.size, 2, none⟩ = some (.int .i64 d.use) := f1W 2 _ rfl; have qa3 : W.cell? ⟨w.heap.size, 3, none⟩ = some (.int .i64 d.amt) := f1W 3 _ rfl; have qa4 : W.cell? ⟨w.heap.size, 4, none⟩ = some (.int .i64 d.st) := f1W 4 _ rfl; have qa5 : W.cell? ⟨w.heap.size, 5, none⟩ = some (.int .i64 d.cr) := f1W 5 _ rfl; have qa6 : W.cell? ⟨w.heap.size, 6, none⟩ = some (.int .i64 d.at_) := f1W 6 _ rfl; clear hWW f1W)
      go_wp2_with fail
      go_ret
      exact ⟨ret_bool (by first | rfl | exact decide_eq_false (by omega)), hbW⟩
  · obtain ⟨b1, b2, b3, b4, b5, b6, b7⟩ := numB_iff.1 hnb
    clear hnb
    go_enter Try.func31, Try.ntmps31
    go_upto_region 1 with (fail)
    (obtain ⟨W, hWW, hbW, hzW, f1W, qfa⟩ := box1 w #[.int .i64 d.id, .int .i64 d.acc, .int .i64 d.use, .int .i64 d.amt, .int .i64 d.st, .int .i64 d.cr, .int .i64 d.at_] 24; rw [← hWW]; have qa0 : W.cell? ⟨w.heap.size, 0, none⟩ = some (.int .i64 d.id) := f1W 0 _ rfl; have qa1 : W.cell? ⟨w.heap.size, 1, none⟩ = some (.int .i64 d.acc) := f1W 1 _ rfl; have qa2 : W.cell? ⟨w.heap.size, 2, none⟩ = some (.int .i64 d.use) := f1W 2 _ rfl; have qa3 : W.cell? ⟨w.heap.size, 3, none⟩ = some (.int .i64 d.amt) := f1W 3 _ rfl; have qa4 : W.cell? ⟨w.heap.size, 4, none⟩ = some (.int .i64 d.st) := f1W 4 _ rfl; have qa5 : W.cell? ⟨w.heap.size, 5, none⟩ = some (.int .i64 d.cr) := f1W 5 _ rfl; have qa6 : W.cell? ⟨w.heap.size, 6, none⟩ = some (.int .i64 d.at_) := f1W 6 _ rfl; clear hWW f1W)
    go_wp2_with fail
    go_ret
    exact ⟨ret_bool (by first | rfl | exact decide_eq_true (by omega)), hbW⟩
theorem instant_any (t : Int) (w : World) : Calls Try.prog 32 #[.int .i64 t] w fun r w' => r = .returned (.bool (insB t)) ∧ w = w' := by
  by_cases h : 0 ≤ t
  · go_enter Try.func32, Try.ntmps32
    go_wp2_with fail
    go_ret
    exact ⟨ret_bool (by simp [insB, h]), rfl⟩
  · go_enter Try.func32, Try.ntmps32
    go_wp2_with fail
    go_ret
    exact ⟨ret_bool (by simp [insB]; omega), rfl⟩
set_option maxHeartbeats 2000000 in
theorem reffind_any (x : Int) (A : Option Addr) (n c : Nat) (ds : List Dsp) (w : World) (h : Sl w A n c ds) :
    Calls Try.prog 33 #[.slice A n c, .int .i64 x] w fun r w' => ∃ k : Int, r = .returned (.int .i64 k) ∧ ((k = -1 ∧ hasB ds x = false) ∨ ∃ j : Nat, k = (j : Int) ∧ ∃ d, ds[j]? = some d ∧ d.id = x) ∧ Below w.heap.size w w' := by
  have hn := h.nmax
  have hlen := Lib.hid h.len
  have H := Lib.hid h
  clear h
  go_enter Try.func33, Try.ntmps33
  go_wp2_with fail
  go_loopw [5] (fun i wr => ∃ k : Nat, k ≤ n ∧ i = .int .i64 k ∧ Below w.heap.size w wr ∧ hasB (ds.take k) x = false) (fun i _ => n - (intOf i).toNat)
  case atStart => exact ⟨0, Nat.zero_le _, rfl, Below.refl _ _, rfl⟩
  case round =>
    obtain ⟨k, hk, rfl, hb, hF⟩ := hrel
    have HF := Lib.hid hF
    clear hF
    by_cases hlt : k < n
    · obtain ⟨b, off, rfl, hbw, hc⟩ := H.out.baseIn hb (by omega)
      obtain ⟨d, hr⟩ := H.out.get (k := k) (by omega)
      have c0 : wr.cell? ⟨b, off + k * 7, none⟩ = some (.int .i64 d.id) := Sl.at_ hc hr 0 rfl
      have HR := Lib.hid hr
      clear hr hc
      by_cases hdx : d.id = x
      · have q0 : (d.id == x) = true := by simpa using hdx
        have HX := Lib.hid hdx
        clear hdx
        go_wp2_with fail
        go_ret
        exact ⟨_, rfl, .inr ⟨k, rfl, d, HR.out, HX.out⟩, hb⟩
      · have q0 : (d.id == x) = false := by simpa using hdx
        have hst : hasB (ds.take (k + 1)) x = false := by
          have h1 := HF.out
          unfold hasB at h1 ⊢
          rw [List.take_add_one, List.any_append, h1, HR.out]
          simp [hdx]
        have HST := Lib.hid hst
        clear hst hdx
        go_wp2_with fail
        go_roundw
        case rel => exact ⟨k + 1, by omega, by go_num, hb, HST.out⟩
        case measure => simp [intOf]; omega
    · obtain rfl : k = n := by omega
      have hkn : ¬ ((k : Int) < (k : Int)) := by omega
      have HN := Lib.hid (show hasB ds x = false by
        have := HF.out
        rw [List.take_of_length_le (by have := hlen.out; omega)] at this
        exact this)
      go_wp2_with fail
      go_ret
      exact ⟨_, rfl, .inl ⟨rfl, HN.out⟩, hb⟩
set_option maxHeartbeats 2000000 in
theorem disputed_any (u : Int) (A : Option Addr) (n c : Nat) (ds : List Dsp) (w : World) (h : Sl w A n c ds) :
    Calls Try.prog 34 #[.slice A n c, .int .i64 u] w fun r w' => r = .returned (.bool (ds.any (pendB u))) ∧ Below w.heap.size w w' := by
  have hn := h.nmax
  have hlen := Lib.hid h.len
  have H := Lib.hid h
  obtain ⟨bb, hbb⟩ : ∃ bb, ds.any (pendB u) = bb := ⟨_, rfl⟩
  have HBB := Lib.hid hbb
  rw [hbb]
  clear h hbb
  go_enter Try.func34, Try.ntmps34
  go_wp2_with fail
  go_loopw [5] (fun i wr => ∃ k : Nat, k ≤ n ∧ i = .int .i64 k ∧ Below w.heap.size w wr ∧ (ds.take k).any (pendB u) = false) (fun i _ => n - (intOf i).toNat)
  case atStart => exact ⟨0, Nat.zero_le _, rfl, Below.refl _ _, rfl⟩
  case round =>
    obtain ⟨k, hk, rfl, hb, hF⟩ := hrel
    have HF := Lib.hid hF
    clear hF
    by_cases hlt : k < n
    · obtain ⟨b, off, rfl, hbw, hc⟩ := H.out.baseIn hb (by omega)
      obtain ⟨d, hr⟩ := H.out.get (k := k) (by omega)
      have c2 : wr.cell? ⟨b, off + k * 7 + 2, none⟩ = some (.int .i64 d.use) := Sl.at_ hc hr 2 rfl
      have c4 : wr.cell? ⟨b, off + k * 7 + 4, none⟩ = some (.int .i64 d.st) := Sl.at_ hc hr 4 rfl
      have HR := Lib.hid hr
      clear hr hc
      have hst : (ds.take (k + 1)).any (pendB u) = (pendB u d) := by
        rw [List.take_add_one, List.any_append, HF.out, HR.out]
        simp
      have HST := Lib.hid hst
      clear hst
      by_cases h1 : d.st = 1
      · have q0 : (d.st == 1) = true := by simpa using h1
        by_cases h2 : d.use = u
        · have q1 : (d.use == u) = true := by simpa using h2
          have hp : pendB u d = true := by simp [pendB, h1, h2]
          have hany : ds.any (pendB u) = true := by
            have h1 := HST.out.trans hp
            rw [List.any_eq_true] at h1 ⊢
            obtain ⟨y, hy, hy2⟩ := h1
            exact ⟨y, List.mem_of_mem_take hy, hy2⟩
          obtain rfl : bb = true := HBB.out.symm.trans hany
          clear hany h1 h2 hp
          go_wp2_with fail
          go_ret
          exact ⟨rfl, hb⟩
        · have q1 : (d.use == u) = false := by simpa using h2
          have HP := Lib.hid (HST.out.trans (show pendB u d = false by simp [pendB, h2]))
          clear h1 h2
          go_wp2_with fail
          go_roundw
          case rel => exact ⟨k + 1, by omega, by go_num, hb, HP.out⟩
          case measure => simp [intOf]; omega
      · have q0 : (d.st == 1) = false := by simpa using h1
        have HP := Lib.hid (HST.out.trans (show pendB u d = false by simp [pendB, h1]))
        clear h1
        go_wp2_with fail
        go_roundw
        case rel => exact ⟨k + 1, by omega, by go_num, hb, HP.out⟩
        case measure => simp [intOf]; omega
    · obtain rfl : k = n := by omega
      have hkn : ¬ ((k : Int) < (k : Int)) := by omega
      have hany : ds.any (pendB u) = false := by
        have := HF.out
        rw [List.take_of_length_le (by have := hlen.out; omega)] at this
        exact this
      obtain rfl : bb = false := HBB.out.symm.trans hany
      clear hany
      go_wp2_with fail
      go_ret
      exact ⟨rfl, hb⟩
set_option maxHeartbeats 4000000 in
theorem proper_any (d : Dsp) (w : World) : Calls Try.prog 40 #[d.val] w fun r w' => r = .returned (.bool (propB d)) ∧ Below w.heap.size w w' := by
  obtain ⟨nb, hnb⟩ : ∃ nb, numB d = nb := ⟨_, rfl⟩
  have HNB := Lib.hid hnb
  obtain ⟨ib, hib⟩ : ∃ ib, insB d.at_ = ib := ⟨_, rfl⟩
  have HIB := Lib.hid hib
  unfold Dsp.val
  cases nb
  · have HP := Lib.hid (show propB d = false by unfold propB; rw [hnb]; rfl)
    clear hnb hib
    go_enter Try.func40, Try.ntmps40
    go_upto_region 1 with (fail)
    (obtain ⟨W, hWW, hbW, hzW, f1W, qfa⟩ := box1 w #[.int .i64 d.id, .int .i64 d.acc, .int .i64 d.use, .int .i64 d.amt, .int .i64 d.st, .int .i64 d.cr, .int .i64 d.at_] 24; rw [← hWW]; have qa0 : W.cell? ⟨w.heap.size, 0, none⟩ = some (.int .i64 d.id) := f1W 0 _ rfl; have qa1 : W.cell? ⟨w.heap.size, 1, none⟩ = some (.int .i64 d.acc) := f1W 1 _ rfl; have qa2 : W.cell? ⟨w.heap.size, 2, none⟩ = some (.int .i64 d.use) := f1W 2 _ rfl; have qa3 : W.cell? ⟨w.heap.size, 3, none⟩ = some (.int .i64 d.amt) := f1W 3 _ rfl; have qa4 : W.cell? ⟨w.heap.size, 4, none⟩ = some (.int .i64 d.st) := f1W 4 _ rfl; have qa5 : W.cell? ⟨w.heap.size, 5, none⟩ = some (.int .i64 d.cr) := f1W 5 _ rfl; have qa6 : W.cell? ⟨w.heap.size, 6, none⟩ = some (.int .i64 d.at_) := f1W 6 _ rfl; clear hWW f1W)
    have hcx := hbW
    go_wp2_with fail
    refine (numbers_any d _).mono ?_
    rintro r w1 ⟨rfl, hb1⟩
    rw [HNB.out]
    have hT := hbW.trans (hb1.mono (by omega))
    (have hzhb1 := hb1.size; replace qa0 := (hb1.cell (p := ⟨_, _, none⟩) (by (try dsimp only) <;> omega)).trans qa0; replace qa1 := (hb1.cell (p := ⟨_, _, none⟩) (by (try dsimp only) <;> omega)).trans qa1; replace qa2 := (hb1.cell (p := ⟨_, _, none⟩) (by (try dsimp only) <;> omega)).trans qa2; replace qa3 := (hb1.cell (p := ⟨_, _, none⟩) (by (try dsimp only) <;> omega)).trans qa3; replace qa4 := (hb1.cell (p := ⟨_, _, none⟩) (by (try dsimp only) <;> omega)).trans qa4; replace qa5 := (hb1.cell (p := ⟨_, _, none⟩) (by (try dsimp only) <;> omega)).trans qa5; replace qa6 := (hb1.cell (p := ⟨_, _, none⟩) (by (try dsimp only) <;> omega)).trans qa6)
    clear hb1
    have hg1 : w.heap.size < w1.heap.size := by omega
    go_wp2_with fail
    go_ret
    exact ⟨ret_bool (by rw [HP.out]), hT⟩
  · cases ib
    · have HP := Lib.hid (show propB d = false by unfold propB; rw [hnb, hib]; rfl)
      clear hnb hib
      go_enter Try.func40, Try.ntmps40
      go_upto_region 1 with (fail)
      (obtain ⟨W, hWW, hbW, hzW, f1W, qfa⟩ := box1 w #[.int .i64 d.id, .int .i64 d.acc, .int .i64 d.use, .int .i64 d.amt, .int .i64 d.st, .int .i64 d.cr, .int .i64 d.at_] 24; rw [← hWW]; have qa0 : W.cell? ⟨w.heap.size, 0, none⟩ = some (.int .i64 d.id) := f1W 0 _ rfl; have qa1 : W.cell? ⟨w.heap.size, 1, none⟩ = some (.int .i64 d.acc) := f1W 1 _ rfl; have qa2 : W.cell? ⟨w.heap.size, 2, none⟩ = some (.int .i64 d.use) := f1W 2 _ rfl; have qa3 : W.cell? ⟨w.heap.size, 3, none⟩ = some (.int .i64 d.amt) := f1W 3 _ rfl; have qa4 : W.cell? ⟨w.heap.size, 4, none⟩ = some (.int .i64 d.st) := f1W 4 _ rfl; have qa5 : W.cell? ⟨w.heap.size, 5, none⟩ = some (.int .i64 d.cr) := f1W 5 _ rfl; have qa6 : W.cell? ⟨w.heap.size, 6, none⟩ = some (.int .i64 d.at_) := f1W 6 _ rfl; clear hWW f1W)
      have hcx := hbW
      go_wp2_with fail
      refine (numbers_any d _).mono ?_
      rintro r w1 ⟨rfl, hb1⟩
      rw [HNB.out]
      have hT := hbW.trans (hb1.mono (by omega))
      (have hzhb1 := hb1.size; replace qa0 := (hb1.cell (p := ⟨_, _, none⟩) (by (try dsimp only) <;> omega)).trans qa0; replace qa1 := (hb1.cell (p := ⟨_, _, none⟩) (by (try dsimp only) <;> omega)).trans qa1; replace qa2 := (hb1.cell (p := ⟨_, _, none⟩) (by (try dsimp only) <;> omega)).trans qa2; replace qa3 := (hb1.cell (p := ⟨_, _, none⟩) (by (try dsimp only) <;> omega)).trans qa3; replace qa4 := (hb1.cell (p := ⟨_, _, none⟩) (by (try dsimp only) <;> omega)).trans qa4; replace qa5 := (hb1.cell (p := ⟨_, _, none⟩) (by (try dsimp only) <;> omega)).trans qa5; replace qa6 := (hb1.cell (p := ⟨_, _, none⟩) (by (try dsimp only) <;> omega)).trans qa6)
      clear hb1
      have hg1 : w.heap.size < w1.heap.size := by omega
      go_wp2_with fail
      refine (instant_any d.at_ _).mono ?_
      rintro r w2 ⟨rfl, rfl⟩
      rw [HIB.out]
      go_wp2_with fail
      go_ret
      exact ⟨ret_bool (by rw [HP.out]), hT⟩
    · have HP0 := Lib.hid (show propB d = (if d.st = 1 ∨ d.st = 3 then decide (d.cr = 0) else if d.st = 2 then decide (1 ≤ d.cr) && decide (d.cr ≤ d.amt) else false) by unfold propB; rw [hnb, hib]; rfl)
      clear hnb hib
      rcases (show d.st = 1 ∨ (d.st ≠ 1 ∧ d.st = 3) ∨ (d.st ≠ 1 ∧ d.st ≠ 3 ∧ d.st = 2) ∨ (d.st ≠ 1 ∧ d.st ≠ 3 ∧ d.st ≠ 2) by omega) with s1 | ⟨s1, s3⟩ | ⟨s1, s3, s2⟩ | ⟨s1, s3, s2⟩
      · have HP := Lib.hid (HP0.out.trans (if_pos (.inl s1)))
        have e1 : (d.st == 1) = true := by simpa using s1
        clear s1
        go_enter Try.func40, Try.ntmps40
        go_upto_region 1 with (fail)
        (obtain ⟨W, hWW, hbW, hzW, f1W, qfa⟩ := box1 w #[.int .i64 d.id, .int .i64 d.acc, .int .i64 d.use, .int .i64 d.amt, .int .i64 d.st, .int .i64 d.cr, .int .i64 d.at_] 24; rw [← hWW]; have qa0 : W.cell? ⟨w.heap.size, 0, none⟩ = some (.int .i64 d.id) := f1W 0 _ rfl; have qa1 : W.cell? ⟨w.heap.size, 1, none⟩ = some (.int .i64 d.acc) := f1W 1 _ rfl; have qa2 : W.cell? ⟨w.heap.size, 2, none⟩ = some (.int .i64 d.use) := f1W 2 _ rfl; have qa3 : W.cell? ⟨w.heap.size, 3, none⟩ = some (.int .i64 d.amt) := f1W 3 _ rfl; have qa4 : W.cell? ⟨w.heap.size, 4, none⟩ = some (.int .i64 d.st) := f1W 4 _ rfl; have qa5 : W.cell? ⟨w.heap.size, 5, none⟩ = some (.int .i64 d.cr) := f1W 5 _ rfl; have qa6 : W.cell? ⟨w.heap.size, 6, none⟩ = some (.int .i64 d.at_) := f1W 6 _ rfl; clear hWW f1W)
        have hcx := hbW
        go_wp2_with fail
        refine (numbers_any d _).mono ?_
        rintro r w1 ⟨rfl, hb1⟩
        rw [HNB.out]
        have hT := hbW.trans (hb1.mono (by omega))
        (have hzhb1 := hb1.size; replace qa0 := (hb1.cell (p := ⟨_, _, none⟩) (by (try dsimp only) <;> omega)).trans qa0; replace qa1 := (hb1.cell (p := ⟨_, _, none⟩) (by (try dsimp only) <;> omega)).trans qa1; replace qa2 := (hb1.cell (p := ⟨_, _, none⟩) (by (try dsimp only) <;> omega)).trans qa2; replace qa3 := (hb1.cell (p := ⟨_, _, none⟩) (by (try dsimp only) <;> omega)).trans qa3; replace qa4 := (hb1.cell (p := ⟨_, _, none⟩) (by (try dsimp only) <;> omega)).trans qa4; replace qa5 := (hb1.cell (p := ⟨_, _, none⟩) (by (try dsimp only) <;> omega)).trans qa5; replace qa6 := (hb1.cell (p := ⟨_, _, none⟩) (by (try dsimp only) <;> omega)).trans qa6)
        clear hb1
        have hg1 : w.heap.size < w1.heap.size := by omega
        go_wp2_with fail
        refine (instant_any d.at_ _).mono ?_
        rintro r w2 ⟨rfl, rfl⟩
        rw [HIB.out]
        go_wp2_with fail
        go_ret
        exact ⟨ret_bool (by rw [HP.out]; first | rfl | (simp; done)), hT⟩
      · have HP := Lib.hid (HP0.out.trans (if_pos (.inr s3)))
        have e1 : (d.st == 1) = false := by simpa using s1
        have e3 : (d.st == 3) = true := by simpa using s3
        clear s1 s3
        go_enter Try.func40, Try.ntmps40
        go_upto_region 1 with (fail)
        (obtain ⟨W, hWW, hbW, hzW, f1W, qfa⟩ := box1 w #[.int .i64 d.id, .int .i64 d.acc, .int .i64 d.use, .int .i64 d.amt, .int .i64 d.st, .int .i64 d.cr, .int .i64 d.at_] 24; rw [← hWW]; have qa0 : W.cell? ⟨w.heap.size, 0, none⟩ = some (.int .i64 d.id) := f1W 0 _ rfl; have qa1 : W.cell? ⟨w.heap.size, 1, none⟩ = some (.int .i64 d.acc) := f1W 1 _ rfl; have qa2 : W.cell? ⟨w.heap.size, 2, none⟩ = some (.int .i64 d.use) := f1W 2 _ rfl; have qa3 : W.cell? ⟨w.heap.size, 3, none⟩ = some (.int .i64 d.amt) := f1W 3 _ rfl; have qa4 : W.cell? ⟨w.heap.size, 4, none⟩ = some (.int .i64 d.st) := f1W 4 _ rfl; have qa5 : W.cell? ⟨w.heap.size, 5, none⟩ = some (.int .i64 d.cr) := f1W 5 _ rfl; have qa6 : W.cell? ⟨w.heap.size, 6, none⟩ = some (.int .i64 d.at_) := f1W 6 _ rfl; clear hWW f1W)
        have hcx := hbW
        go_wp2_with fail
        refine (numbers_any d _).mono ?_
        rintro r w1 ⟨rfl, hb1⟩
        rw [HNB.out]
        have hT := hbW.trans (hb1.mono (by omega))
        (have hzhb1 := hb1.size; replace qa0 := (hb1.cell (p := ⟨_, _, none⟩) (by (try dsimp only) <;> omega)).trans qa0; replace qa1 := (hb1.cell (p := ⟨_, _, none⟩) (by (try dsimp only) <;> omega)).trans qa1; replace qa2 := (hb1.cell (p := ⟨_, _, none⟩) (by (try dsimp only) <;> omega)).trans qa2; replace qa3 := (hb1.cell (p := ⟨_, _, none⟩) (by (try dsimp only) <;> omega)).trans qa3; replace qa4 := (hb1.cell (p := ⟨_, _, none⟩) (by (try dsimp only) <;> omega)).trans qa4; replace qa5 := (hb1.cell (p := ⟨_, _, none⟩) (by (try dsimp only) <;> omega)).trans qa5; replace qa6 := (hb1.cell (p := ⟨_, _, none⟩) (by (try dsimp only) <;> omega)).trans qa6)
        clear hb1
        have hg1 : w.heap.size < w1.heap.size := by omega
        go_wp2_with fail
        refine (instant_any d.at_ _).mono ?_
        rintro r w2 ⟨rfl, rfl⟩
        rw [HIB.out]
        go_wp2_with fail
        go_ret
        exact ⟨ret_bool (by rw [HP.out]; first | rfl | (simp; done)), hT⟩
      · have HP1 := HP0.out.trans (if_neg (by omega))
        rw [if_pos s2] at HP1
        have HP := Lib.hid HP1
        have e1 : (d.st == 1) = false := by simpa using s1
        have e3 : (d.st == 3) = false := by simpa using s3
        have e2 : (d.st == 2) = true := by simpa using s2
        clear s1 s3 s2 HP1
        by_cases hc1 : 1 ≤ d.cr
        · have HC := Lib.hid hc1
          go_enter Try.func40, Try.ntmps40
          go_upto_region 1 with (fail)
          (obtain ⟨W, hWW, hbW, hzW, f1W, qfa⟩ := box1 w #[.int .i64 d.id, .int .i64 d.acc, .int .i64 d.use, .int .i64 d.amt, .int .i64 d.st, .int .i64 d.cr, .int .i64 d.at_] 24; rw [← hWW]; have qa0 : W.cell? ⟨w.heap.size, 0, none⟩ = some (.int .i64 d.id) := f1W 0 _ rfl; have qa1 : W.cell? ⟨w.heap.size, 1, none⟩ = some (.int .i64 d.acc) := f1W 1 _ rfl; have qa2 : W.cell? ⟨w.heap.size, 2, none⟩ = some (.int .i64 d.use) := f1W 2 _ rfl; have qa3 : W.cell? ⟨w.heap.size, 3, none⟩ = some (.int .i64 d.amt) := f1W 3 _ rfl; have qa4 : W.cell? ⟨w.heap.size, 4, none⟩ = some (.int .i64 d.st) := f1W 4 _ rfl; have qa5 : W.cell? ⟨w.heap.size, 5, none⟩ = some (.int .i64 d.cr) := f1W 5 _ rfl; have qa6 : W.cell? ⟨w.heap.size, 6, none⟩ = some (.int .i64 d.at_) := f1W 6 _ rfl; clear hWW f1W)
          have hcx := hbW
          go_wp2_with fail
          refine (numbers_any d _).mono ?_
          rintro r w1 ⟨rfl, hb1⟩
          rw [HNB.out]
          have hT := hbW.trans (hb1.mono (by omega))
          (have hzhb1 := hb1.size; replace qa0 := (hb1.cell (p := ⟨_, _, none⟩) (by (try dsimp only) <;> omega)).trans qa0; replace qa1 := (hb1.cell (p := ⟨_, _, none⟩) (by (try dsimp only) <;> omega)).trans qa1; replace qa2 := (hb1.cell (p := ⟨_, _, none⟩) (by (try dsimp only) <;> omega)).trans qa2; replace qa3 := (hb1.cell (p := ⟨_, _, none⟩) (by (try dsimp only) <;> omega)).trans qa3; replace qa4 := (hb1.cell (p := ⟨_, _, none⟩) (by (try dsimp only) <;> omega)).trans qa4; replace qa5 := (hb1.cell (p := ⟨_, _, none⟩) (by (try dsimp only) <;> omega)).trans qa5; replace qa6 := (hb1.cell (p := ⟨_, _, none⟩) (by (try dsimp only) <;> omega)).trans qa6)
          clear hb1
          have hg1 : w.heap.size < w1.heap.size := by omega
          go_wp2_with fail
          refine (instant_any d.at_ _).mono ?_
          rintro r w2 ⟨rfl, rfl⟩
          rw [HIB.out]
          go_wp2_with fail
          go_ret
          exact ⟨ret_bool (by rw [HP.out]; have := HC.out; first | rfl | (simp [this]; done) | (simp; omega)), hT⟩
        · have HC := Lib.hid hc1
          go_enter Try.func40, Try.ntmps40
          go_upto_region 1 with (fail)
          (obtain ⟨W, hWW, hbW, hzW, f1W, qfa⟩ := box1 w #[.int .i64 d.id, .int .i64 d.acc, .int .i64 d.use, .int .i64 d.amt, .int .i64 d.st, .int .i64 d.cr, .int .i64 d.at_] 24; rw [← hWW]; have qa0 : W.cell? ⟨w.heap.size, 0, none⟩ = some (.int .i64 d.id) := f1W 0 _ rfl; have qa1 : W.cell? ⟨w.heap.size, 1, none⟩ = some (.int .i64 d.acc) := f1W 1 _ rfl; have qa2 : W.cell? ⟨w.heap.size, 2, none⟩ = some (.int .i64 d.use) := f1W 2 _ rfl; have qa3 : W.cell? ⟨w.heap.size, 3, none⟩ = some (.int .i64 d.amt) := f1W 3 _ rfl; have qa4 : W.cell? ⟨w.heap.size, 4, none⟩ = some (.int .i64 d.st) := f1W 4 _ rfl; have qa5 : W.cell? ⟨w.heap.size, 5, none⟩ = some (.int .i64 d.cr) := f1W 5 _ rfl; have qa6 : W.cell? ⟨w.heap.size, 6, none⟩ = some (.int .i64 d.at_) := f1W 6 _ rfl; clear hWW f1W)
          have hcx := hbW
          go_wp2_with fail
          refine (numbers_any d _).mono ?_
          rintro r w1 ⟨rfl, hb1⟩
          rw [HNB.out]
          have hT := hbW.trans (hb1.mono (by omega))
          (have hzhb1 := hb1.size; replace qa0 := (hb1.cell (p := ⟨_, _, none⟩) (by (try dsimp only) <;> omega)).trans qa0; replace qa1 := (hb1.cell (p := ⟨_, _, none⟩) (by (try dsimp only) <;> omega)).trans qa1; replace qa2 := (hb1.cell (p := ⟨_, _, none⟩) (by (try dsimp only) <;> omega)).trans qa2; replace qa3 := (hb1.cell (p := ⟨_, _, none⟩) (by (try dsimp only) <;> omega)).trans qa3; replace qa4 := (hb1.cell (p := ⟨_, _, none⟩) (by (try dsimp only) <;> omega)).trans qa4; replace qa5 := (hb1.cell (p := ⟨_, _, none⟩) (by (try dsimp only) <;> omega)).trans qa5; replace qa6 := (hb1.cell (p := ⟨_, _, none⟩) (by (try dsimp only) <;> omega)).trans qa6)
          clear hb1
          have hg1 : w.heap.size < w1.heap.size := by omega
          go_wp2_with fail
          refine (instant_any d.at_ _).mono ?_
          rintro r w2 ⟨rfl, rfl⟩
          rw [HIB.out]
          go_wp2_with fail
          go_ret
          exact ⟨ret_bool (by rw [HP.out]; have := HC.out; first | rfl | (simp [this]; done) | (simp; omega)), hT⟩
      · have HP1 := HP0.out.trans (if_neg (by omega))
        rw [if_neg s2] at HP1
        have HP := Lib.hid HP1
        have e1 : (d.st == 1) = false := by simpa using s1
        have e3 : (d.st == 3) = false := by simpa using s3
        have e2 : (d.st == 2) = false := by simpa using s2
        clear s1 s3 s2 HP1
        go_enter Try.func40, Try.ntmps40
        go_upto_region 1 with (fail)
        (obtain ⟨W, hWW, hbW, hzW, f1W, qfa⟩ := box1 w #[.int .i64 d.id, .int .i64 d.acc, .int .i64 d.use, .int .i64 d.amt, .int .i64 d.st, .int .i64 d.cr, .int .i64 d.at_] 24; rw [← hWW]; have qa0 : W.cell? ⟨w.heap.size, 0, none⟩ = some (.int .i64 d.id) := f1W 0 _ rfl; have qa1 : W.cell? ⟨w.heap.size, 1, none⟩ = some (.int .i64 d.acc) := f1W 1 _ rfl; have qa2 : W.cell? ⟨w.heap.size, 2, none⟩ = some (.int .i64 d.use) := f1W 2 _ rfl; have qa3 : W.cell? ⟨w.heap.size, 3, none⟩ = some (.int .i64 d.amt) := f1W 3 _ rfl; have qa4 : W.cell? ⟨w.heap.size, 4, none⟩ = some (.int .i64 d.st) := f1W 4 _ rfl; have qa5 : W.cell? ⟨w.heap.size, 5, none⟩ = some (.int .i64 d.cr) := f1W 5 _ rfl; have qa6 : W.cell? ⟨w.heap.size, 6, none⟩ = some (.int .i64 d.at_) := f1W 6 _ rfl; clear hWW f1W)
        have hcx := hbW
        go_wp2_with fail
        refine (numbers_any d _).mono ?_
        rintro r w1 ⟨rfl, hb1⟩
        rw [HNB.out]
        have hT := hbW.trans (hb1.mono (by omega))
        (have hzhb1 := hb1.size; replace qa0 := (hb1.cell (p := ⟨_, _, none⟩) (by (try dsimp only) <;> omega)).trans qa0; replace qa1 := (hb1.cell (p := ⟨_, _, none⟩) (by (try dsimp only) <;> omega)).trans qa1; replace qa2 := (hb1.cell (p := ⟨_, _, none⟩) (by (try dsimp only) <;> omega)).trans qa2; replace qa3 := (hb1.cell (p := ⟨_, _, none⟩) (by (try dsimp only) <;> omega)).trans qa3; replace qa4 := (hb1.cell (p := ⟨_, _, none⟩) (by (try dsimp only) <;> omega)).trans qa4; replace qa5 := (hb1.cell (p := ⟨_, _, none⟩) (by (try dsimp only) <;> omega)).trans qa5; replace qa6 := (hb1.cell (p := ⟨_, _, none⟩) (by (try dsimp only) <;> omega)).trans qa6)
        clear hb1
        have hg1 : w.heap.size < w1.heap.size := by omega
        go_wp2_with fail
        refine (instant_any d.at_ _).mono ?_
        rintro r w2 ⟨rfl, rfl⟩
        rw [HIB.out]
        go_wp2_with fail
        go_ret
        exact ⟨ret_bool (by rw [HP.out]), hT⟩
theorem dispB_eq (ds : List Dsp) (u : Int) : dispB ds u = ds.any (pendB u) := by
  unfold dispB
  congr 1
  funext d
  unfold pendB
  rw [Bool.and_comm]
def okAt (ds : List Dsp) (i : Nat) (d : Dsp) : Prop := propB d = true ∧ (∀ p, 0 < i → ds[i - 1]? = some p → p.id < d.id) ∧ (d.st = 1 → dispB (ds.take i) d.use = false)
set_option maxHeartbeats 8000000 in
theorem valid_any (A : Option Addr) (n c : Nat) (ds : List Dsp) (w : World) (h : Sl w A n c ds) :
    Calls Try.prog 24 #[.slice A n c] w fun r w' => ∃ b : Bool, r = .returned (.bool b) ∧ (b = true ↔ Vd ds) ∧ Below w.heap.size w w' := by
  have hn := h.nmax
  have hlen := Lib.hid h.len
  have hnc := h.le
  have H := Lib.hid h
  clear h
  go_enter Try.func24, Try.ntmps24
  go_wp2_with fail
  go_loopw [3] (fun i wr => ∃ k : Nat, k ≤ n ∧ i = .int .i64 k ∧ Below w.heap.size w wr ∧ ∀ i d, i < k → ds[i]? = some d → okAt ds i d) (fun i _ => n - (intOf i).toNat)
  case atStart => exact ⟨0, Nat.zero_le _, rfl, Below.refl _ _, fun i d hi => absurd hi (by omega)⟩
  case round =>
    obtain ⟨k, hk, rfl, hb, hV⟩ := hrel
    have HV := Lib.hid hV
    clear hV
    by_cases hlt : k < n
    · obtain ⟨b, off, rfl, hbw, hc⟩ := H.out.baseIn hb (by omega)
      have hbr : b < wr.heap.size := by have := hb.size; omega
      cases k with
      | zero =>
        obtain ⟨d, hr⟩ := H.out.get (k := 0) (by omega)
        have c0 : wr.cell? ⟨b, off, none⟩ = some (.int .i64 d.id) := Sl.at_ hc (i := 0) hr 0 rfl
        have c1 : wr.cell? ⟨b, off + 1, none⟩ = some (.int .i64 d.acc) := Sl.at_ hc (i := 0) hr 1 rfl
        have c2 : wr.cell? ⟨b, off + 2, none⟩ = some (.int .i64 d.use) := Sl.at_ hc (i := 0) hr 2 rfl
        have c3 : wr.cell? ⟨b, off + 3, none⟩ = some (.int .i64 d.amt) := Sl.at_ hc (i := 0) hr 3 rfl
        have c4 : wr.cell? ⟨b, off + 4, none⟩ = some (.int .i64 d.st) := Sl.at_ hc (i := 0) hr 4 rfl
        have c5 : wr.cell? ⟨b, off + 5, none⟩ = some (.int .i64 d.cr) := Sl.at_ hc (i := 0) hr 5 rfl
        have c6 : wr.cell? ⟨b, off + 6, none⟩ = some (.int .i64 d.at_) := Sl.at_ hc (i := 0) hr 6 rfl
        have HR := Lib.hid hr
        obtain ⟨pb, hpb⟩ : ∃ pb, propB d = pb := ⟨_, rfl⟩
        have HPB := Lib.hid hpb
        obtain ⟨db, hdb⟩ : ∃ db, (ds.take (0)).any (pendB d.use) = db := ⟨_, rfl⟩
        have HDB := Lib.hid hdb
        have HDB0 := Lib.hid (show dispB (ds.take (0)) d.use = db by rw [dispB_eq, hdb])
        have hpd : True := trivial
        have hslT := run_slice_to (P := Try.prog) (t := 22) (sz := 7) (A := some ⟨b, off, none⟩) (n := n) (c := c) (k := 0) (by kernel_rfl) (by kernel_rfl) (by omega)
        have HSL := Lib.hid (Sl.takeK (H.out.below hb) (show 0 ≤ n by omega))
        have HNX := Lib.hid (show (propB d = true ∧ (∀ q, 0 < 0 → ds[0 - 1]? = some q → q.id < d.id) ∧ (d.st = 1 → (ds.take (0)).any (pendB d.use) = false)) → ∀ i e, i < 0 + 1 → ds[i]? = some e → okAt ds i e from fun hh i e hi he => by
          by_cases hik : i = 0
          · subst hik
            have := HR.out.symm.trans he
            injection this with this
            subst this
            exact ⟨hh.1, hh.2.1, fun h1 => by rw [dispB_eq]; exact hh.2.2 h1⟩
          · exact HV.out i e (by omega) he)
        clear hpb hdb
        clear hr hc
        cases pb
        · have HBAD := Lib.hid (show ¬ Vd ds from fun hv => by have := (hv _ d HR.out).1; rw [HPB.out] at this; cases this)
          clear hpd
          go_upto_region 4 with (fail)
          have hcr : ∀ z : Wd (Below wr.heap.size wr), ∀ b o, b < wr.heap.size → z.w.cell? ⟨b, o, none⟩ = wr.cell? ⟨b, o, none⟩ := fun z => z.cells
          ((with_reducible refine wp_region_class (Below wr.heap.size wr) ?_ ?_ ?_ ?_); kernel_rfl; kernel_rfl; (exact (Below.refl _ _).drew); (intro hnonemp); skip; (repeat (any_goals (first | go_big_quiet_step (((first | (go_at_call 40; (refine (proper_any d _).mono ?_); rw [HPB.out]; rintro e w' ⟨rfl, hb⟩; exact ⟨rfl, ⟨w', below_wd _ hb⟩, rfl⟩) | (go_at_call 34; (refine (disputed_any d.use _ 0 c (ds.take 0) _ (Sl.below HSL.out (Wd.h _))).mono ?_); rw [HDB.out]; rintro e w' ⟨rfl, hb⟩; exact ⟨rfl, ⟨w', below_wd _ hb⟩, rfl⟩)))) | (refine wpQuiet_step (fun K hK => ?_); go_simp; (first | (refine hK _ ?_; clear hK K) | (split <;> rename_i hg <;> (refine hK _ ?_; clear hK K) <;> (try simp only [Bool.not_eq_true] at hg) <;> (first | simp only [Int.not_lt.2 hg, decide_false] | simp only [Int.not_le.1 hg, decide_true] | simp only [hg, decide_true, decide_false] | skip)))))));  all_goals (refine wpQuiet_nil ?_; intro wq hgq))
          clear hcr
          have hbq := hb.trans (hgq.mono hb.size)
          go_wp2_with fail
          go_ret
          first | exact ⟨_, rfl, ⟨fun h => (by cases h), fun h => absurd h HBAD.out⟩, hbq⟩ | exact .inl ⟨rfl, HBAD.out, hbq⟩
        · have HPV := Lib.hid (show ∀ q, 0 < 0 → ds[0 - 1]? = some q → q.id < d.id from fun q h => absurd h (by omega))
          by_cases hst : d.st = 1
          · have e4 : (d.st == 1) = true := by simpa using hst
            cases db
            · have HOK := Lib.hid (HNX.out ⟨HPB.out, HPV.out, fun _ => HDB.out⟩)
              clear hst
              go_upto_region 4 with (fail)
              have hcr : ∀ z : Wd (Below wr.heap.size wr), ∀ b o, b < wr.heap.size → z.w.cell? ⟨b, o, none⟩ = wr.cell? ⟨b, o, none⟩ := fun z => z.cells
              ((with_reducible refine wp_region_class (Below wr.heap.size wr) ?_ ?_ ?_ ?_); kernel_rfl; kernel_rfl; (exact (Below.refl _ _).drew); (intro hnonemp); skip; (repeat (any_goals (first | go_big_quiet_step (((first | (go_at_call 40; (refine (proper_any d _).mono ?_); rw [HPB.out]; rintro e w' ⟨rfl, hb⟩; exact ⟨rfl, ⟨w', below_wd _ hb⟩, rfl⟩) | (go_at_call 34; (refine (disputed_any d.use _ 0 c (ds.take 0) _ (Sl.below HSL.out (Wd.h _))).mono ?_); rw [HDB.out]; rintro e w' ⟨rfl, hb⟩; exact ⟨rfl, ⟨w', below_wd _ hb⟩, rfl⟩)))) | (refine wpQuiet_step (fun K hK => ?_); go_simp; (first | (refine hK _ ?_; clear hK K) | (split <;> rename_i hg <;> (refine hK _ ?_; clear hK K) <;> (try simp only [Bool.not_eq_true] at hg) <;> (first | simp only [Int.not_lt.2 hg, decide_false] | simp only [Int.not_le.1 hg, decide_true] | simp only [hg, decide_true, decide_false] | skip)))))));  all_goals (refine wpQuiet_nil ?_; intro wq hgq))
              clear hcr
              have hbq := hb.trans (hgq.mono hb.size)
              go_wp2_with fail
              go_roundw
              case rel => exact ⟨0 + 1, by omega, by go_num, hbq, HOK.out⟩
              case measure => simp [intOf]; omega
            · have HBAD := Lib.hid (show ¬ Vd ds from fun hv => by have := (hv _ d HR.out).2.2 hst; rw [HDB0.out] at this; cases this)
              clear hst
              go_upto_region 4 with (fail)
              have hcr : ∀ z : Wd (Below wr.heap.size wr), ∀ b o, b < wr.heap.size → z.w.cell? ⟨b, o, none⟩ = wr.cell? ⟨b, o, none⟩ := fun z => z.cells
              ((with_reducible refine wp_region_class (Below wr.heap.size wr) ?_ ?_ ?_ ?_); kernel_rfl; kernel_rfl; (exact (Below.refl _ _).drew); (intro hnonemp); skip; (repeat (any_goals (first | go_big_quiet_step (((first | (go_at_call 40; (refine (proper_any d _).mono ?_); rw [HPB.out]; rintro e w' ⟨rfl, hb⟩; exact ⟨rfl, ⟨w', below_wd _ hb⟩, rfl⟩) | (go_at_call 34; (refine (disputed_any d.use _ 0 c (ds.take 0) _ (Sl.below HSL.out (Wd.h _))).mono ?_); rw [HDB.out]; rintro e w' ⟨rfl, hb⟩; exact ⟨rfl, ⟨w', below_wd _ hb⟩, rfl⟩)))) | (refine wpQuiet_step (fun K hK => ?_); go_simp; (first | (refine hK _ ?_; clear hK K) | (split <;> rename_i hg <;> (refine hK _ ?_; clear hK K) <;> (try simp only [Bool.not_eq_true] at hg) <;> (first | simp only [Int.not_lt.2 hg, decide_false] | simp only [Int.not_le.1 hg, decide_true] | simp only [hg, decide_true, decide_false] | skip)))))));  all_goals (refine wpQuiet_nil ?_; intro wq hgq))
              clear hcr
              have hbq := hb.trans (hgq.mono hb.size)
              go_wp2_with fail
              go_ret
              first | exact ⟨_, rfl, ⟨fun h => (by cases h), fun h => absurd h HBAD.out⟩, hbq⟩ | exact .inl ⟨rfl, HBAD.out, hbq⟩
          · have e4 : (d.st == 1) = false := by simpa using hst
            have HOK := Lib.hid (HNX.out ⟨HPB.out, HPV.out, fun h => absurd h hst⟩)
            clear hst
            go_upto_region 4 with (fail)
            have hcr : ∀ z : Wd (Below wr.heap.size wr), ∀ b o, b < wr.heap.size → z.w.cell? ⟨b, o, none⟩ = wr.cell? ⟨b, o, none⟩ := fun z => z.cells
            ((with_reducible refine wp_region_class (Below wr.heap.size wr) ?_ ?_ ?_ ?_); kernel_rfl; kernel_rfl; (exact (Below.refl _ _).drew); (intro hnonemp); skip; (repeat (any_goals (first | go_big_quiet_step (((first | (go_at_call 40; (refine (proper_any d _).mono ?_); rw [HPB.out]; rintro e w' ⟨rfl, hb⟩; exact ⟨rfl, ⟨w', below_wd _ hb⟩, rfl⟩) | (go_at_call 34; (refine (disputed_any d.use _ 0 c (ds.take 0) _ (Sl.below HSL.out (Wd.h _))).mono ?_); rw [HDB.out]; rintro e w' ⟨rfl, hb⟩; exact ⟨rfl, ⟨w', below_wd _ hb⟩, rfl⟩)))) | (refine wpQuiet_step (fun K hK => ?_); go_simp; (first | (refine hK _ ?_; clear hK K) | (split <;> rename_i hg <;> (refine hK _ ?_; clear hK K) <;> (try simp only [Bool.not_eq_true] at hg) <;> (first | simp only [Int.not_lt.2 hg, decide_false] | simp only [Int.not_le.1 hg, decide_true] | simp only [hg, decide_true, decide_false] | skip)))))));  all_goals (refine wpQuiet_nil ?_; intro wq hgq))
            clear hcr
            have hbq := hb.trans (hgq.mono hb.size)
            go_wp2_with fail
            go_roundw
            case rel => exact ⟨0 + 1, by omega, by go_num, hbq, HOK.out⟩
            case measure => simp [intOf]; omega
      | succ k =>
        have hsub : ((k + 1 : Nat) : Int) - 1 = (k : Int) := by omega
        obtain ⟨p, hp⟩ := H.out.get (k := k) (by omega)
        obtain ⟨d, hr⟩ := H.out.get (k := k + 1) (by omega)
        have c0 : wr.cell? ⟨b, off + (k + 1) * 7, none⟩ = some (.int .i64 d.id) := Sl.at_ hc hr 0 rfl
        have c1 : wr.cell? ⟨b, off + (k + 1) * 7 + 1, none⟩ = some (.int .i64 d.acc) := Sl.at_ hc hr 1 rfl
        have c2 : wr.cell? ⟨b, off + (k + 1) * 7 + 2, none⟩ = some (.int .i64 d.use) := Sl.at_ hc hr 2 rfl
        have c3 : wr.cell? ⟨b, off + (k + 1) * 7 + 3, none⟩ = some (.int .i64 d.amt) := Sl.at_ hc hr 3 rfl
        have c4 : wr.cell? ⟨b, off + (k + 1) * 7 + 4, none⟩ = some (.int .i64 d.st) := Sl.at_ hc hr 4 rfl
        have c5 : wr.cell? ⟨b, off + (k + 1) * 7 + 5, none⟩ = some (.int .i64 d.cr) := Sl.at_ hc hr 5 rfl
        have c6 : wr.cell? ⟨b, off + (k + 1) * 7 + 6, none⟩ = some (.int .i64 d.at_) := Sl.at_ hc hr 6 rfl
        have HR := Lib.hid hr
        obtain ⟨pb, hpb⟩ : ∃ pb, propB d = pb := ⟨_, rfl⟩
        have HPB := Lib.hid hpb
        obtain ⟨db, hdb⟩ : ∃ db, (ds.take (k + 1)).any (pendB d.use) = db := ⟨_, rfl⟩
        have HDB := Lib.hid hdb
        have HDB0 := Lib.hid (show dispB (ds.take (k + 1)) d.use = db by rw [dispB_eq, hdb])
        have hpd : True := trivial
        have hslT := run_slice_to (P := Try.prog) (t := 22) (sz := 7) (A := some ⟨b, off, none⟩) (n := n) (c := c) (k := k + 1) (by kernel_rfl) (by kernel_rfl) (by omega)
        have HSL := Lib.hid (Sl.takeK (H.out.below hb) (show k + 1 ≤ n by omega))
        have HNX := Lib.hid (show (propB d = true ∧ (∀ q, 0 < k + 1 → ds[k + 1 - 1]? = some q → q.id < d.id) ∧ (d.st = 1 → (ds.take (k + 1)).any (pendB d.use) = false)) → ∀ i e, i < k + 1 + 1 → ds[i]? = some e → okAt ds i e from fun hh i e hi he => by
          by_cases hik : i = k + 1
          · subst hik
            have := HR.out.symm.trans he
            injection this with this
            subst this
            exact ⟨hh.1, hh.2.1, fun h1 => by rw [dispB_eq]; exact hh.2.2 h1⟩
          · exact HV.out i e (by omega) he)
        clear hpb hdb
        have p0 : wr.cell? ⟨b, off + k * 7, none⟩ = some (.int .i64 p.id) := Sl.at_ hc hp 0 rfl
        have p1 : wr.cell? ⟨b, off + k * 7 + 1, none⟩ = some (.int .i64 p.acc) := Sl.at_ hc hp 1 rfl
        have p2 : wr.cell? ⟨b, off + k * 7 + 2, none⟩ = some (.int .i64 p.use) := Sl.at_ hc hp 2 rfl
        have p3 : wr.cell? ⟨b, off + k * 7 + 3, none⟩ = some (.int .i64 p.amt) := Sl.at_ hc hp 3 rfl
        have p4 : wr.cell? ⟨b, off + k * 7 + 4, none⟩ = some (.int .i64 p.st) := Sl.at_ hc hp 4 rfl
        have p5 : wr.cell? ⟨b, off + k * 7 + 5, none⟩ = some (.int .i64 p.cr) := Sl.at_ hc hp 5 rfl
        have p6 : wr.cell? ⟨b, off + k * 7 + 6, none⟩ = some (.int .i64 p.at_) := Sl.at_ hc hp 6 rfl
        have HP0 := Lib.hid hp
        clear hr hp hc
        cases pb
        · have HBAD := Lib.hid (show ¬ Vd ds from fun hv => by have := (hv _ d HR.out).1; rw [HPB.out] at this; cases this)
          clear hpd
          go_upto_region 4 with (fail)
          have hcr : ∀ z : Wd (Below wr.heap.size wr), ∀ b o, b < wr.heap.size → z.w.cell? ⟨b, o, none⟩ = wr.cell? ⟨b, o, none⟩ := fun z => z.cells
          ((with_reducible refine wp_region_class (Below wr.heap.size wr) ?_ ?_ ?_ ?_); kernel_rfl; kernel_rfl; (exact (Below.refl _ _).drew); (intro hnonemp); skip; (repeat (any_goals (first | go_big_quiet_step (((first | (go_at_call 40; (refine (proper_any d _).mono ?_); rw [HPB.out]; rintro e w' ⟨rfl, hb⟩; exact ⟨rfl, ⟨w', below_wd _ hb⟩, rfl⟩) | (go_at_call 34; (refine (disputed_any d.use _ (k + 1) c (ds.take (k + 1)) _ (Sl.below HSL.out (Wd.h _))).mono ?_); rw [HDB.out]; rintro e w' ⟨rfl, hb⟩; exact ⟨rfl, ⟨w', below_wd _ hb⟩, rfl⟩)))) | (refine wpQuiet_step (fun K hK => ?_); go_simp; (first | (refine hK _ ?_; clear hK K) | (split <;> rename_i hg <;> (refine hK _ ?_; clear hK K) <;> (try simp only [Bool.not_eq_true] at hg) <;> (first | simp only [Int.not_lt.2 hg, decide_false] | simp only [Int.not_le.1 hg, decide_true] | simp only [hg, decide_true, decide_false] | skip)))))));  all_goals (refine wpQuiet_nil ?_; intro wq hgq))
          clear hcr
          have hbq := hb.trans (hgq.mono hb.size)
          go_wp2_with fail
          go_ret
          first | exact ⟨_, rfl, ⟨fun h => (by cases h), fun h => absurd h HBAD.out⟩, hbq⟩ | exact .inl ⟨rfl, HBAD.out, hbq⟩
        · by_cases hlp : p.id < d.id
          · have HPV := Lib.hid (show ∀ q, 0 < k + 1 → ds[k + 1 - 1]? = some q → q.id < d.id from fun q _ hq => by
              have := HP0.out.symm.trans hq
              injection this with this
              subst this
              exact hlp)
            have hlp2 : ¬ d.id ≤ p.id := by omega
            by_cases hst : d.st = 1
            · have e4 : (d.st == 1) = true := by simpa using hst
              cases db
              · have HOK := Lib.hid (HNX.out ⟨HPB.out, HPV.out, fun _ => HDB.out⟩)
                clear hst
                go_upto_region 4 with (fail)
                have hcr : ∀ z : Wd (Below wr.heap.size wr), ∀ b o, b < wr.heap.size → z.w.cell? ⟨b, o, none⟩ = wr.cell? ⟨b, o, none⟩ := fun z => z.cells
                ((with_reducible refine wp_region_class (Below wr.heap.size wr) ?_ ?_ ?_ ?_); kernel_rfl; kernel_rfl; (exact (Below.refl _ _).drew); (intro hnonemp); skip; (repeat (any_goals (first | go_big_quiet_step (((first | (go_at_call 40; (refine (proper_any d _).mono ?_); rw [HPB.out]; rintro e w' ⟨rfl, hb⟩; exact ⟨rfl, ⟨w', below_wd _ hb⟩, rfl⟩) | (go_at_call 34; (refine (disputed_any d.use _ (k + 1) c (ds.take (k + 1)) _ (Sl.below HSL.out (Wd.h _))).mono ?_); rw [HDB.out]; rintro e w' ⟨rfl, hb⟩; exact ⟨rfl, ⟨w', below_wd _ hb⟩, rfl⟩)))) | (refine wpQuiet_step (fun K hK => ?_); go_simp; (first | (refine hK _ ?_; clear hK K) | (split <;> rename_i hg <;> (refine hK _ ?_; clear hK K) <;> (try simp only [Bool.not_eq_true] at hg) <;> (first | simp only [Int.not_lt.2 hg, decide_false] | simp only [Int.not_le.1 hg, decide_true] | simp only [hg, decide_true, decide_false] | skip)))))));  all_goals (refine wpQuiet_nil ?_; intro wq hgq))
                clear hcr
                have hbq := hb.trans (hgq.mono hb.size)
                go_wp2_with fail
                go_roundw
                case rel => exact ⟨(k + 1) + 1, by omega, by go_num, hbq, HOK.out⟩
                case measure => simp [intOf]; omega
              · have HBAD := Lib.hid (show ¬ Vd ds from fun hv => by have := (hv _ d HR.out).2.2 hst; rw [HDB0.out] at this; cases this)
                clear hst
                go_upto_region 4 with (fail)
                have hcr : ∀ z : Wd (Below wr.heap.size wr), ∀ b o, b < wr.heap.size → z.w.cell? ⟨b, o, none⟩ = wr.cell? ⟨b, o, none⟩ := fun z => z.cells
                ((with_reducible refine wp_region_class (Below wr.heap.size wr) ?_ ?_ ?_ ?_); kernel_rfl; kernel_rfl; (exact (Below.refl _ _).drew); (intro hnonemp); skip; (repeat (any_goals (first | go_big_quiet_step (((first | (go_at_call 40; (refine (proper_any d _).mono ?_); rw [HPB.out]; rintro e w' ⟨rfl, hb⟩; exact ⟨rfl, ⟨w', below_wd _ hb⟩, rfl⟩) | (go_at_call 34; (refine (disputed_any d.use _ (k + 1) c (ds.take (k + 1)) _ (Sl.below HSL.out (Wd.h _))).mono ?_); rw [HDB.out]; rintro e w' ⟨rfl, hb⟩; exact ⟨rfl, ⟨w', below_wd _ hb⟩, rfl⟩)))) | (refine wpQuiet_step (fun K hK => ?_); go_simp; (first | (refine hK _ ?_; clear hK K) | (split <;> rename_i hg <;> (refine hK _ ?_; clear hK K) <;> (try simp only [Bool.not_eq_true] at hg) <;> (first | simp only [Int.not_lt.2 hg, decide_false] | simp only [Int.not_le.1 hg, decide_true] | simp only [hg, decide_true, decide_false] | skip)))))));  all_goals (refine wpQuiet_nil ?_; intro wq hgq))
                clear hcr
                have hbq := hb.trans (hgq.mono hb.size)
                go_wp2_with fail
                go_ret
                first | exact ⟨_, rfl, ⟨fun h => (by cases h), fun h => absurd h HBAD.out⟩, hbq⟩ | exact .inl ⟨rfl, HBAD.out, hbq⟩
            · have e4 : (d.st == 1) = false := by simpa using hst
              have HOK := Lib.hid (HNX.out ⟨HPB.out, HPV.out, fun h => absurd h hst⟩)
              clear hst
              go_upto_region 4 with (fail)
              have hcr : ∀ z : Wd (Below wr.heap.size wr), ∀ b o, b < wr.heap.size → z.w.cell? ⟨b, o, none⟩ = wr.cell? ⟨b, o, none⟩ := fun z => z.cells
              ((with_reducible refine wp_region_class (Below wr.heap.size wr) ?_ ?_ ?_ ?_); kernel_rfl; kernel_rfl; (exact (Below.refl _ _).drew); (intro hnonemp); skip; (repeat (any_goals (first | go_big_quiet_step (((first | (go_at_call 40; (refine (proper_any d _).mono ?_); rw [HPB.out]; rintro e w' ⟨rfl, hb⟩; exact ⟨rfl, ⟨w', below_wd _ hb⟩, rfl⟩) | (go_at_call 34; (refine (disputed_any d.use _ (k + 1) c (ds.take (k + 1)) _ (Sl.below HSL.out (Wd.h _))).mono ?_); rw [HDB.out]; rintro e w' ⟨rfl, hb⟩; exact ⟨rfl, ⟨w', below_wd _ hb⟩, rfl⟩)))) | (refine wpQuiet_step (fun K hK => ?_); go_simp; (first | (refine hK _ ?_; clear hK K) | (split <;> rename_i hg <;> (refine hK _ ?_; clear hK K) <;> (try simp only [Bool.not_eq_true] at hg) <;> (first | simp only [Int.not_lt.2 hg, decide_false] | simp only [Int.not_le.1 hg, decide_true] | simp only [hg, decide_true, decide_false] | skip)))))));  all_goals (refine wpQuiet_nil ?_; intro wq hgq))
              clear hcr
              have hbq := hb.trans (hgq.mono hb.size)
              go_wp2_with fail
              go_roundw
              case rel => exact ⟨(k + 1) + 1, by omega, by go_num, hbq, HOK.out⟩
              case measure => simp [intOf]; omega
          · have HBAD := Lib.hid (show ¬ Vd ds from fun hv => hlp ((hv _ d HR.out).2.1 p (by omega) HP0.out))
            have hlp2 : d.id ≤ p.id := by omega
            clear hlp
            go_upto_region 4 with (fail)
            have hcr : ∀ z : Wd (Below wr.heap.size wr), ∀ b o, b < wr.heap.size → z.w.cell? ⟨b, o, none⟩ = wr.cell? ⟨b, o, none⟩ := fun z => z.cells
            ((with_reducible refine wp_region_class (Below wr.heap.size wr) ?_ ?_ ?_ ?_); kernel_rfl; kernel_rfl; (exact (Below.refl _ _).drew); (intro hnonemp); skip; (repeat (any_goals (first | go_big_quiet_step (((first | (go_at_call 40; (refine (proper_any d _).mono ?_); rw [HPB.out]; rintro e w' ⟨rfl, hb⟩; exact ⟨rfl, ⟨w', below_wd _ hb⟩, rfl⟩) | (go_at_call 34; (refine (disputed_any d.use _ (k + 1) c (ds.take (k + 1)) _ (Sl.below HSL.out (Wd.h _))).mono ?_); rw [HDB.out]; rintro e w' ⟨rfl, hb⟩; exact ⟨rfl, ⟨w', below_wd _ hb⟩, rfl⟩)))) | (refine wpQuiet_step (fun K hK => ?_); go_simp; (first | (refine hK _ ?_; clear hK K) | (split <;> rename_i hg <;> (refine hK _ ?_; clear hK K) <;> (try simp only [Bool.not_eq_true] at hg) <;> (first | simp only [Int.not_lt.2 hg, decide_false] | simp only [Int.not_le.1 hg, decide_true] | simp only [hg, decide_true, decide_false] | skip)))))));  all_goals (refine wpQuiet_nil ?_; intro wq hgq))
            clear hcr
            have hbq := hb.trans (hgq.mono hb.size)
            go_wp2_with fail
            go_ret
            first | exact ⟨_, rfl, ⟨fun h => (by cases h), fun h => absurd h HBAD.out⟩, hbq⟩ | exact .inl ⟨rfl, HBAD.out, hbq⟩
    · obtain rfl : k = n := by omega
      have hkn : ¬ ((k : Int) < (k : Int)) := by omega
      have HVD := Lib.hid (show Vd ds from fun i d hd => HV.out i d (by have := (List.getElem?_eq_some_iff.1 hd).1; have := hlen.out; omega) hd)
      go_wp2_with fail
      go_ret
      first | exact ⟨_, rfl, ⟨fun _ => HVD.out, fun _ => rfl⟩, hb⟩ | exact .inr ⟨rfl, HVD.out, hb⟩ | exact ⟨rfl, HVD.out, hb⟩
end Dp
end Go.Proofs.Ythidlakkpdbeaaa
