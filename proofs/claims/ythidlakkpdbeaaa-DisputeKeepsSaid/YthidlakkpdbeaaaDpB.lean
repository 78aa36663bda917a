/-
  Disputes: find. No condition.
-/
import Derived.Test.YthidlakkpdbeaaaDpF
import Derived.BigQuiet
import Derived.StillTailTactics
import Derived.Lib.Overlaps
import Derived.Deep.DeepCutAuto
import Derived.Deep.RegionWith
import Derived.Laws.Rows
set_option maxRecDepth 100000
set_option linter.unusedVariables false
set_option linter.unusedSimpArgs false
namespace Go.Proofs.Ythidlakkpdbeaaa
open Go.RowKit

namespace Dp
def cmpI (a b : Int) : Int := if a < b then -1 else if b < a then 1 else 0
theorem nan_any (a : Int) (w : World) : Calls Try.prog 47 #[.int .i64 a] w fun r w' => r = .returned (.bool false) ∧ w = w' := by
  have h : (a != a) = false := by simp
  go_enter Try.func47, Try.ntmps47
  go_wp2_with fail
  go_ret
  exact ⟨ret_bool (by simp), rfl⟩
theorem cmp_any (a b : Int) (w : World) : Calls Try.prog 43 #[.int .i64 a, .int .i64 b] w fun r w' => r = .returned (.int .i64 (cmpI a b)) ∧ w = w' := by
  rcases (show a < b ∨ (¬ a < b ∧ b < a) ∨ (¬ a < b ∧ ¬ b < a) by omega) with h | ⟨h, h2⟩ | ⟨h, h2⟩
  all_goals
    go_enter Try.func43, Try.ntmps43
    go_wp2_with fail
    refine (nan_any a _).mono ?_
    rintro r w' ⟨rfl, rfl⟩
    go_wp2_with fail
    refine (nan_any b _).mono ?_
    rintro r w' ⟨rfl, rfl⟩
    go_wp2_with fail
    go_ret
    exact ⟨ret_int (by unfold cmpI; first | rfl | (split <;> first | rfl | omega | (split <;> first | rfl | omega))), rfl⟩
theorem findfn_any (d : Dsp) (x : Int) (w : World) : Calls Try.prog 42 #[d.val, .int .i64 x] w fun r w' => r = .returned (.int .i64 (cmpI d.id x)) ∧ Below w.heap.size w w' := by
  unfold Dsp.val
  go_enter Try.func42, Try.ntmps42
  go_upto_region 1 with (fail)
  (obtain ⟨W, hWW, hbW, hzW, f1W, qfa⟩ := box1 w #[.int .i64 d.id, .int .i64 d.acc, .int .i64 d.use, .int .i64 d.amt, .int .i64 d.st, .int .i64 d.cr, .int .i64 d.at_] 24; rw [← hWW]; have qa0 : W.cell? ⟨w.heap.size, 0, none⟩ = some (.int .i64 d.id) := f1W 0 _ rfl; have qa1 : W.cell? ⟨w.heap.size, 1, none⟩ = some (.int .i64 d.acc) := f1W 1 _ rfl; have qa2 : W.cell? ⟨w.heap.size, 2, none⟩ = some (.int .i64 d.use) := f1W 2 _ rfl; have qa3 : W.cell? ⟨w.heap.size, 3, none⟩ = some (.int .i64 d.amt) := f1W 3 _ rfl; have qa4 : W.cell? ⟨w.heap.size, 4, none⟩ = some (.int .i64 d.st) := f1W 4 _ rfl; have qa5 : W.cell? ⟨w.heap.size, 5, none⟩ = some (.int .i64 d.cr) := f1W 5 _ rfl; have qa6 : W.cell? ⟨w.heap.size, 6, none⟩ = some (.int .i64 d.at_) := f1W 6 _ rfl; clear hWW f1W)
  go_wp2_with fail
  refine (cmp_any d.id x _).mono ?_
  rintro r w' ⟨rfl, rfl⟩
  go_wp2_with fail
  go_ret
  exact ⟨rfl, hbW⟩
/-- the numbers rise -/
def Srt (ds : List Dsp) : Prop := ∀ (i j : Nat) (a b : Dsp), i < j → ds[i]? = some a → ds[j]? = some b → a.id < b.id
/-- where a number stands or would stand -/
structure At (ds : List Dsp) (x : Int) (i : Nat) (is : Bool) : Prop where
  le : i ≤ ds.length
  low : ∀ (k : Nat) (d : Dsp), k < i → ds[k]? = some d → d.id < x
  high : ∀ (k : Nat) (d : Dsp), i ≤ k → ds[k]? = some d → x ≤ d.id
  is_ : is = true ↔ ∃ d, ds[i]? = some d ∧ d.id = x
set_option maxHeartbeats 2000000 in
theorem bsearch_any (A : Option Addr) (n c : Nat) (ds : List Dsp) (x : Int) (w : World) (h : Sl w A n c ds) (hn : n ≤ 1000000) (hs : Srt ds) :
    Calls Try.prog 41 #[.slice A n c, .int .i64 x, .func (.func 42) #[] #[]] w fun r w' => ∃ (i : Nat) (is : Bool), r = .returned (.tuple #[.int .i64 i, .bool is]) ∧ At ds x i is ∧ Below w.heap.size w w' := by
  have hlen := Lib.hid h.len
  have H := Lib.hid h
  have HS := Lib.hid hs
  clear h hs
  go_enter Try.func41, Try.ntmps41
  go_wp2_with fail
  go_loopw [9, 10] (fun i j wr => ∃ a z : Nat, a ≤ z ∧ z ≤ n ∧ i = .int .i64 a ∧ j = .int .i64 z ∧ Below w.heap.size w wr ∧ (∀ (k : Nat) (d : Dsp), k < a → ds[k]? = some d → d.id < x) ∧ (∀ (k : Nat) (d : Dsp), z ≤ k → ds[k]? = some d → x ≤ d.id)) (fun i j _ => (intOf j - intOf i).toNat)
  case atStart => exact ⟨0, n, Nat.zero_le _, Nat.le_refl _, rfl, rfl, Below.refl _ _, fun k d hk _ => absurd hk (by omega), fun k d hk hd => by
    have := (List.getElem?_eq_some_iff.1 hd).1
    have := hlen.out; omega⟩
  case round =>
    obtain ⟨a, z, haz, hz, rfl, rfl, hb, hA, hZ⟩ := hrel
    have HA := Lib.hid hA
    have HZ := Lib.hid hZ
    clear hA hZ
    have hsz := hb.size
    by_cases hlt : a < z
    · obtain ⟨b, off, rfl, hbw, hc⟩ := H.out.baseIn hb (by omega)
      have hbr : b < wr.heap.size := by omega
      obtain ⟨m, hm⟩ : ∃ m : Nat, ((a : Int) + (z : Int)) / 2 = (m : Int) := ⟨(a + z) / 2, by omega⟩
      have hm1 : a ≤ m := by omega
      have hm2 : m < z := by omega
      obtain ⟨d, hr⟩ := H.out.get (k := m) (by omega)
      (have c0 : wr.cell? ⟨b, off + m * 7, none⟩ = some (.int .i64 d.id) := Sl.at_ hc hr 0 rfl; have c1 : wr.cell? ⟨b, off + m * 7 + 1, none⟩ = some (.int .i64 d.acc) := Sl.at_ hc hr 1 rfl; have c2 : wr.cell? ⟨b, off + m * 7 + 2, none⟩ = some (.int .i64 d.use) := Sl.at_ hc hr 2 rfl; have c3 : wr.cell? ⟨b, off + m * 7 + 3, none⟩ = some (.int .i64 d.amt) := Sl.at_ hc hr 3 rfl; have c4 : wr.cell? ⟨b, off + m * 7 + 4, none⟩ = some (.int .i64 d.st) := Sl.at_ hc hr 4 rfl; have c5 : wr.cell? ⟨b, off + m * 7 + 5, none⟩ = some (.int .i64 d.cr) := Sl.at_ hc hr 5 rfl; have c6 : wr.cell? ⟨b, off + m * 7 + 6, none⟩ = some (.int .i64 d.at_) := Sl.at_ hc hr 6 rfl)
      have HR := Lib.hid hr
      have hmn : m < n := by omega
      clear hr hc
      go_wp2_with fail
      refine (findfn_any d x _).mono ?_
      rintro r w1 ⟨rfl, hb1⟩
      have hbb := hb.trans (hb1.mono hsz)
      by_cases hdx : d.id < x
      · have hcmp : cmpI d.id x = -1 := by unfold cmpI; rw [if_pos hdx]
        rw [hcmp]
        go_wp2_with fail
        go_roundw
        case rel =>
          refine ⟨m + 1, z, by omega, hz, by go_num, rfl, hbb, fun k e hk he => ?_, HZ.out⟩
          by_cases hkm : k = m
          · subst hkm
            have : e = d := by have := HR.out; rw [he] at this; exact Option.some.inj this
            subst this
            exact hdx
          · have := HS.out k m e d (by omega) he HR.out
            omega
        case measure => simp [intOf]; omega
      · have hcmp : ¬ cmpI d.id x < 0 := by
          unfold cmpI
          rw [if_neg hdx]
          split <;> omega
        have HCMP := Lib.hid hcmp
        generalize cmpI d.id x = cc at HCMP ⊢
        have hcc := HCMP.out
        go_wp2_with fail
        go_roundw
        case rel =>
          refine ⟨a, m, by omega, by omega, rfl, rfl, hbb, HA.out, fun k e hk he => ?_⟩
          by_cases hkm : k = m
          · subst hkm
            have : e = d := by have := HR.out; rw [he] at this; exact Option.some.inj this
            subst this
            omega
          · have := HS.out m k d e (by omega) HR.out he
            omega
        case measure => simp [intOf]; omega
    · obtain rfl : a = z := by omega
      by_cases han : a < n
      · obtain ⟨b, off, rfl, hbw, hc⟩ := H.out.baseIn hb (by omega)
        obtain ⟨d, hr⟩ := H.out.get (k := a) (by omega)
        (have c0 : wr.cell? ⟨b, off + a * 7, none⟩ = some (.int .i64 d.id) := Sl.at_ hc hr 0 rfl; have c1 : wr.cell? ⟨b, off + a * 7 + 1, none⟩ = some (.int .i64 d.acc) := Sl.at_ hc hr 1 rfl; have c2 : wr.cell? ⟨b, off + a * 7 + 2, none⟩ = some (.int .i64 d.use) := Sl.at_ hc hr 2 rfl; have c3 : wr.cell? ⟨b, off + a * 7 + 3, none⟩ = some (.int .i64 d.amt) := Sl.at_ hc hr 3 rfl; have c4 : wr.cell? ⟨b, off + a * 7 + 4, none⟩ = some (.int .i64 d.st) := Sl.at_ hc hr 4 rfl; have c5 : wr.cell? ⟨b, off + a * 7 + 5, none⟩ = some (.int .i64 d.cr) := Sl.at_ hc hr 5 rfl; have c6 : wr.cell? ⟨b, off + a * 7 + 6, none⟩ = some (.int .i64 d.at_) := Sl.at_ hc hr 6 rfl)
        have HR := Lib.hid hr
        clear hr hc
        go_wp2_with fail
        refine (findfn_any d x _).mono ?_
        rintro r w1 ⟨rfl, hb1⟩
        have hbb := hb.trans (hb1.mono hsz)
        have hdx := HZ.out a d (Nat.le_refl _) HR.out
        have hln := hlen.out
        by_cases hxe : d.id = x
        · have hcmp : cmpI d.id x = 0 := by unfold cmpI; rw [if_neg (by omega), if_neg (by omega)]
          rw [hcmp]
          have HAT := Lib.hid (show At ds x a true from ⟨by omega, HA.out, HZ.out, by simp; exact ⟨d, HR.out, hxe⟩⟩)
          clear hxe hdx hln
          go_wp2_with fail
          go_ret2
          exact ⟨_, _, rfl, HAT.out, hbb⟩
        · have hcmp : cmpI d.id x = 1 := by unfold cmpI; rw [if_neg (by omega), if_pos (by omega)]
          rw [hcmp]
          have HAT := Lib.hid (show At ds x a false from ⟨by omega, HA.out, HZ.out, by
            refine ⟨fun h => (by cases h), fun ⟨e, he, hx⟩ => ?_⟩
            have := HR.out.symm.trans he
            injection this with this
            subst this
            exact absurd hx hxe⟩)
          clear hxe hdx hln
          go_wp2_with fail
          go_ret2
          exact ⟨_, _, rfl, HAT.out, hbb⟩
      · obtain rfl : a = n := by omega
        have HAT := Lib.hid (show At ds x a false from ⟨by have := hlen.out; omega, HA.out, HZ.out, by
          refine ⟨fun h => (by cases h), fun ⟨e, he, hx⟩ => ?_⟩
          have := (List.getElem?_eq_some_iff.1 he).1
          have := hlen.out
          omega⟩)
        have haa : ¬ ((a : Int) < (a : Int)) := by omega
        go_wp2_with fail
        go_ret2
        first | exact ⟨_, _, rfl, HAT.out, hb⟩ | exact ⟨_, .inl ⟨rfl, HAT.out, hb⟩⟩ | exact .inl ⟨_, rfl, HAT.out, hb⟩
theorem find_any (A : Option Addr) (n c : Nat) (ds : List Dsp) (x : Int) (w : World) (h : Sl w A n c ds) (hn : n ≤ 1000000) (hs : Srt ds) :
    Calls Try.prog 26 #[.slice A n c, .int .i64 x] w fun r w' => ∃ (i : Nat) (is : Bool), r = .returned (.tuple #[.int .i64 i, .bool is]) ∧ At ds x i is ∧ Below w.heap.size w w' := by
  go_enter Try.func26, Try.ntmps26
  go_wp2_with fail
  refine (bsearch_any A n c ds x _ h hn hs).mono ?_
  rintro r w1 ⟨i, is, rfl, hat, hb1⟩
  have HAT := Lib.hid hat
  clear hat
  go_wp2_with fail
  go_ret2
  exact ⟨i, is, rfl, HAT.out, hb1⟩
/-- an open dispute about a usage? -/
def pendB (u : Int) (d : Dsp) : Bool := decide (d.use = u) && decide (d.st = 1)
theorem pend_any (g : Nat) (u : Int) (d : Dsp) (w : World) (hg : g < w.heap.size) (c2 : w.cell? ⟨g, 2, none⟩ = some (.int .i64 u)) :
    Calls Try.prog 27 #[d.val, .pointer (some ⟨g, 0, none⟩)] w fun r w' => r = .returned (.bool (pendB u d)) ∧ Below w.heap.size w w' := by
  unfold Dsp.val
  by_cases h1 : d.use = u
  · have e1 : (d.use == u) = true := by simpa using h1
    have HU := Lib.hid h1
    clear h1
    by_cases h2 : d.st = 1
    · have e2 : (d.st == 1) = true := by simpa using h2
      have H2 := Lib.hid h2
      clear h2
      go_enter Try.func27, Try.ntmps27
      go_upto_region 1 with (fail)
      (obtain ⟨W, hWW, hbW, hzW, f1W, qfa⟩ := box1 w #[.int .i64 d.id, .int .i64 d.acc, .int .i64 d.use, .int .i64 d.amt, .int .i64 d.st, .int .i64 d.cr, .int .i64 d.at_] 24; rw [← hWW]; have qa0 : W.cell? ⟨w.heap.size, 0, none⟩ = some (.int .i64 d.id) := f1W 0 _ rfl; have qa1 : W.cell? ⟨w.heap.size, 1, none⟩ = some (.int .i64 d.acc) := f1W 1 _ rfl; have qa2 : W.cell? ⟨w.heap.size, 2, none⟩ = some (.int .i64 d.use) := f1W 2 _ rfl; have qa3 : W.cell? ⟨w.heap.size, 3, none⟩ = some (.int .i64 d.amt) := f1W 3 _ rfl; have qa4 : W.cell? ⟨w.heap.size, 4, none⟩ = some (.int .i64 d.st) := f1W 4 _ rfl; have qa5 : W.cell? ⟨w.heap.size, 5, none⟩ = some (.int .i64 d.cr) := f1W 5 _ rfl; have qa6 : W.cell? ⟨w.heap.size, 6, none⟩ = some (.int .i64 d.at_) := f1W 6 _ rfl; clear hWW f1W)
      (have hzhbW := hbW.size; replace c2 := (hbW.cell (p := ⟨_, _, none⟩) (by (try dsimp only) <;> omega)).trans c2)
      go_wp2_with fail
      go_ret
      exact ⟨ret_bool (by simp [pendB, HU.out, H2.out]), hbW⟩
    · have e2 : (d.st == 1) = false := by simpa using h2
      have H2 := Lib.hid h2
      clear h2
      go_enter Try.func27, Try.ntmps27
      go_upto_region 1 with (fail)
      (obtain ⟨W, hWW, hbW, hzW, f1W, qfa⟩ := box1 w #[.int .i64 d.id, .int .i64 d.acc, .int .i64 d.use, .int .i64 d.amt, .int .i64 d.st, .int .i64 d.cr, .int .i64 d.at_] 24; rw [← hWW]; have qa0 : W.cell? ⟨w.heap.size, 0, none⟩ = some (.int .i64 d.id) := f1W 0 _ rfl; have qa1 : W.cell? ⟨w.heap.size, 1, none⟩ = some (.int .i64 d.acc) := f1W 1 _ rfl; have qa2 : W.cell? ⟨w.heap.size, 2, none⟩ = some (.int .i64 d.use) := f1W 2 _ rfl; have qa3 : W.cell? ⟨w.heap.size, 3, none⟩ = some (.int .i64 d.amt) := f1W 3 _ rfl; have qa4 : W.cell? ⟨w.heap.size, 4, none⟩ = some (.int .i64 d.st) := f1W 4 _ rfl; have qa5 : W.cell? ⟨w.heap.size, 5, none⟩ = some (.int .i64 d.cr) := f1W 5 _ rfl; have qa6 : W.cell? ⟨w.heap.size, 6, none⟩ = some (.int .i64 d.at_) := f1W 6 _ rfl; clear hWW f1W)
      (have hzhbW := hbW.size; replace c2 := (hbW.cell (p := ⟨_, _, none⟩) (by (try dsimp only) <;> omega)).trans c2)
      go_wp2_with fail
      go_ret
      exact ⟨ret_bool (by simp [pendB, H2.out]), hbW⟩
  · have e1 : (d.use == u) = false := by simpa using h1
    have HU := Lib.hid h1
    clear h1
    go_enter Try.func27, Try.ntmps27
    go_upto_region 1 with (fail)
    (obtain ⟨W, hWW, hbW, hzW, f1W, qfa⟩ := box1 w #[.int .i64 d.id, .int .i64 d.acc, .int .i64 d.use, .int .i64 d.amt, .int .i64 d.st, .int .i64 d.cr, .int .i64 d.at_] 24; rw [← hWW]; have qa0 : W.cell? ⟨w.heap.size, 0, none⟩ = some (.int .i64 d.id) := f1W 0 _ rfl; have qa1 : W.cell? ⟨w.heap.size, 1, none⟩ = some (.int .i64 d.acc) := f1W 1 _ rfl; have qa2 : W.cell? ⟨w.heap.size, 2, none⟩ = some (.int .i64 d.use) := f1W 2 _ rfl; have qa3 : W.cell? ⟨w.heap.size, 3, none⟩ = some (.int .i64 d.amt) := f1W 3 _ rfl; have qa4 : W.cell? ⟨w.heap.size, 4, none⟩ = some (.int .i64 d.st) := f1W 4 _ rfl; have qa5 : W.cell? ⟨w.heap.size, 5, none⟩ = some (.int .i64 d.cr) := f1W 5 _ rfl; have qa6 : W.cell? ⟨w.heap.size, 6, none⟩ = some (.int .i64 d.at_) := f1W 6 _ rfl; clear hWW f1W)
    (have hzhbW := hbW.size; replace c2 := (hbW.cell (p := ⟨_, _, none⟩) (by (try dsimp only) <;> omega)).trans c2)
    go_wp2_with fail
    go_ret
    exact ⟨ret_bool (by simp [pendB, HU.out]), hbW⟩
set_option maxHeartbeats 2000000 in
theorem index_any (g : Nat) (u : Int) (A : Option Addr) (n c : Nat) (ds : List Dsp) (w : World) (h : Sl w A n c ds) (hg : g < w.heap.size) (c2 : w.cell? ⟨g, 2, none⟩ = some (.int .i64 u)) :
    Calls Try.prog 44 #[.slice A n c, .func (.func 27) #[] #[.pointer (some ⟨g, 0, none⟩)]] w fun r w' => ∃ k : Int, r = .returned (.int .i64 k) ∧ (0 ≤ k ↔ ds.any (pendB u) = true) ∧ Below w.heap.size w w' := by
  have hn := h.nmax
  have hlen := Lib.hid h.len
  have H := Lib.hid h
  have C2 := Lib.hid c2
  obtain ⟨bb, hbb⟩ : ∃ bb, ds.any (pendB u) = bb := ⟨_, rfl⟩
  have HBB := Lib.hid hbb
  rw [hbb]
  clear h c2 hbb
  go_enter Try.func44, Try.ntmps44
  go_wp2_with fail
  go_loopw [8] (fun i wr => ∃ k : Nat, k ≤ n ∧ i = .int .i64 k ∧ Below w.heap.size w wr ∧ (ds.take k).any (pendB u) = false) (fun i _ => n - (intOf i).toNat)
  case atStart => exact ⟨0, Nat.zero_le _, rfl, Below.refl _ _, rfl⟩
  case round =>
    obtain ⟨k, hk, rfl, hb, hF⟩ := hrel
    have HF := Lib.hid hF
    clear hF
    have hsz := hb.size
    by_cases hlt : k < n
    · obtain ⟨b, off, rfl, hbw, hc⟩ := H.out.baseIn hb (by omega)
      obtain ⟨d, hr⟩ := H.out.get (k := k) (by omega)
      (have c0 : wr.cell? ⟨b, off + k * 7, none⟩ = some (.int .i64 d.id) := Sl.at_ hc hr 0 rfl; have c1 : wr.cell? ⟨b, off + k * 7 + 1, none⟩ = some (.int .i64 d.acc) := Sl.at_ hc hr 1 rfl; have c2 : wr.cell? ⟨b, off + k * 7 + 2, none⟩ = some (.int .i64 d.use) := Sl.at_ hc hr 2 rfl; have c3 : wr.cell? ⟨b, off + k * 7 + 3, none⟩ = some (.int .i64 d.amt) := Sl.at_ hc hr 3 rfl; have c4 : wr.cell? ⟨b, off + k * 7 + 4, none⟩ = some (.int .i64 d.st) := Sl.at_ hc hr 4 rfl; have c5 : wr.cell? ⟨b, off + k * 7 + 5, none⟩ = some (.int .i64 d.cr) := Sl.at_ hc hr 5 rfl; have c6 : wr.cell? ⟨b, off + k * 7 + 6, none⟩ = some (.int .i64 d.at_) := Sl.at_ hc hr 6 rfl)
      have HR := Lib.hid hr
      have hg2 : g < wr.heap.size := by omega
      have hcu := Lib.hid ((hb.cell (p := ⟨g, 2, none⟩) hg).trans C2.out)
      clear hr hc
      go_wp2_with fail
      refine (pend_any g u d _ hg2 hcu.out).mono ?_
      rintro r w1 ⟨rfl, hb1⟩
      have hbb := hb.trans (hb1.mono hsz)
      have hst : (ds.take (k + 1)).any (pendB u) = (pendB u d) := by
        rw [List.take_add_one, List.any_append, HF.out, HR.out]
        simp
      have HST := Lib.hid hst
      clear hst
      cases hp : pendB u d
      · rw [hp] at HST
        go_wp2_with fail
        go_roundw
        case rel => exact ⟨k + 1, by omega, by go_num, hbb, HST.out⟩
        case measure => simp [intOf]; omega
      · rw [hp] at HST
        have hany : ds.any (pendB u) = true := by
          have h1 := HST.out
          rw [List.any_eq_true] at h1 ⊢
          obtain ⟨y, hy, hy2⟩ := h1
          exact ⟨y, List.mem_of_mem_take hy, hy2⟩
        obtain rfl : bb = true := HBB.out.symm.trans hany
        clear hany
        go_wp2_with fail
        go_ret
        first | exact ⟨_, rfl, ⟨fun _ => rfl, fun _ => by omega⟩, hbb⟩ | exact ⟨_, rfl, by omega, hbb⟩
    · obtain rfl : k = n := by omega
      have hkn : ¬ ((k : Int) < (k : Int)) := by omega
      have hany : ds.any (pendB u) = false := by
        have := HF.out
        rw [List.take_of_length_le (by have := hlen.out; omega)] at this
        exact this
      obtain rfl : bb = false := HBB.out.symm.trans hany
      clear hany
      go_wp2_with fail
      go_ret
      first | exact ⟨_, rfl, ⟨fun h => absurd h (by decide), fun h => by cases h⟩, hb⟩ | exact ⟨_, rfl, by omega, hb⟩
theorem contains_any (g : Nat) (u : Int) (A : Option Addr) (n c : Nat) (ds : List Dsp) (w : World) (h : Sl w A n c ds) (hg : g < w.heap.size) (c2 : w.cell? ⟨g, 2, none⟩ = some (.int .i64 u)) :
    Calls Try.prog 28 #[.slice A n c, .func (.func 27) #[] #[.pointer (some ⟨g, 0, none⟩)]] w fun r w' => r = .returned (.bool (ds.any (pendB u))) ∧ Below w.heap.size w w' := by
  go_enter Try.func28, Try.ntmps28
  go_wp2_with fail
  refine (index_any g u A n c ds _ h hg c2).mono ?_
  rintro r w1 ⟨k, rfl, hk, hb1⟩
  have HK := Lib.hid hk
  clear hk
  by_cases h0 : 0 ≤ k
  · go_wp2_with fail
    go_ret
    exact ⟨ret_bool (by rw [HK.out.1 h0]), hb1⟩
  · have HN := Lib.hid (show ds.any (pendB u) = false by
      cases hq : ds.any (pendB u)
      · rfl
      · exact absurd (HK.out.2 hq) h0)
    go_wp2_with fail
    go_ret
    exact ⟨ret_bool (by rw [HN.out]; exact decide_eq_false (by omega)), hb1⟩
end Dp
end Go.Proofs.Ythidlakkpdbeaaa
