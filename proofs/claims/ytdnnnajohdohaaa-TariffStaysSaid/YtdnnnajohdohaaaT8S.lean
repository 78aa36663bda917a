/-
  Tariffs: rates. No condition.
-/
import Derived.Test.YtdnnnajohdohaaaT8R
import Derived.BigQuiet
import Derived.StillTailTactics
import Derived.Lib.Overlaps
import Derived.Deep.DeepCutAuto
import Derived.Deep.RegionWith
import Derived.Laws.RangeAny
set_option maxRecDepth 100000
set_option linter.unusedVariables false
set_option linter.unusedSimpArgs false
namespace Go.Proofs.Ytdnnnajohdohaaa
open Go.RowKit

namespace Cv
open Xp Ck
def knownB (l : List Nm) (u : ByteArray) : Bool := l.any (nmEq u) || (u.toList == [])
set_option maxHeartbeats 4000000 in
theorem zoned_any (name : ByteArray) (from_ : Int) (split : Bool) (Az : Option Addr) (nz cz : Nat) (Ab : Option Addr) (nb cb : Nat) (Ar : Option Addr) (nr cr : Nat) (Ad : Option Addr) (nd cd : Nat) (u : ByteArray) (l : List Nm) (w : World) (h : Sl w Az nz cz l) :
    Calls Try.prog 57 #[.agg #[.string name, .int .i64 from_, .bool split, .slice Az nz cz, .slice Ab nb cb, .slice Ar nr cr, .slice Ad nd cd], .string u] w fun e w' => e = .returned (.bool (knownB l u)) ∧ Below w.heap.size w w' := by
  have hn := h.nmax
  have hlen := Lib.hid h.len
  have H := Lib.hid h
  clear h
  go_enter Try.func57, Try.ntmps57
  go_upto_region 1 with (fail)
  (obtain ⟨W, hWW, hbW, hzW, f1W, qfa⟩ := box1 w #[.string name, .int .i64 from_, .bool split, .slice Az nz cz, .slice Ab nb cb, .slice Ar nr cr, .slice Ad nd cd] 32; rw [← hWW]; have qa0 : W.cell? ⟨w.heap.size, 0, none⟩ = some (.string name) := f1W 0 _ rfl; have qa1 : W.cell? ⟨w.heap.size, 1, none⟩ = some (.int .i64 from_) := f1W 1 _ rfl; have qa2 : W.cell? ⟨w.heap.size, 2, none⟩ = some (.bool split) := f1W 2 _ rfl; have qa3 : W.cell? ⟨w.heap.size, 3, none⟩ = some (.slice Az nz cz) := f1W 3 _ rfl; have qa4 : W.cell? ⟨w.heap.size, 4, none⟩ = some (.slice Ab nb cb) := f1W 4 _ rfl; have qa5 : W.cell? ⟨w.heap.size, 5, none⟩ = some (.slice Ar nr cr) := f1W 5 _ rfl; have qa6 : W.cell? ⟨w.heap.size, 6, none⟩ = some (.slice Ad nd cd) := f1W 6 _ rfl; clear hWW f1W)
  have hzW2 : w.heap.size < W.heap.size := hzW
  go_wp2_with fail
  go_loopw [10] (fun i wr => ∃ k : Nat, k ≤ nz ∧ i = .int .i64 k ∧ Below w.heap.size w wr ∧ W.heap.size ≤ wr.heap.size ∧ (l.take k).any (nmEq u) = false) (fun i _ => nz - (intOf i).toNat)
  case atStart => exact ⟨0, Nat.zero_le _, rfl, hbW, Nat.le_refl _, rfl⟩
  case round =>
    obtain ⟨k, hk, rfl, hb, hz, ha⟩ := hrel
    have HA := Lib.hid ha
    clear ha
    by_cases hlt : k < nz
    · obtain ⟨b, off, rfl, hbl, hcells⟩ := H.out.baseIn hb (by omega)
      obtain ⟨x, hx⟩ := H.out.get hlt
      have e0 : wr.cell? ⟨b, off + k * 2, none⟩ = some (.string x.name) := Sl.at_ hcells hx 0 rfl
      have e1 : wr.cell? ⟨b, off + k * 2 + 1, none⟩ = some (.slice x.A x.n x.c) := Sl.at_ hcells hx 1 rfl
      have HX := Lib.hid hx
      have hbw : b < wr.heap.size := by have := hb.size; omega
      clear hx hcells
      go_upto_region 4 with (fail)
      (obtain ⟨V, hWV, hbV, hzV, f1V, mfa⟩ := box1 wr #[.string x.name, .slice x.A x.n x.c] 56; rw [← hWV]; have ma0 : V.cell? ⟨wr.heap.size, 0, none⟩ = some (.string x.name) := f1V 0 _ rfl; have ma1 : V.cell? ⟨wr.heap.size, 1, none⟩ = some (.slice x.A x.n x.c) := f1V 1 _ rfl; clear hWV f1V)
      have hbT := hb.trans (hbV.mono hb.size)
      have hzT := hbV.size
      clear e0 e1 hbV
      cases hq : (x.name.toList == u.toList)
      · have HN : Hid (nmEq u x = false) := Lib.hid hq
        go_wp2_with fail
        go_roundw
        case rel =>
          refine ⟨k + 1, by omega, by go_num, hbT, by omega, ?_⟩
          rw [List.take_add_one, HX.out, List.any_append, HA.out]
          simp [HN.out]
        case measure => simp [intOf]; omega
      · have HN : Hid (knownB l u = true) := Lib.hid (by rw [knownB, List.any_eq_true.2 ⟨x, List.mem_of_getElem? HX.out, hq⟩]; rfl)
        go_wp2_with fail
        go_ret
        exact ⟨ret_bool HN.out.symm, hbT⟩
    · obtain rfl : nz = k := by omega
      have hkn : ¬ ((nz : Int) < (nz : Int)) := by omega
      have hany : l.any (nmEq u) = false := by
        have := HA.out
        rw [List.take_of_length_le (by have := hlen.out; omega)] at this
        exact this
      cases hq : (u.toList == [])
      all_goals
        have HV : Hid (knownB l u = _) := Lib.hid (show knownB l u = (false || (u.toList == [])) by rw [knownB, hany])
        go_wp2_with fail
        go_ret
        exact ⟨ret_bool (by rw [HV.out, hq]; rfl), hb⟩
set_option maxHeartbeats 4000000 in
theorem banded_any (name : ByteArray) (from_ : Int) (split : Bool) (Az : Option Addr) (nz cz : Nat) (Ab : Option Addr) (nb cb : Nat) (Ar : Option Addr) (nr cr : Nat) (Ad : Option Addr) (nd cd : Nat) (u : ByteArray) (l : List Nm) (w : World) (h : Sl w Ab nb cb l) :
    Calls Try.prog 58 #[.agg #[.string name, .int .i64 from_, .bool split, .slice Az nz cz, .slice Ab nb cb, .slice Ar nr cr, .slice Ad nd cd], .string u] w fun e w' => e = .returned (.bool (knownB l u)) ∧ Below w.heap.size w w' := by
  have hn := h.nmax
  have hlen := Lib.hid h.len
  have H := Lib.hid h
  clear h
  go_enter Try.func58, Try.ntmps58
  go_upto_region 1 with (fail)
  (obtain ⟨W, hWW, hbW, hzW, f1W, qfa⟩ := box1 w #[.string name, .int .i64 from_, .bool split, .slice Az nz cz, .slice Ab nb cb, .slice Ar nr cr, .slice Ad nd cd] 32; rw [← hWW]; have qa0 : W.cell? ⟨w.heap.size, 0, none⟩ = some (.string name) := f1W 0 _ rfl; have qa1 : W.cell? ⟨w.heap.size, 1, none⟩ = some (.int .i64 from_) := f1W 1 _ rfl; have qa2 : W.cell? ⟨w.heap.size, 2, none⟩ = some (.bool split) := f1W 2 _ rfl; have qa3 : W.cell? ⟨w.heap.size, 3, none⟩ = some (.slice Az nz cz) := f1W 3 _ rfl; have qa4 : W.cell? ⟨w.heap.size, 4, none⟩ = some (.slice Ab nb cb) := f1W 4 _ rfl; have qa5 : W.cell? ⟨w.heap.size, 5, none⟩ = some (.slice Ar nr cr) := f1W 5 _ rfl; have qa6 : W.cell? ⟨w.heap.size, 6, none⟩ = some (.slice Ad nd cd) := f1W 6 _ rfl; clear hWW f1W)
  have hzW2 : w.heap.size < W.heap.size := hzW
  go_wp2_with fail
  go_loopw [10] (fun i wr => ∃ k : Nat, k ≤ nb ∧ i = .int .i64 k ∧ Below w.heap.size w wr ∧ W.heap.size ≤ wr.heap.size ∧ (l.take k).any (nmEq u) = false) (fun i _ => nb - (intOf i).toNat)
  case atStart => exact ⟨0, Nat.zero_le _, rfl, hbW, Nat.le_refl _, rfl⟩
  case round =>
    obtain ⟨k, hk, rfl, hb, hz, ha⟩ := hrel
    have HA := Lib.hid ha
    clear ha
    by_cases hlt : k < nb
    · obtain ⟨b, off, rfl, hbl, hcells⟩ := H.out.baseIn hb (by omega)
      obtain ⟨x, hx⟩ := H.out.get hlt
      have e0 : wr.cell? ⟨b, off + k * 2, none⟩ = some (.string x.name) := Sl.at_ hcells hx 0 rfl
      have e1 : wr.cell? ⟨b, off + k * 2 + 1, none⟩ = some (.slice x.A x.n x.c) := Sl.at_ hcells hx 1 rfl
      have HX := Lib.hid hx
      have hbw : b < wr.heap.size := by have := hb.size; omega
      clear hx hcells
      go_upto_region 4 with (fail)
      (obtain ⟨V, hWV, hbV, hzV, f1V, mfa⟩ := box1 wr #[.string x.name, .slice x.A x.n x.c] 70; rw [← hWV]; have ma0 : V.cell? ⟨wr.heap.size, 0, none⟩ = some (.string x.name) := f1V 0 _ rfl; have ma1 : V.cell? ⟨wr.heap.size, 1, none⟩ = some (.slice x.A x.n x.c) := f1V 1 _ rfl; clear hWV f1V)
      have hbT := hb.trans (hbV.mono hb.size)
      have hzT := hbV.size
      clear e0 e1 hbV
      cases hq : (x.name.toList == u.toList)
      · have HN : Hid (nmEq u x = false) := Lib.hid hq
        go_wp2_with fail
        go_roundw
        case rel =>
          refine ⟨k + 1, by omega, by go_num, hbT, by omega, ?_⟩
          rw [List.take_add_one, HX.out, List.any_append, HA.out]
          simp [HN.out]
        case measure => simp [intOf]; omega
      · have HN : Hid (knownB l u = true) := Lib.hid (by rw [knownB, List.any_eq_true.2 ⟨x, List.mem_of_getElem? HX.out, hq⟩]; rfl)
        go_wp2_with fail
        go_ret
        exact ⟨ret_bool HN.out.symm, hbT⟩
    · obtain rfl : nb = k := by omega
      have hkn : ¬ ((nb : Int) < (nb : Int)) := by omega
      have hany : l.any (nmEq u) = false := by
        have := HA.out
        rw [List.take_of_length_le (by have := hlen.out; omega)] at this
        exact this
      cases hq : (u.toList == [])
      all_goals
        have HV : Hid (knownB l u = _) := Lib.hid (show knownB l u = (false || (u.toList == [])) by rw [knownB, hany])
        go_wp2_with fail
        go_ret
        exact ⟨ret_bool (by rw [HV.out, hq]; rfl), hb⟩
set_option maxHeartbeats 4000000 in
theorem refzone_any (name : ByteArray) (from_ : Int) (split : Bool) (Az : Option Addr) (nz cz : Nat) (Ab : Option Addr) (nb cb : Nat) (Ar : Option Addr) (nr cr : Nat) (Ad : Option Addr) (nd cd : Nat) (u : ByteArray) (l : List Nm) (w : World) (h : Sl w Az nz cz l) :
    Calls Try.prog 67 #[.agg #[.string name, .int .i64 from_, .bool split, .slice Az nz cz, .slice Ab nb cb, .slice Ar nr cr, .slice Ad nd cd], .string u] w fun e w' => e = .returned (.bool (knownB l u)) ∧ Below w.heap.size w w' := by
  have hn := h.nmax
  have hlen := Lib.hid h.len
  have H := Lib.hid h
  clear h
  go_enter Try.func67, Try.ntmps67
  go_upto_region 1 with (fail)
  (obtain ⟨W, hWW, hbW, hzW, f1W, qfa⟩ := box1 w #[.string name, .int .i64 from_, .bool split, .slice Az nz cz, .slice Ab nb cb, .slice Ar nr cr, .slice Ad nd cd] 32; rw [← hWW]; have qa0 : W.cell? ⟨w.heap.size, 0, none⟩ = some (.string name) := f1W 0 _ rfl; have qa1 : W.cell? ⟨w.heap.size, 1, none⟩ = some (.int .i64 from_) := f1W 1 _ rfl; have qa2 : W.cell? ⟨w.heap.size, 2, none⟩ = some (.bool split) := f1W 2 _ rfl; have qa3 : W.cell? ⟨w.heap.size, 3, none⟩ = some (.slice Az nz cz) := f1W 3 _ rfl; have qa4 : W.cell? ⟨w.heap.size, 4, none⟩ = some (.slice Ab nb cb) := f1W 4 _ rfl; have qa5 : W.cell? ⟨w.heap.size, 5, none⟩ = some (.slice Ar nr cr) := f1W 5 _ rfl; have qa6 : W.cell? ⟨w.heap.size, 6, none⟩ = some (.slice Ad nd cd) := f1W 6 _ rfl; clear hWW f1W)
  have hzW2 : w.heap.size < W.heap.size := hzW
  go_wp2_with fail
  go_loopw [5] (fun i wr => ∃ k : Nat, k ≤ nz ∧ i = .int .i64 k ∧ Below w.heap.size w wr ∧ W.heap.size ≤ wr.heap.size ∧ (l.take k).any (nmEq u) = false ∧ wr.cell? ⟨w.heap.size, 3, none⟩ = some (.slice Az nz cz)) (fun i _ => nz - (intOf i).toNat)
  case atStart => exact ⟨0, Nat.zero_le _, rfl, hbW, Nat.le_refl _, rfl, qa3⟩
  case round =>
    obtain ⟨k, hk, rfl, hb, hz, ha, qf⟩ := hrel
    have HA := Lib.hid ha
    clear ha
    by_cases hlt : k < nz
    · obtain ⟨b, off, rfl, hbl, hcells⟩ := H.out.baseIn hb (by omega)
      obtain ⟨x, hx⟩ := H.out.get hlt
      have e0 : wr.cell? ⟨b, off + k * 2, none⟩ = some (.string x.name) := Sl.at_ hcells hx 0 rfl
      have e1 : wr.cell? ⟨b, off + k * 2 + 1, none⟩ = some (.slice x.A x.n x.c) := Sl.at_ hcells hx 1 rfl
      have HX := Lib.hid hx
      have hbw : b < wr.heap.size := by have := hb.size; omega
      clear hx hcells e1
      have hbT := hb
      cases hq : (x.name.toList == u.toList)
      · have HN : Hid (nmEq u x = false) := Lib.hid hq
        go_wp2_with fail
        go_roundw
        case rel =>
          refine ⟨k + 1, by omega, by go_num, hbT, by omega, ?_, qf⟩
          rw [List.take_add_one, HX.out, List.any_append, HA.out]
          simp [HN.out]
        case measure => simp [intOf]; omega
      · have HN : Hid (knownB l u = true) := Lib.hid (by rw [knownB, List.any_eq_true.2 ⟨x, List.mem_of_getElem? HX.out, hq⟩]; rfl)
        go_wp2_with fail
        go_ret
        exact ⟨ret_bool HN.out.symm, hbT⟩
    · obtain rfl : nz = k := by omega
      have hkn : ¬ ((nz : Int) < (nz : Int)) := by omega
      have hany : l.any (nmEq u) = false := by
        have := HA.out
        rw [List.take_of_length_le (by have := hlen.out; omega)] at this
        exact this
      cases hq : (u.toList == [])
      all_goals
        have HV : Hid (knownB l u = _) := Lib.hid (show knownB l u = (false || (u.toList == [])) by rw [knownB, hany])
        go_wp2_with fail
        go_ret
        exact ⟨ret_bool (by rw [HV.out, hq]; rfl), hb⟩
set_option maxHeartbeats 4000000 in
theorem refband_any (name : ByteArray) (from_ : Int) (split : Bool) (Az : Option Addr) (nz cz : Nat) (Ab : Option Addr) (nb cb : Nat) (Ar : Option Addr) (nr cr : Nat) (Ad : Option Addr) (nd cd : Nat) (u : ByteArray) (l : List Nm) (w : World) (h : Sl w Ab nb cb l) :
    Calls Try.prog 68 #[.agg #[.string name, .int .i64 from_, .bool split, .slice Az nz cz, .slice Ab nb cb, .slice Ar nr cr, .slice Ad nd cd], .string u] w fun e w' => e = .returned (.bool (knownB l u)) ∧ Below w.heap.size w w' := by
  have hn := h.nmax
  have hlen := Lib.hid h.len
  have H := Lib.hid h
  clear h
  go_enter Try.func68, Try.ntmps68
  go_upto_region 1 with (fail)
  (obtain ⟨W, hWW, hbW, hzW, f1W, qfa⟩ := box1 w #[.string name, .int .i64 from_, .bool split, .slice Az nz cz, .slice Ab nb cb, .slice Ar nr cr, .slice Ad nd cd] 32; rw [← hWW]; have qa0 : W.cell? ⟨w.heap.size, 0, none⟩ = some (.string name) := f1W 0 _ rfl; have qa1 : W.cell? ⟨w.heap.size, 1, none⟩ = some (.int .i64 from_) := f1W 1 _ rfl; have qa2 : W.cell? ⟨w.heap.size, 2, none⟩ = some (.bool split) := f1W 2 _ rfl; have qa3 : W.cell? ⟨w.heap.size, 3, none⟩ = some (.slice Az nz cz) := f1W 3 _ rfl; have qa4 : W.cell? ⟨w.heap.size, 4, none⟩ = some (.slice Ab nb cb) := f1W 4 _ rfl; have qa5 : W.cell? ⟨w.heap.size, 5, none⟩ = some (.slice Ar nr cr) := f1W 5 _ rfl; have qa6 : W.cell? ⟨w.heap.size, 6, none⟩ = some (.slice Ad nd cd) := f1W 6 _ rfl; clear hWW f1W)
  have hzW2 : w.heap.size < W.heap.size := hzW
  go_wp2_with fail
  go_loopw [5] (fun i wr => ∃ k : Nat, k ≤ nb ∧ i = .int .i64 k ∧ Below w.heap.size w wr ∧ W.heap.size ≤ wr.heap.size ∧ (l.take k).any (nmEq u) = false ∧ wr.cell? ⟨w.heap.size, 4, none⟩ = some (.slice Ab nb cb)) (fun i _ => nb - (intOf i).toNat)
  case atStart => exact ⟨0, Nat.zero_le _, rfl, hbW, Nat.le_refl _, rfl, qa4⟩
  case round =>
    obtain ⟨k, hk, rfl, hb, hz, ha, qf⟩ := hrel
    have HA := Lib.hid ha
    clear ha
    by_cases hlt : k < nb
    · obtain ⟨b, off, rfl, hbl, hcells⟩ := H.out.baseIn hb (by omega)
      obtain ⟨x, hx⟩ := H.out.get hlt
      have e0 : wr.cell? ⟨b, off + k * 2, none⟩ = some (.string x.name) := Sl.at_ hcells hx 0 rfl
      have e1 : wr.cell? ⟨b, off + k * 2 + 1, none⟩ = some (.slice x.A x.n x.c) := Sl.at_ hcells hx 1 rfl
      have HX := Lib.hid hx
      have hbw : b < wr.heap.size := by have := hb.size; omega
      clear hx hcells e1
      have hbT := hb
      cases hq : (x.name.toList == u.toList)
      · have HN : Hid (nmEq u x = false) := Lib.hid hq
        go_wp2_with fail
        go_roundw
        case rel =>
          refine ⟨k + 1, by omega, by go_num, hbT, by omega, ?_, qf⟩
          rw [List.take_add_one, HX.out, List.any_append, HA.out]
          simp [HN.out]
        case measure => simp [intOf]; omega
      · have HN : Hid (knownB l u = true) := Lib.hid (by rw [knownB, List.any_eq_true.2 ⟨x, List.mem_of_getElem? HX.out, hq⟩]; rfl)
        go_wp2_with fail
        go_ret
        exact ⟨ret_bool HN.out.symm, hbT⟩
    · obtain rfl : nb = k := by omega
      have hkn : ¬ ((nb : Int) < (nb : Int)) := by omega
      have hany : l.any (nmEq u) = false := by
        have := HA.out
        rw [List.take_of_length_le (by have := hlen.out; omega)] at this
        exact this
      cases hq : (u.toList == [])
      all_goals
        have HV : Hid (knownB l u = _) := Lib.hid (show knownB l u = (false || (u.toList == [])) by rw [knownB, hany])
        go_wp2_with fail
        go_ret
        exact ⟨ret_bool (by rw [HV.out, hq]; rfl), hb⟩
theorem avalid_any (a : Int) (w : World) : Calls Try.prog 59 #[.int .i64 a] w fun r w' => r = .returned (.bool (decide (-1125899906842624 ≤ a) && decide (a ≤ 1125899906842624))) ∧ w = w' := by
  by_cases h1 : -1125899906842624 ≤ a <;> by_cases h2 : a ≤ 1125899906842624
  all_goals
    go_enter Try.func59, Try.ntmps59
    go_wp2_with fail
    go_ret
    exact ⟨ret_bool (by simp [h1, h2]), rfl⟩
/-- the error of a rate -/
def rateE (S : Rt → List Stp) (zs bs : List Nm) (r : Rt) : Int :=
  if r.kind < 1 ∨ 4 < r.kind then 7 else if knownB zs r.zone = false ∨ knownB bs r.band = false then 11 else if r.setup < 0 ∨ 1125899906842624 < r.setup then 6 else stepsE (S r)
theorem rateE_kind {S : Rt → List Stp} {zs bs : List Nm} {r : Rt} (h : r.kind < 1 ∨ 4 < r.kind) : rateE S zs bs r = 7 := by rw [rateE, if_pos h]
theorem rateE_name {S : Rt → List Stp} {zs bs : List Nm} {r : Rt} (h1 : ¬ r.kind < 1) (h4 : ¬ 4 < r.kind) (h : knownB zs r.zone = false ∨ knownB bs r.band = false) : rateE S zs bs r = 11 := by rw [rateE, if_neg (by omega), if_pos h]
theorem rateE_setup {S : Rt → List Stp} {zs bs : List Nm} {r : Rt} (h1 : ¬ r.kind < 1) (h4 : ¬ 4 < r.kind) (hz : knownB zs r.zone = true) (hb : knownB bs r.band = true) (h : r.setup < 0 ∨ 1125899906842624 < r.setup) : rateE S zs bs r = 6 := by
  rw [rateE, if_neg (by omega), if_neg (by rw [hz, hb]; simp), if_pos h]
theorem rateE_steps {S : Rt → List Stp} {zs bs : List Nm} {r : Rt} (h1 : ¬ r.kind < 1) (h4 : ¬ 4 < r.kind) (hz : knownB zs r.zone = true) (hb : knownB bs r.band = true) (h5 : ¬ r.setup < 0) (h6 : ¬ 1125899906842624 < r.setup) : rateE S zs bs r = stepsE (S r) := by
  rw [rateE, if_neg (by omega), if_neg (by rw [hz, hb]; simp), if_neg (by omega)]
set_option maxHeartbeats 8000000 in
theorem rate_any (name : ByteArray) (from_ : Int) (split : Bool) (Az : Option Addr) (nz cz : Nat) (Ab : Option Addr) (nb cb : Nat) (Ar : Option Addr) (nr cr : Nat) (Ad : Option Addr) (nd cd : Nat) (S : Rt → List Stp) (zs bs : List Nm) (r : Rt) (w : World) (hz : Sl w Az nz cz zs) (hb : Sl w Ab nb cb bs) (hs : Sl w r.A r.n r.c (S r)) :
    Calls Try.prog 39 #[.agg #[.string name, .int .i64 from_, .bool split, .slice Az nz cz, .slice Ab nb cb, .slice Ar nr cr, .slice Ad nd cd], .agg #[.int .i64 r.kind, .string r.zone, .string r.band, .int .i64 r.setup, .slice r.A r.n r.c]] w fun e w' => e = .returned (.int .i64 (rateE S zs bs r)) ∧ Below w.heap.size w w' := by
  have HZ := Lib.hid hz
  have HB := Lib.hid hb
  have HSX := Lib.hid hs
  have hxn := hs.nmax
  clear hz hb hs
  go_enter Try.func39, Try.ntmps39
  go_upto_region 1 with (fail)
  (obtain ⟨W, hWW, hbW, hzW, f1W, f2W, qfa, qfb⟩ := box2 w #[.string name, .int .i64 from_, .bool split, .slice Az nz cz, .slice Ab nb cb, .slice Ar nr cr, .slice Ad nd cd] 32 #[.int .i64 r.kind, .string r.zone, .string r.band, .int .i64 r.setup, .slice r.A r.n r.c] 73; rw [← hWW]; have qa0 : W.cell? ⟨w.heap.size, 0, none⟩ = some (.string name) := f1W 0 _ rfl; have qa1 : W.cell? ⟨w.heap.size, 1, none⟩ = some (.int .i64 from_) := f1W 1 _ rfl; have qa2 : W.cell? ⟨w.heap.size, 2, none⟩ = some (.bool split) := f1W 2 _ rfl; have qa3 : W.cell? ⟨w.heap.size, 3, none⟩ = some (.slice Az nz cz) := f1W 3 _ rfl; have qa4 : W.cell? ⟨w.heap.size, 4, none⟩ = some (.slice Ab nb cb) := f1W 4 _ rfl; have qa5 : W.cell? ⟨w.heap.size, 5, none⟩ = some (.slice Ar nr cr) := f1W 5 _ rfl; have qa6 : W.cell? ⟨w.heap.size, 6, none⟩ = some (.slice Ad nd cd) := f1W 6 _ rfl; have qb0 : W.cell? ⟨w.heap.size + 1, 0, none⟩ = some (.int .i64 r.kind) := f2W 0 _ rfl; have qb1 : W.cell? ⟨w.heap.size + 1, 1, none⟩ = some (.string r.zone) := f2W 1 _ rfl; have qb2 : W.cell? ⟨w.heap.size + 1, 2, none⟩ = some (.string r.band) := f2W 2 _ rfl; have qb3 : W.cell? ⟨w.heap.size + 1, 3, none⟩ = some (.int .i64 r.setup) := f2W 3 _ rfl; have qb4 : W.cell? ⟨w.heap.size + 1, 4, none⟩ = some (.slice r.A r.n r.c) := f2W 4 _ rfl; clear hWW f1W f2W)
  have hbT := hbW
  have hzW2 : w.heap.size + 1 < W.heap.size := hzW
  clear hbW
  by_cases d1 : r.kind < 1
  · have HE := Lib.hid (rateE_kind (S := S) (zs := zs) (bs := bs) (.inl d1))
    go_wp2_with fail
    go_ret
    exact ⟨ret_int HE.out.symm, hbT⟩
  by_cases d2 : 4 < r.kind
  · have HE := Lib.hid (rateE_kind (S := S) (zs := zs) (bs := bs) (.inr d2))
    have d2' : 5 ≤ r.kind := by omega
    go_wp2_with fail
    go_ret
    exact ⟨ret_int HE.out.symm, hbT⟩
  have d2' : ¬ 5 ≤ r.kind := by omega
  go_wp2_with fail
  refine (zoned_any name from_ split Az nz cz Ab nb cb Ar nr cr Ad nd cd r.zone zs _ (HZ.out.below hbT)).mono ?_
  rintro e w2 ⟨rfl, hb2⟩
  have hzT := hbT.size
  (have hzhb2 := hb2.size; replace qa0 := (hb2.cell (p := ⟨_, _, none⟩) (by (try dsimp only) <;> omega)).trans qa0; replace qa1 := (hb2.cell (p := ⟨_, _, none⟩) (by (try dsimp only) <;> omega)).trans qa1; replace qa2 := (hb2.cell (p := ⟨_, _, none⟩) (by (try dsimp only) <;> omega)).trans qa2; replace qa3 := (hb2.cell (p := ⟨_, _, none⟩) (by (try dsimp only) <;> omega)).trans qa3; replace qa4 := (hb2.cell (p := ⟨_, _, none⟩) (by (try dsimp only) <;> omega)).trans qa4; replace qa5 := (hb2.cell (p := ⟨_, _, none⟩) (by (try dsimp only) <;> omega)).trans qa5; replace qa6 := (hb2.cell (p := ⟨_, _, none⟩) (by (try dsimp only) <;> omega)).trans qa6; replace qb0 := (hb2.cell (p := ⟨_, _, none⟩) (by (try dsimp only) <;> omega)).trans qb0; replace qb1 := (hb2.cell (p := ⟨_, _, none⟩) (by (try dsimp only) <;> omega)).trans qb1; replace qb2 := (hb2.cell (p := ⟨_, _, none⟩) (by (try dsimp only) <;> omega)).trans qb2; replace qb3 := (hb2.cell (p := ⟨_, _, none⟩) (by (try dsimp only) <;> omega)).trans qb3; replace qb4 := (hb2.cell (p := ⟨_, _, none⟩) (by (try dsimp only) <;> omega)).trans qb4; replace hbT := Below.trans hbT (Below.mono hb2 (by omega)))
  cases hk1 : knownB zs r.zone
  · have HE := Lib.hid (rateE_name (S := S) (bs := bs) (by omega) (by omega) (.inl hk1))
    clear hk1
    go_wp2_with fail
    go_ret
    exact ⟨ret_int HE.out.symm, hbT⟩
  have HK1 := Lib.hid hk1
  clear hk1
  go_wp2_with fail
  refine (banded_any name from_ split Az nz cz Ab nb cb Ar nr cr Ad nd cd r.band bs _ (HB.out.below hbT)).mono ?_
  rintro e w3 ⟨rfl, hb3⟩
  have hzT2 := hbT.size
  (have hzhb3 := hb3.size; replace qa0 := (hb3.cell (p := ⟨_, _, none⟩) (by (try dsimp only) <;> omega)).trans qa0; replace qa1 := (hb3.cell (p := ⟨_, _, none⟩) (by (try dsimp only) <;> omega)).trans qa1; replace qa2 := (hb3.cell (p := ⟨_, _, none⟩) (by (try dsimp only) <;> omega)).trans qa2; replace qa3 := (hb3.cell (p := ⟨_, _, none⟩) (by (try dsimp only) <;> omega)).trans qa3; replace qa4 := (hb3.cell (p := ⟨_, _, none⟩) (by (try dsimp only) <;> omega)).trans qa4; replace qa5 := (hb3.cell (p := ⟨_, _, none⟩) (by (try dsimp only) <;> omega)).trans qa5; replace qa6 := (hb3.cell (p := ⟨_, _, none⟩) (by (try dsimp only) <;> omega)).trans qa6; replace qb0 := (hb3.cell (p := ⟨_, _, none⟩) (by (try dsimp only) <;> omega)).trans qb0; replace qb1 := (hb3.cell (p := ⟨_, _, none⟩) (by (try dsimp only) <;> omega)).trans qb1; replace qb2 := (hb3.cell (p := ⟨_, _, none⟩) (by (try dsimp only) <;> omega)).trans qb2; replace qb3 := (hb3.cell (p := ⟨_, _, none⟩) (by (try dsimp only) <;> omega)).trans qb3; replace qb4 := (hb3.cell (p := ⟨_, _, none⟩) (by (try dsimp only) <;> omega)).trans qb4; replace hbT := Below.trans hbT (Below.mono hb3 (by omega)))
  cases hk2 : knownB bs r.band
  · have HE := Lib.hid (rateE_name (S := S) (zs := zs) (by omega) (by omega) (.inr hk2))
    clear hk2
    go_wp2_with fail
    go_ret
    exact ⟨ret_int HE.out.symm, hbT⟩
  have HK2 := Lib.hid hk2
  clear hk2
  by_cases d5 : r.setup < 0
  · have HE := Lib.hid (rateE_setup (S := S) (by omega) (by omega) HK1.out HK2.out (.inl d5))
    go_wp2_with fail
    go_ret
    exact ⟨ret_int HE.out.symm, hbT⟩
  by_cases d6 : 1125899906842624 < r.setup
  · have HE := Lib.hid (rateE_setup (S := S) (by omega) (by omega) HK1.out HK2.out (.inr d6))
    have hv : (decide (-1125899906842624 ≤ r.setup) && decide (r.setup ≤ 1125899906842624)) = false := by rw [decide_eq_false (by omega : ¬ r.setup ≤ 1125899906842624)]; simp
    go_wp2_with fail
    refine (avalid_any _ _).mono ?_
    rintro e w' ⟨rfl, rfl⟩
    rw [hv]
    go_wp2_with fail
    go_ret
    exact ⟨ret_int HE.out.symm, hbT⟩
  have HE := Lib.hid (rateE_steps (S := S) (by omega) (by omega) HK1.out HK2.out (by omega) (by omega))
  clear d1 d2 d2'
  have hv : (decide (-1125899906842624 ≤ r.setup) && decide (r.setup ≤ 1125899906842624)) = true := by rw [decide_eq_true (by omega : r.setup ≤ 1125899906842624), decide_eq_true (by omega : -1125899906842624 ≤ r.setup)]; rfl
  go_wp2_with fail
  refine (avalid_any _ _).mono ?_
  rintro e w' ⟨rfl, rfl⟩
  rw [hv]
  go_wp2_with fail
  refine (steps_any r.A r.n r.c (S r) _ (HSX.out.below hbT)).mono ?_
  rintro e w4 ⟨rfl, hb4⟩
  replace hbT := hbT.trans (hb4.mono hbT.size)
  go_wp2_with fail
  go_ret
  exact ⟨ret_int HE.out.symm, hbT⟩
def ratesF (S : Rt → List Stp) (zs bs : List Nm) (rs : List Rt) (i : Nat) : Int := match rs[i]? with
  | none => 0
  | some r => rateE S zs bs r
theorem ratesF_at {S : Rt → List Stp} {zs bs : List Nm} {rs : List Rt} {i : Nat} {r : Rt} (h : rs[i]? = some r) : ratesF S zs bs rs i = rateE S zs bs r := by simp only [ratesF, h]
def ratesE (S : Rt → List Stp) (zs bs : List Nm) (rs : List Rt) : Int := if 64 < rs.length then 5 else firstE rs.length (ratesF S zs bs rs)
theorem ratesE_bad {S : Rt → List Stp} {zs bs : List Nm} {rs : List Rt} (h64 : ¬ 64 < rs.length) {k : Nat} {r : Rt} {e : Int} (ha : ∀ j, j < k → ratesF S zs bs rs j = 0) (hx : rs[k]? = some r) (he : rateE S zs bs r = e) (hne : e ≠ 0) : ratesE S zs bs rs = e := by
  rw [ratesE, if_neg h64]
  exact firstE_bad _ k _ _ ha (List.getElem?_eq_some_iff.1 hx).1 ((ratesF_at hx).trans he) hne
theorem ratesE_ok {S : Rt → List Stp} {zs bs : List Nm} {rs : List Rt} (h64 : ¬ 64 < rs.length) (ha : ∀ j, j < rs.length → ratesF S zs bs rs j = 0) : ratesE S zs bs rs = 0 := by
  rw [ratesE, if_neg h64]; exact firstE_ok _ _ ha
set_option maxHeartbeats 8000000 in
theorem refrates_any (name : ByteArray) (from_ : Int) (split : Bool) (Az : Option Addr) (nz cz : Nat) (Ab : Option Addr) (nb cb : Nat) (Ar : Option Addr) (nr cr : Nat) (Ad : Option Addr) (nd cd : Nat) (S : Rt → List Stp) (zs bs : List Nm) (rs : List Rt) (w : World) (hz : Sl w Az nz cz zs) (hb : Sl w Ab nb cb bs) (h : Sl w Ar nr cr rs) (hs : ∀ r ∈ rs, Sl w r.A r.n r.c (S r)) :
    Calls Try.prog 44 #[.agg #[.string name, .int .i64 from_, .bool split, .slice Az nz cz, .slice Ab nb cb, .slice Ar nr cr, .slice Ad nd cd]] w fun e w' => e = .returned (.int .i64 (ratesE S zs bs rs)) ∧ Below w.heap.size w w' := by
  have hn := h.nmax
  have hlen := h.len
  have HZ := Lib.hid hz
  have HB := Lib.hid hb
  have H := Lib.hid h
  have HS := Lib.hid hs
  clear hz hb hs h
  by_cases h64 : (64 : Int) < (nr : Int)
  · have HE : Hid (ratesE S zs bs rs = 5) := Lib.hid (by rw [ratesE, if_pos (by omega)])
    go_enter Try.func44, Try.ntmps44
    go_wp2_with fail
    go_ret
    exact ⟨ret_int HE.out.symm, (Below.refl _ _).alloc (Nat.le_refl _) _⟩
  have h64n : ¬ 64 < rs.length := by omega
  have HLEN := Lib.hid hlen
  go_enter Try.func44, Try.ntmps44
  go_upto_region 1 with (fail)
  (obtain ⟨W, hWW, hbW, hzW, f1W, qfa⟩ := box1 w #[.string name, .int .i64 from_, .bool split, .slice Az nz cz, .slice Ab nb cb, .slice Ar nr cr, .slice Ad nd cd] 32; rw [← hWW]; have qa0 : W.cell? ⟨w.heap.size, 0, none⟩ = some (.string name) := f1W 0 _ rfl; have qa1 : W.cell? ⟨w.heap.size, 1, none⟩ = some (.int .i64 from_) := f1W 1 _ rfl; have qa2 : W.cell? ⟨w.heap.size, 2, none⟩ = some (.bool split) := f1W 2 _ rfl; have qa3 : W.cell? ⟨w.heap.size, 3, none⟩ = some (.slice Az nz cz) := f1W 3 _ rfl; have qa4 : W.cell? ⟨w.heap.size, 4, none⟩ = some (.slice Ab nb cb) := f1W 4 _ rfl; have qa5 : W.cell? ⟨w.heap.size, 5, none⟩ = some (.slice Ar nr cr) := f1W 5 _ rfl; have qa6 : W.cell? ⟨w.heap.size, 6, none⟩ = some (.slice Ad nd cd) := f1W 6 _ rfl; clear hWW f1W)
  have hzW2 : w.heap.size < W.heap.size := hzW
  go_wp2_with fail
  go_loopw [3] (fun i wr => ∃ k : Nat, k ≤ nr ∧ i = .int .i64 k ∧ Below W.heap.size W wr ∧ ∀ j, j < k → ratesF S zs bs rs j = 0) (fun i _ => nr - (intOf i).toNat)
  case atStart => exact ⟨0, Nat.zero_le _, rfl, Below.refl _ _, fun j hj => absurd hj (by omega)⟩
  case round =>
    obtain ⟨k, hk, rfl, hbr, ha⟩ := hrel
    have HA := Lib.hid ha
    clear ha
    have hzr := hbr.size
    have hbT := hbW.trans (hbr.mono hbW.size)
    (have hzhbr := hbr.size; replace qa0 := (hbr.cell (p := ⟨_, _, none⟩) (by (try dsimp only) <;> omega)).trans qa0; replace qa1 := (hbr.cell (p := ⟨_, _, none⟩) (by (try dsimp only) <;> omega)).trans qa1; replace qa2 := (hbr.cell (p := ⟨_, _, none⟩) (by (try dsimp only) <;> omega)).trans qa2; replace qa3 := (hbr.cell (p := ⟨_, _, none⟩) (by (try dsimp only) <;> omega)).trans qa3; replace qa4 := (hbr.cell (p := ⟨_, _, none⟩) (by (try dsimp only) <;> omega)).trans qa4; replace qa5 := (hbr.cell (p := ⟨_, _, none⟩) (by (try dsimp only) <;> omega)).trans qa5; replace qa6 := (hbr.cell (p := ⟨_, _, none⟩) (by (try dsimp only) <;> omega)).trans qa6)
    by_cases hlt : k < nr
    · obtain ⟨b, off, rfl, hbl, hcells⟩ := H.out.baseIn hbT (by omega)
      obtain ⟨r, hx⟩ := H.out.get hlt
      have e0 : wr.cell? ⟨b, off + k * 5, none⟩ = some (.int .i64 r.kind) := Sl.at_ hcells hx 0 rfl
      have e1 : wr.cell? ⟨b, off + k * 5 + 1, none⟩ = some (.string r.zone) := Sl.at_ hcells hx 1 rfl
      have e2 : wr.cell? ⟨b, off + k * 5 + 2, none⟩ = some (.string r.band) := Sl.at_ hcells hx 2 rfl
      have e3 : wr.cell? ⟨b, off + k * 5 + 3, none⟩ = some (.int .i64 r.setup) := Sl.at_ hcells hx 3 rfl
      have e4 : wr.cell? ⟨b, off + k * 5 + 4, none⟩ = some (.slice r.A r.n r.c) := Sl.at_ hcells hx 4 rfl
      have HX := Lib.hid hx
      have HSX := Lib.hid (HS.out r (List.mem_of_getElem? hx))
      have hxn := HSX.out.nmax
      clear hcells hx
      go_upto_region 7 with (fail)
      (obtain ⟨V, hWV, hbV, hzV, f1V, mfa⟩ := box1 wr #[.int .i64 r.kind, .string r.zone, .string r.band, .int .i64 r.setup, .slice r.A r.n r.c] 73; rw [← hWV]; have ma0 : V.cell? ⟨wr.heap.size, 0, none⟩ = some (.int .i64 r.kind) := f1V 0 _ rfl; have ma1 : V.cell? ⟨wr.heap.size, 1, none⟩ = some (.string r.zone) := f1V 1 _ rfl; have ma2 : V.cell? ⟨wr.heap.size, 2, none⟩ = some (.string r.band) := f1V 2 _ rfl; have ma3 : V.cell? ⟨wr.heap.size, 3, none⟩ = some (.int .i64 r.setup) := f1V 3 _ rfl; have ma4 : V.cell? ⟨wr.heap.size, 4, none⟩ = some (.slice r.A r.n r.c) := f1V 4 _ rfl; clear hWV f1V)
      have hbR := hbr.trans (hbV.mono hbr.size)
      replace hbT := hbT.trans (hbV.mono hbT.size)
      have hzV2 : wr.heap.size < V.heap.size := hzV
      (have hzhbV := hbV.size; replace qa0 := (hbV.cell (p := ⟨_, _, none⟩) (by (try dsimp only) <;> omega)).trans qa0; replace qa1 := (hbV.cell (p := ⟨_, _, none⟩) (by (try dsimp only) <;> omega)).trans qa1; replace qa2 := (hbV.cell (p := ⟨_, _, none⟩) (by (try dsimp only) <;> omega)).trans qa2; replace qa3 := (hbV.cell (p := ⟨_, _, none⟩) (by (try dsimp only) <;> omega)).trans qa3; replace qa4 := (hbV.cell (p := ⟨_, _, none⟩) (by (try dsimp only) <;> omega)).trans qa4; replace qa5 := (hbV.cell (p := ⟨_, _, none⟩) (by (try dsimp only) <;> omega)).trans qa5; replace qa6 := (hbV.cell (p := ⟨_, _, none⟩) (by (try dsimp only) <;> omega)).trans qa6)
      obtain ⟨q, hq⟩ : ∃ q, wr.heap.size = q := ⟨_, rfl⟩
      rw [hq] at ma0 ma1 ma2 ma3 ma4 ⊢
      have hqV : q < V.heap.size := by omega
      have hwV : w.heap.size < V.heap.size := by omega
      clear e0 e1 e2 e3 e4 hbV hzV mfa hbW hbr hzr hzV2 hq hzhbV hzhbr
      by_cases d1 : r.kind < 1
      · have HE := Lib.hid (rateE_kind (S := S) (zs := zs) (bs := bs) (.inl d1))
        go_wp2_with fail
        go_ret
        exact ⟨ret_int (ratesE_bad h64n HA.out HX.out HE.out (by decide)).symm, hbT⟩
      by_cases d2 : 4 < r.kind
      · have HE := Lib.hid (rateE_kind (S := S) (zs := zs) (bs := bs) (.inr d2))
        have d2' : 5 ≤ r.kind := by omega
        go_wp2_with fail
        go_ret
        exact ⟨ret_int (ratesE_bad h64n HA.out HX.out HE.out (by decide)).symm, hbT⟩
      have d2' : ¬ 5 ≤ r.kind := by omega
      go_wp2_with fail
      refine (refzone_any name from_ split Az nz cz Ab nb cb (some ⟨b, off, none⟩) nr cr Ad nd cd r.zone zs _ (HZ.out.below hbT)).mono ?_
      rintro e w2 ⟨rfl, hb2⟩
      have hzT := hbT.size
      (have hzhb2 := hb2.size; replace qa0 := (hb2.cell (p := ⟨_, _, none⟩) (by (try dsimp only) <;> omega)).trans qa0; replace qa1 := (hb2.cell (p := ⟨_, _, none⟩) (by (try dsimp only) <;> omega)).trans qa1; replace qa2 := (hb2.cell (p := ⟨_, _, none⟩) (by (try dsimp only) <;> omega)).trans qa2; replace qa3 := (hb2.cell (p := ⟨_, _, none⟩) (by (try dsimp only) <;> omega)).trans qa3; replace qa4 := (hb2.cell (p := ⟨_, _, none⟩) (by (try dsimp only) <;> omega)).trans qa4; replace qa5 := (hb2.cell (p := ⟨_, _, none⟩) (by (try dsimp only) <;> omega)).trans qa5; replace qa6 := (hb2.cell (p := ⟨_, _, none⟩) (by (try dsimp only) <;> omega)).trans qa6; replace ma0 := (hb2.cell (p := ⟨_, _, none⟩) (by (try dsimp only) <;> omega)).trans ma0; replace ma1 := (hb2.cell (p := ⟨_, _, none⟩) (by (try dsimp only) <;> omega)).trans ma1; replace ma2 := (hb2.cell (p := ⟨_, _, none⟩) (by (try dsimp only) <;> omega)).trans ma2; replace ma3 := (hb2.cell (p := ⟨_, _, none⟩) (by (try dsimp only) <;> omega)).trans ma3; replace ma4 := (hb2.cell (p := ⟨_, _, none⟩) (by (try dsimp only) <;> omega)).trans ma4; replace hbT := Below.trans hbT (Below.mono hb2 (by omega)))
      cases hk1 : knownB zs r.zone
      · have HE := Lib.hid (rateE_name (S := S) (bs := bs) (by omega) (by omega) (.inl hk1))
        clear hk1
        go_wp2_with fail
        go_ret
        exact ⟨ret_int (ratesE_bad h64n HA.out HX.out HE.out (by decide)).symm, hbT⟩
      have HK1 := Lib.hid hk1
      clear hk1
      go_wp2_with fail
      refine (refband_any name from_ split Az nz cz Ab nb cb (some ⟨b, off, none⟩) nr cr Ad nd cd r.band bs _ (HB.out.below hbT)).mono ?_
      rintro e w3 ⟨rfl, hb3⟩
      have hzT2 := hbT.size
      (have hzhb3 := hb3.size; replace qa0 := (hb3.cell (p := ⟨_, _, none⟩) (by (try dsimp only) <;> omega)).trans qa0; replace qa1 := (hb3.cell (p := ⟨_, _, none⟩) (by (try dsimp only) <;> omega)).trans qa1; replace qa2 := (hb3.cell (p := ⟨_, _, none⟩) (by (try dsimp only) <;> omega)).trans qa2; replace qa3 := (hb3.cell (p := ⟨_, _, none⟩) (by (try dsimp only) <;> omega)).trans qa3; replace qa4 := (hb3.cell (p := ⟨_, _, none⟩) (by (try dsimp only) <;> omega)).trans qa4; replace qa5 := (hb3.cell (p := ⟨_, _, none⟩) (by (try dsimp only) <;> omega)).trans qa5; replace qa6 := (hb3.cell (p := ⟨_, _, none⟩) (by (try dsimp only) <;> omega)).trans qa6; replace ma0 := (hb3.cell (p := ⟨_, _, none⟩) (by (try dsimp only) <;> omega)).trans ma0; replace ma1 := (hb3.cell (p := ⟨_, _, none⟩) (by (try dsimp only) <;> omega)).trans ma1; replace ma2 := (hb3.cell (p := ⟨_, _, none⟩) (by (try dsimp only) <;> omega)).trans ma2; replace ma3 := (hb3.cell (p := ⟨_, _, none⟩) (by (try dsimp only) <;> omega)).trans ma3; replace ma4 := (hb3.cell (p := ⟨_, _, none⟩) (by (try dsimp only) <;> omega)).trans ma4; replace hbT := Below.trans hbT (Below.mono hb3 (by omega)))
      cases hk2 : knownB bs r.band
      · have HE := Lib.hid (rateE_name (S := S) (zs := zs) (by omega) (by omega) (.inr hk2))
        clear hk2
        go_wp2_with fail
        go_ret
        exact ⟨ret_int (ratesE_bad h64n HA.out HX.out HE.out (by decide)).symm, hbT⟩
      have HK2 := Lib.hid hk2
      clear hk2
      by_cases d5 : r.setup < 0
      · have HE := Lib.hid (rateE_setup (S := S) (by omega) (by omega) HK1.out HK2.out (.inl d5))
        go_wp2_with fail
        go_ret
        exact ⟨ret_int (ratesE_bad h64n HA.out HX.out HE.out (by decide)).symm, hbT⟩
      by_cases d6 : 1125899906842624 < r.setup
      · have HE := Lib.hid (rateE_setup (S := S) (by omega) (by omega) HK1.out HK2.out (.inr d6))
        go_wp2_with fail
        go_ret
        exact ⟨ret_int (ratesE_bad h64n HA.out HX.out HE.out (by decide)).symm, hbT⟩
      have HE := Lib.hid (rateE_steps (S := S) (by omega) (by omega) HK1.out HK2.out (by omega) (by omega))
      clear d1 d2 d2'
      go_wp2_with fail
      refine (refsteps_any r.A r.n r.c (S r) _ (HSX.out.below hbT)).mono ?_
      rintro e w4 ⟨rfl, hb4⟩
      replace hbT := hbT.trans (hb4.mono hbT.size)
      obtain ⟨y, hy⟩ : ∃ y, stepsE (S r) = y := ⟨_, rfl⟩
      rw [hy] at HE ⊢
      by_cases hy0 : y = 0
      · subst hy0
        go_wp2_with fail
        go_roundw
        case rel => exact ⟨k + 1, by omega, by go_num, hbR.trans (((hb2.trans (hb3.mono hb2.size)).trans (hb4.mono (Nat.le_trans hb2.size hb3.size))).mono hbR.size), zero_step HA.out ((ratesF_at HX.out).trans HE.out)⟩
        case measure => simp [intOf]; omega
      · have q5 : (y != 0) = true := by simpa using hy0
        have HY0 := Lib.hid hy0
        clear hy0 hy
        go_wp2_with fail
        go_ret
        exact ⟨ret_int (ratesE_bad h64n HA.out HX.out HE.out HY0.out).symm, hbT⟩
    · obtain rfl : nr = k := by omega
      have HV := Lib.hid (ratesE_ok (S := S) (zs := zs) (bs := bs) h64n (by rw [HLEN.out]; exact HA.out))
      have hkn : ¬ ((nr : Int) < (nr : Int)) := by omega
      go_wp2_with fail
      go_ret
      exact ⟨ret_int HV.out.symm, hbT⟩
end Cv
end Go.Proofs.Ytdnnnajohdohaaa
