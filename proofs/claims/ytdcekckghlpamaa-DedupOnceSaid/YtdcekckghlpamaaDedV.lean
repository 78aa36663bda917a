/-
  Dedup: Same of records, of rejects. No condition.
-/
import Derived.Test.YtdcekckghlpamaaDedR
import Derived.BigQuiet
import Derived.StillTailTactics
import Derived.Lib.Overlaps
import Derived.Deep.DeepCutAuto
import Derived.Deep.RegionWith
import Derived.Laws.RangeAny
set_option maxRecDepth 100000
set_option linter.unusedVariables false
set_option linter.unusedSimpArgs false
namespace Go.Proofs.Ytdcekckghlpamaa
open Go.RowKit

namespace Dd
set_option maxHeartbeats 4000000 in
theorem samerec_in (xs : List Rec) (A B : Option Addr) (n c d : Nat) (w : World) (h : Sl w A n c xs) (h2 : Sl w B n d xs) :
    Calls Try.prog 33 #[.slice A n c, .slice B n d] w fun r w' => r = .returned (.bool true) ∧ Below w.heap.size w w' := by
  have hn := h.nmax
  have H := Lib.hid h
  have H2 := Lib.hid h2
  clear h h2
  go_enter Try.func33, Try.ntmps33
  go_wp2_with fail
  go_loopw [5] (fun i wr => ∃ (k : Nat), k ≤ n ∧ i = .int .i64 k ∧ Below w.heap.size w wr) (fun i _ => n - (intOf i).toNat)
  case atStart => exact ⟨0, Nat.zero_le _, rfl, Below.refl _ _⟩
  case round =>
    obtain ⟨k, hk, rfl, hb⟩ := hrel
    by_cases hlt : k < n
    · obtain ⟨b, off, rfl, hbl, hcells⟩ := H.out.baseIn hb (by omega)
      obtain ⟨b2, off2, rfl, hbl2, hcells2⟩ := H2.out.baseIn hb (by omega)
      obtain ⟨x, hx⟩ := H.out.get hlt
      have c0 : wr.cell? ⟨b, off + k * 12, none⟩ = some (.int .i64 x.src) := Sl.at_ hcells hx 0 rfl
      have c1 : wr.cell? ⟨b, off + k * 12 + 1, none⟩ = some (.int .i64 x.ser) := Sl.at_ hcells hx 1 rfl
      have c2 : wr.cell? ⟨b, off + k * 12 + 2, none⟩ = some (.int .i64 x.kind) := Sl.at_ hcells hx 2 rfl
      have c3 : wr.cell? ⟨b, off + k * 12 + 3, none⟩ = some (.string x.a) := Sl.at_ hcells hx 3 rfl
      have c4 : wr.cell? ⟨b, off + k * 12 + 4, none⟩ = some (.string x.b) := Sl.at_ hcells hx 4 rfl
      have c5 : wr.cell? ⟨b, off + k * 12 + 5, none⟩ = some (.int .i64 x.start) := Sl.at_ hcells hx 5 rfl
      have c6 : wr.cell? ⟨b, off + k * 12 + 6, none⟩ = some (.int .i64 x.units) := Sl.at_ hcells hx 6 rfl
      have c7 : wr.cell? ⟨b, off + k * 12 + 7, none⟩ = some (.int .i64 x.call) := Sl.at_ hcells hx 7 rfl
      have c8 : wr.cell? ⟨b, off + k * 12 + 8, none⟩ = some (.int .i64 x.part) := Sl.at_ hcells hx 8 rfl
      have c9 : wr.cell? ⟨b, off + k * 12 + 9, none⟩ = some (.bool x.last) := Sl.at_ hcells hx 9 rfl
      have c10 : wr.cell? ⟨b, off + k * 12 + 10, none⟩ = some (.int .i64 x.trunk) := Sl.at_ hcells hx 10 rfl
      have c11 : wr.cell? ⟨b, off + k * 12 + 11, none⟩ = some (.bool x.inb) := Sl.at_ hcells hx 11 rfl
      have e0 : wr.cell? ⟨b2, off2 + k * 12, none⟩ = some (.int .i64 x.src) := Sl.at_ hcells2 hx 0 rfl
      have e1 : wr.cell? ⟨b2, off2 + k * 12 + 1, none⟩ = some (.int .i64 x.ser) := Sl.at_ hcells2 hx 1 rfl
      have e2 : wr.cell? ⟨b2, off2 + k * 12 + 2, none⟩ = some (.int .i64 x.kind) := Sl.at_ hcells2 hx 2 rfl
      have e3 : wr.cell? ⟨b2, off2 + k * 12 + 3, none⟩ = some (.string x.a) := Sl.at_ hcells2 hx 3 rfl
      have e4 : wr.cell? ⟨b2, off2 + k * 12 + 4, none⟩ = some (.string x.b) := Sl.at_ hcells2 hx 4 rfl
      have e5 : wr.cell? ⟨b2, off2 + k * 12 + 5, none⟩ = some (.int .i64 x.start) := Sl.at_ hcells2 hx 5 rfl
      have e6 : wr.cell? ⟨b2, off2 + k * 12 + 6, none⟩ = some (.int .i64 x.units) := Sl.at_ hcells2 hx 6 rfl
      have e7 : wr.cell? ⟨b2, off2 + k * 12 + 7, none⟩ = some (.int .i64 x.call) := Sl.at_ hcells2 hx 7 rfl
      have e8 : wr.cell? ⟨b2, off2 + k * 12 + 8, none⟩ = some (.int .i64 x.part) := Sl.at_ hcells2 hx 8 rfl
      have e9 : wr.cell? ⟨b2, off2 + k * 12 + 9, none⟩ = some (.bool x.last) := Sl.at_ hcells2 hx 9 rfl
      have e10 : wr.cell? ⟨b2, off2 + k * 12 + 10, none⟩ = some (.int .i64 x.trunk) := Sl.at_ hcells2 hx 10 rfl
      have e11 : wr.cell? ⟨b2, off2 + k * 12 + 11, none⟩ = some (.bool x.inb) := Sl.at_ hcells2 hx 11 rfl
      have b0 : (x.src == x.src) = true := by simp
      have b1 : (x.ser == x.ser) = true := by simp
      have b2 : (x.kind == x.kind) = true := by simp
      have b3 : (x.a.toList == x.a.toList) = true := by simp
      have b4 : (x.b.toList == x.b.toList) = true := by simp
      have b5 : (x.start == x.start) = true := by simp
      have b6 : (x.units == x.units) = true := by simp
      have b7 : (x.call == x.call) = true := by simp
      have b8 : (x.part == x.part) = true := by simp
      have b9 : (x.last == x.last) = true := by simp
      have b10 : (x.trunk == x.trunk) = true := by simp
      have b11 : (x.inb == x.inb) = true := by simp
      clear hcells hcells2 hx
      go_upto_region 6 with (fail)
      go_still_tail 8, (by kernel_rfl)
      change wpList _ _ _ _ _ wr.drew
      go_wp2_with fail
      go_roundw
      case rel => exact ⟨k + 1, by omega, by go_num, hb.trans ((Below.refl _ _).drew.mono (by exact hb.size))⟩
      case measure => simp [intOf]; omega
    · obtain rfl : k = n := by omega
      have hkn : ¬ ((k : Int) < (k : Int)) := by omega
      go_wp2_with fail
      go_ret
      exact ⟨rfl, hb⟩
theorem samerec_eq (xs : List Rec) (A B : Option Addr) (n c d : Nat) (w : World) (h : Sl w A n c xs) (h2 : Sl w B n d xs) :
    Calls Try.prog 25 #[.slice A n c, .slice B n d] w fun r w' => r = .returned (.bool true) ∧ Below w.heap.size w w' := by
  go_enter Try.func25, Try.ntmps25
  go_wp2_with fail
  refine (samerec_in xs A B n c d _ h h2).mono ?_
  rintro r w2 ⟨rfl, hb2⟩
  go_wp2_with fail
  go_ret
  exact ⟨rfl, hb2⟩
set_option maxHeartbeats 4000000 in
theorem samerej_in (xs : List Rej) (A B : Option Addr) (n c d : Nat) (w : World) (h : Sl w A n c xs) (h2 : Sl w B n d xs) :
    Calls Try.prog 34 #[.slice A n c, .slice B n d] w fun r w' => r = .returned (.bool true) ∧ Below w.heap.size w w' := by
  have hn := h.nmax
  have H := Lib.hid h
  have H2 := Lib.hid h2
  clear h h2
  go_enter Try.func34, Try.ntmps34
  go_wp2_with fail
  go_loopw [5] (fun i wr => ∃ (k : Nat), k ≤ n ∧ i = .int .i64 k ∧ Below w.heap.size w wr) (fun i _ => n - (intOf i).toNat)
  case atStart => exact ⟨0, Nat.zero_le _, rfl, Below.refl _ _⟩
  case round =>
    obtain ⟨k, hk, rfl, hb⟩ := hrel
    by_cases hlt : k < n
    · obtain ⟨b, off, rfl, hbl, hcells⟩ := H.out.baseIn hb (by omega)
      obtain ⟨b2, off2, rfl, hbl2, hcells2⟩ := H2.out.baseIn hb (by omega)
      obtain ⟨x, hx⟩ := H.out.get hlt
      have c0 : wr.cell? ⟨b, off + k * 4, none⟩ = some (.int .i64 x.src) := Sl.at_ hcells hx 0 rfl
      have c1 : wr.cell? ⟨b, off + k * 4 + 1, none⟩ = some (.int .i64 x.ser) := Sl.at_ hcells hx 1 rfl
      have c2 : wr.cell? ⟨b, off + k * 4 + 2, none⟩ = some (.int .i64 x.idx) := Sl.at_ hcells hx 2 rfl
      have c3 : wr.cell? ⟨b, off + k * 4 + 3, none⟩ = some (.int .i64 x.err) := Sl.at_ hcells hx 3 rfl
      have e0 : wr.cell? ⟨b2, off2 + k * 4, none⟩ = some (.int .i64 x.src) := Sl.at_ hcells2 hx 0 rfl
      have e1 : wr.cell? ⟨b2, off2 + k * 4 + 1, none⟩ = some (.int .i64 x.ser) := Sl.at_ hcells2 hx 1 rfl
      have e2 : wr.cell? ⟨b2, off2 + k * 4 + 2, none⟩ = some (.int .i64 x.idx) := Sl.at_ hcells2 hx 2 rfl
      have e3 : wr.cell? ⟨b2, off2 + k * 4 + 3, none⟩ = some (.int .i64 x.err) := Sl.at_ hcells2 hx 3 rfl
      have b0 : (x.src == x.src) = true := by simp
      have b1 : (x.ser == x.ser) = true := by simp
      have b2 : (x.idx == x.idx) = true := by simp
      have b3 : (x.err == x.err) = true := by simp
      clear hcells hcells2 hx
      go_upto_region 6 with (fail)
      go_still_tail 8, (by kernel_rfl)
      change wpList _ _ _ _ _ wr.drew
      go_wp2_with fail
      go_roundw
      case rel => exact ⟨k + 1, by omega, by go_num, hb.trans ((Below.refl _ _).drew.mono (by exact hb.size))⟩
      case measure => simp [intOf]; omega
    · obtain rfl : k = n := by omega
      have hkn : ¬ ((k : Int) < (k : Int)) := by omega
      go_wp2_with fail
      go_ret
      exact ⟨rfl, hb⟩
theorem samerej_eq (xs : List Rej) (A B : Option Addr) (n c d : Nat) (w : World) (h : Sl w A n c xs) (h2 : Sl w B n d xs) :
    Calls Try.prog 26 #[.slice A n c, .slice B n d] w fun r w' => r = .returned (.bool true) ∧ Below w.heap.size w w' := by
  go_enter Try.func26, Try.ntmps26
  go_wp2_with fail
  refine (samerej_in xs A B n c d _ h h2).mono ?_
  rintro r w2 ⟨rfl, hb2⟩
  go_wp2_with fail
  go_ret
  exact ⟨rfl, hb2⟩
end Dd
end Go.Proofs.Ytdcekckghlpamaa
