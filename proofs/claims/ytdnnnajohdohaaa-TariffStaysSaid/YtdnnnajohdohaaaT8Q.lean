/-
  Bands: by name, slots, in plain words and walked. No condition.
-/
import Derived.Test.YtdnnnajohdohaaaT8C
import Derived.Test.YtdnnnajohdohaaaT8O
import Derived.BigQuiet
import Derived.StillTailTactics
import Derived.Lib.Overlaps
import Derived.Deep.DeepCutAuto
import Derived.Deep.RegionWith
import Derived.Laws.RangeAny
set_option maxRecDepth 100000
set_option linter.unusedVariables false
set_option linter.unusedSimpArgs false
namespace Go.Proofs.Ytdnnnajohdohaaa
open Go.RowKit

namespace Cv
open Xp Ck
def nmEq (u : ByteArray) (x : Nm) : Bool := x.name.toList == u.toList
def slotB (s : Slt) : Bool := decide (1 ≤ s.days) && decide (s.days ≤ 255) && decide (0 ≤ s.from_) && decide (s.from_ < s.to_) && decide (s.to_ ≤ 1440)
def slotsE (l : List Slt) : Int := if l.length = 0 then 8 else if 64 < l.length then 5 else if l.all slotB = true then 0 else 6
theorem slot_no {s : Slt} (h : s.days < 1 ∨ 255 < s.days ∨ s.from_ < 0 ∨ s.to_ ≤ s.from_ ∨ 1440 < s.to_) : slotB s = false := by
  cases hq : slotB s with
  | false => rfl
  | true => unfold slotB at hq; simp only [Bool.and_eq_true, decide_eq_true_eq] at hq; omega
theorem slot_yes {s : Slt} (h1 : ¬ s.days < 1) (h2 : ¬ 255 < s.days) (h3 : ¬ s.from_ < 0) (h4 : ¬ s.to_ ≤ s.from_) (h5 : ¬ 1440 < s.to_) : slotB s = true := by
  unfold slotB; simp only [Bool.and_eq_true, decide_eq_true_eq]; omega
theorem slotsE_zero {l : List Slt} (h : l.length = 0) : slotsE l = 8 := by rw [slotsE, if_pos h]
theorem slotsE_long {l : List Slt} (h : 64 < l.length) : slotsE l = 5 := by rw [slotsE, if_neg (by omega), if_pos h]
theorem slotsE_no {l : List Slt} {k : Nat} {s : Slt} (hx : l[k]? = some s) (hs : slotB s = false) (h0 : l.length ≠ 0) (h64 : ¬ 64 < l.length) : slotsE l = 6 := by
  rw [slotsE, if_neg h0, if_neg h64, if_neg]
  intro h
  have := List.all_eq_true.1 h s (List.mem_of_getElem? hx)
  rw [hs] at this
  cases this
theorem slotsE_ok {l : List Slt} (h : l.all slotB = true) (h0 : l.length ≠ 0) (h64 : ¬ 64 < l.length) : slotsE l = 0 := by rw [slotsE, if_neg h0, if_neg h64, if_pos h]
theorem sl_step {l : List Slt} {k : Nat} {s : Slt} (h : (l.take k).all slotB = true) (hx : l[k]? = some s) (hs : slotB s = true) : (l.take (k + 1)).all slotB = true := by
  rw [List.take_add_one, hx, List.all_append, h]; simp [hs]
set_option maxHeartbeats 2000000 in
theorem bfn_any (g : Nat) (u : ByteArray) (x : Nm) (w : World) (hg : g < w.heap.size) (c0 : w.cell? ⟨g, 0, none⟩ = some (.string u)) :
    Calls Try.prog 55 #[.agg #[.string x.name, .slice x.A x.n x.c], .pointer (some ⟨g, 0, none⟩)] w fun r w' => r = .returned (.bool (nmEq u x)) ∧ Below w.heap.size w w' := by
  cases h1 : (x.name.toList == u.toList)
  all_goals
    go_enter Try.func55, Try.ntmps55
    go_upto_region 1 with (fail)
    (obtain ⟨W, hWW, hbW, hzW, f1W, qfa⟩ := box1 w #[.string x.name, .slice x.A x.n x.c] 70; rw [← hWW]; have qa0 : W.cell? ⟨w.heap.size, 0, none⟩ = some (.string x.name) := f1W 0 _ rfl; have qa1 : W.cell? ⟨w.heap.size, 1, none⟩ = some (.slice x.A x.n x.c) := f1W 1 _ rfl; clear hWW f1W)
    (have hzhbW := hbW.size; replace c0 := (hbW.cell (p := ⟨_, _, none⟩) (by (try dsimp only) <;> omega)).trans c0)
    go_wp2_with fail
    go_ret
    exact ⟨ret_bool (by rw [nmEq, h1]), hbW⟩
set_option maxHeartbeats 2000000 in
theorem bindex_any (g : Nat) (u : ByteArray) (A : Option Addr) (n c : Nat) (ds : List Nm) (w : World) (h : Sl w A n c ds) (hg : g < w.heap.size) (c0 : w.cell? ⟨g, 0, none⟩ = some (.string u)) :
    Calls Try.prog 76 #[.slice A n c, .func (.func 55) #[] #[.pointer (some ⟨g, 0, none⟩)]] w fun r w' => ∃ k : Int, r = .returned (.int .i64 k) ∧ (0 ≤ k ↔ ds.any (nmEq u) = true) ∧ Below w.heap.size w w' := by
  have hn := h.nmax
  have hlen := Lib.hid h.len
  have H := Lib.hid h
  have C2 := Lib.hid c0
  obtain ⟨bb, hbb⟩ : ∃ bb, ds.any (nmEq u) = bb := ⟨_, rfl⟩
  have HBB := Lib.hid hbb
  rw [hbb]
  clear h c0 hbb
  go_enter Try.func76, Try.ntmps76
  go_wp2_with fail
  go_loopw [8] (fun i wr => ∃ k : Nat, k ≤ n ∧ i = .int .i64 k ∧ Below w.heap.size w wr ∧ (ds.take k).any (nmEq u) = false) (fun i _ => n - (intOf i).toNat)
  case atStart => exact ⟨0, Nat.zero_le _, rfl, Below.refl _ _, rfl⟩
  case round =>
    obtain ⟨k, hk, rfl, hb, hF⟩ := hrel
    have HF := Lib.hid hF
    clear hF
    have hsz := hb.size
    by_cases hlt : k < n
    · obtain ⟨b, off, rfl, hbw, hc⟩ := H.out.baseIn hb (by omega)
      obtain ⟨d, hr⟩ := H.out.get (k := k) (by omega)
      have e0 : wr.cell? ⟨b, off + k * 2, none⟩ = some (.string d.name) := Sl.at_ hc hr 0 rfl
      have e1 : wr.cell? ⟨b, off + k * 2 + 1, none⟩ = some (.slice d.A d.n d.c) := Sl.at_ hc hr 1 rfl
      have HR := Lib.hid hr
      have hg2 : g < wr.heap.size := by omega
      have hcu := Lib.hid ((hb.cell (p := ⟨g, 0, none⟩) hg).trans C2.out)
      clear hr hc
      go_wp2_with fail
      refine (bfn_any g u d _ hg2 hcu.out).mono ?_
      rintro r w1 ⟨rfl, hb1⟩
      have hbb := hb.trans (hb1.mono hsz)
      have hst : (ds.take (k + 1)).any (nmEq u) = (nmEq u d) := by
        rw [List.take_add_one, List.any_append, HF.out, HR.out]
        simp
      have HST := Lib.hid hst
      clear hst
      cases hp : nmEq u d
      · rw [hp] at HST
        go_wp2_with fail
        go_roundw
        case rel => exact ⟨k + 1, by omega, by go_num, hbb, HST.out⟩
        case measure => simp [intOf]; omega
      · rw [hp] at HST
        have hany : ds.any (nmEq u) = true := by
          have h1 := HST.out
          rw [List.any_eq_true] at h1 ⊢
          obtain ⟨y, hy, hy2⟩ := h1
          exact ⟨y, List.mem_of_mem_take hy, hy2⟩
        obtain rfl : bb = true := HBB.out.symm.trans hany
        clear hany
        go_wp2_with fail
        go_ret
        first | exact ⟨_, rfl, ⟨fun _ => rfl, fun _ => by omega⟩, hbb⟩ | exact ⟨_, rfl, by omega, hbb⟩
    · obtain rfl : k = n := by omega
      have hkn : ¬ ((k : Int) < (k : Int)) := by omega
      have hany : ds.any (nmEq u) = false := by
        have := HF.out
        rw [List.take_of_length_le (by have := hlen.out; omega)] at this
        exact this
      obtain rfl : bb = false := HBB.out.symm.trans hany
      clear hany
      go_wp2_with fail
      go_ret
      first | exact ⟨_, rfl, ⟨fun h => absurd h (by decide), fun h => by cases h⟩, hb⟩ | exact ⟨_, rfl, by omega, hb⟩
theorem bcontains_any (g : Nat) (u : ByteArray) (A : Option Addr) (n c : Nat) (ds : List Nm) (w : World) (h : Sl w A n c ds) (hg : g < w.heap.size) (c0 : w.cell? ⟨g, 0, none⟩ = some (.string u)) :
    Calls Try.prog 54 #[.slice A n c, .func (.func 55) #[] #[.pointer (some ⟨g, 0, none⟩)]] w fun r w' => r = .returned (.bool (ds.any (nmEq u))) ∧ Below w.heap.size w w' := by
  go_enter Try.func54, Try.ntmps54
  go_wp2_with fail
  refine (bindex_any g u A n c ds _ h hg c0).mono ?_
  rintro r w1 ⟨k, rfl, hk, hb1⟩
  have HK := Lib.hid hk
  clear hk
  by_cases h0 : 0 ≤ k
  · go_wp2_with fail
    go_ret
    exact ⟨ret_bool (by rw [HK.out.1 h0]), hb1⟩
  · have HN := Lib.hid (show ds.any (nmEq u) = false by
      cases hq : ds.any (nmEq u)
      · rfl
      · exact absurd (HK.out.2 hq) h0)
    go_wp2_with fail
    go_ret
    exact ⟨ret_bool (by rw [HN.out]; exact decide_eq_false (by omega)), hb1⟩
set_option maxHeartbeats 2000000 in
theorem zfn_any (g : Nat) (u : ByteArray) (x : Nm) (w : World) (hg : g < w.heap.size) (c0 : w.cell? ⟨g, 0, none⟩ = some (.string u)) :
    Calls Try.prog 74 #[.agg #[.string x.name, .slice x.A x.n x.c], .pointer (some ⟨g, 0, none⟩)] w fun r w' => r = .returned (.bool (nmEq u x)) ∧ Below w.heap.size w w' := by
  cases h1 : (x.name.toList == u.toList)
  all_goals
    go_enter Try.func74, Try.ntmps74
    go_upto_region 1 with (fail)
    (obtain ⟨W, hWW, hbW, hzW, f1W, qfa⟩ := box1 w #[.string x.name, .slice x.A x.n x.c] 56; rw [← hWW]; have qa0 : W.cell? ⟨w.heap.size, 0, none⟩ = some (.string x.name) := f1W 0 _ rfl; have qa1 : W.cell? ⟨w.heap.size, 1, none⟩ = some (.slice x.A x.n x.c) := f1W 1 _ rfl; clear hWW f1W)
    (have hzhbW := hbW.size; replace c0 := (hbW.cell (p := ⟨_, _, none⟩) (by (try dsimp only) <;> omega)).trans c0)
    go_wp2_with fail
    go_ret
    exact ⟨ret_bool (by rw [nmEq, h1]), hbW⟩
set_option maxHeartbeats 2000000 in
theorem zindex_any (g : Nat) (u : ByteArray) (A : Option Addr) (n c : Nat) (ds : List Nm) (w : World) (h : Sl w A n c ds) (hg : g < w.heap.size) (c0 : w.cell? ⟨g, 0, none⟩ = some (.string u)) :
    Calls Try.prog 81 #[.slice A n c, .func (.func 74) #[] #[.pointer (some ⟨g, 0, none⟩)]] w fun r w' => ∃ k : Int, r = .returned (.int .i64 k) ∧ (0 ≤ k ↔ ds.any (nmEq u) = true) ∧ Below w.heap.size w w' := by
  have hn := h.nmax
  have hlen := Lib.hid h.len
  have H := Lib.hid h
  have C2 := Lib.hid c0
  obtain ⟨bb, hbb⟩ : ∃ bb, ds.any (nmEq u) = bb := ⟨_, rfl⟩
  have HBB := Lib.hid hbb
  rw [hbb]
  clear h c0 hbb
  go_enter Try.func81, Try.ntmps81
  go_wp2_with fail
  go_loopw [8] (fun i wr => ∃ k : Nat, k ≤ n ∧ i = .int .i64 k ∧ Below w.heap.size w wr ∧ (ds.take k).any (nmEq u) = false) (fun i _ => n - (intOf i).toNat)
  case atStart => exact ⟨0, Nat.zero_le _, rfl, Below.refl _ _, rfl⟩
  case round =>
    obtain ⟨k, hk, rfl, hb, hF⟩ := hrel
    have HF := Lib.hid hF
    clear hF
    have hsz := hb.size
    by_cases hlt : k < n
    · obtain ⟨b, off, rfl, hbw, hc⟩ := H.out.baseIn hb (by omega)
      obtain ⟨d, hr⟩ := H.out.get (k := k) (by omega)
      have e0 : wr.cell? ⟨b, off + k * 2, none⟩ = some (.string d.name) := Sl.at_ hc hr 0 rfl
      have e1 : wr.cell? ⟨b, off + k * 2 + 1, none⟩ = some (.slice d.A d.n d.c) := Sl.at_ hc hr 1 rfl
      have HR := Lib.hid hr
      have hg2 : g < wr.heap.size := by omega
      have hcu := Lib.hid ((hb.cell (p := ⟨g, 0, none⟩) hg).trans C2.out)
      clear hr hc
      go_wp2_with fail
      refine (zfn_any g u d _ hg2 hcu.out).mono ?_
      rintro r w1 ⟨rfl, hb1⟩
      have hbb := hb.trans (hb1.mono hsz)
      have hst : (ds.take (k + 1)).any (nmEq u) = (nmEq u d) := by
        rw [List.take_add_one, List.any_append, HF.out, HR.out]
        simp
      have HST := Lib.hid hst
      clear hst
      cases hp : nmEq u d
      · rw [hp] at HST
        go_wp2_with fail
        go_roundw
        case rel => exact ⟨k + 1, by omega, by go_num, hbb, HST.out⟩
        case measure => simp [intOf]; omega
      · rw [hp] at HST
        have hany : ds.any (nmEq u) = true := by
          have h1 := HST.out
          rw [List.any_eq_true] at h1 ⊢
          obtain ⟨y, hy, hy2⟩ := h1
          exact ⟨y, List.mem_of_mem_take hy, hy2⟩
        obtain rfl : bb = true := HBB.out.symm.trans hany
        clear hany
        go_wp2_with fail
        go_ret
        first | exact ⟨_, rfl, ⟨fun _ => rfl, fun _ => by omega⟩, hbb⟩ | exact ⟨_, rfl, by omega, hbb⟩
    · obtain rfl : k = n := by omega
      have hkn : ¬ ((k : Int) < (k : Int)) := by omega
      have hany : ds.any (nmEq u) = false := by
        have := HF.out
        rw [List.take_of_length_le (by have := hlen.out; omega)] at this
        exact this
      obtain rfl : bb = false := HBB.out.symm.trans hany
      clear hany
      go_wp2_with fail
      go_ret
      first | exact ⟨_, rfl, ⟨fun h => absurd h (by decide), fun h => by cases h⟩, hb⟩ | exact ⟨_, rfl, by omega, hb⟩
theorem zcontains_any (g : Nat) (u : ByteArray) (A : Option Addr) (n c : Nat) (ds : List Nm) (w : World) (h : Sl w A n c ds) (hg : g < w.heap.size) (c0 : w.cell? ⟨g, 0, none⟩ = some (.string u)) :
    Calls Try.prog 73 #[.slice A n c, .func (.func 74) #[] #[.pointer (some ⟨g, 0, none⟩)]] w fun r w' => r = .returned (.bool (ds.any (nmEq u))) ∧ Below w.heap.size w w' := by
  go_enter Try.func73, Try.ntmps73
  go_wp2_with fail
  refine (zindex_any g u A n c ds _ h hg c0).mono ?_
  rintro r w1 ⟨k, rfl, hk, hb1⟩
  have HK := Lib.hid hk
  clear hk
  by_cases h0 : 0 ≤ k
  · go_wp2_with fail
    go_ret
    exact ⟨ret_bool (by rw [HK.out.1 h0]), hb1⟩
  · have HN := Lib.hid (show ds.any (nmEq u) = false by
      cases hq : ds.any (nmEq u)
      · rfl
      · exact absurd (HK.out.2 hq) h0)
    go_wp2_with fail
    go_ret
    exact ⟨ret_bool (by rw [HN.out]; exact decide_eq_false (by omega)), hb1⟩
set_option maxHeartbeats 8000000 in
theorem slots_any (A : Option Addr) (n c : Nat) (l : List Slt) (w : World) (h : Sl w A n c l) :
    Calls Try.prog 56 #[.slice A n c] w fun e w' => e = .returned (.int .i64 (slotsE l)) ∧ Below w.heap.size w w' := by
  have hn := h.nmax
  have hlen := h.len
  have H := Lib.hid h
  clear h
  by_cases h0 : n = 0
  · have hz : ((n : Int) == 0) = true := by rw [beq_iff_eq]; omega
    have HE := Lib.hid (slotsE_zero (l := l) (by omega))
    clear h0
    go_enter Try.func56, Try.ntmps56
    go_wp2_with fail
    go_ret
    exact ⟨ret_int HE.out.symm, Below.refl _ _⟩
  have hz : ((n : Int) == 0) = false := by rw [beq_eq_false_iff_ne]; omega
  by_cases h64 : (64 : Int) < (n : Int)
  · have HE := Lib.hid (slotsE_long (l := l) (by omega))
    go_enter Try.func56, Try.ntmps56
    go_wp2_with fail
    go_ret
    exact ⟨ret_int HE.out.symm, Below.refl _ _⟩
  have hz0 : l.length ≠ 0 := by omega
  have h64n : ¬ 64 < l.length := by omega
  have HZ := Lib.hid hz0
  go_enter Try.func56, Try.ntmps56
  go_wp2_with fail
  go_loopw [13] (fun i wr => ∃ k : Nat, k ≤ n ∧ i = .int .i64 k ∧ Below w.heap.size w wr ∧ (l.take k).all slotB = true) (fun i _ => n - (intOf i).toNat)
  case atStart => exact ⟨0, Nat.zero_le _, rfl, Below.refl _ _, rfl⟩
  case round =>
    obtain ⟨k, hk, rfl, hb, ha⟩ := hrel
    have HA := Lib.hid ha
    clear ha
    by_cases hlt : k < n
    · obtain ⟨b, off, rfl, hbl, hcells⟩ := H.out.baseIn hb (by omega)
      obtain ⟨s, hx⟩ := H.out.get hlt
      have e0 : wr.cell? ⟨b, off + k * 3, none⟩ = some (.int .i64 s.days) := Sl.at_ hcells hx 0 rfl
      have e1 : wr.cell? ⟨b, off + k * 3 + 1, none⟩ = some (.int .i64 s.from_) := Sl.at_ hcells hx 1 rfl
      have e2 : wr.cell? ⟨b, off + k * 3 + 2, none⟩ = some (.int .i64 s.to_) := Sl.at_ hcells hx 2 rfl
      have HX := Lib.hid hx
      clear hcells hx
      go_upto_region 8 with (fail)
      (obtain ⟨V, hWV, hbV, hzV, f1V, mfa⟩ := box1 wr #[.int .i64 s.days, .int .i64 s.from_, .int .i64 s.to_] 84; rw [← hWV]; have ma0 : V.cell? ⟨wr.heap.size, 0, none⟩ = some (.int .i64 s.days) := f1V 0 _ rfl; have ma1 : V.cell? ⟨wr.heap.size, 1, none⟩ = some (.int .i64 s.from_) := f1V 1 _ rfl; have ma2 : V.cell? ⟨wr.heap.size, 2, none⟩ = some (.int .i64 s.to_) := f1V 2 _ rfl; clear hWV f1V)
      have hbT := hb.trans (hbV.mono hb.size)
      clear e0 e1 e2 hbV
      by_cases d1 : s.days < 1
      · have HN := Lib.hid (slotsE_no HX.out (slot_no (by omega)) hz0 h64n)
        go_wp2_with fail
        go_ret
        exact ⟨ret_int HN.out.symm, hbT⟩
      by_cases d2 : 255 < s.days
      · have HN := Lib.hid (slotsE_no HX.out (slot_no (by omega)) hz0 h64n)
        go_wp2_with fail
        go_ret
        exact ⟨ret_int HN.out.symm, hbT⟩
      by_cases d3 : s.from_ < 0
      · have HN := Lib.hid (slotsE_no HX.out (slot_no (by omega)) hz0 h64n)
        go_wp2_with fail
        go_ret
        exact ⟨ret_int HN.out.symm, hbT⟩
      by_cases d4 : s.to_ ≤ s.from_
      · have HN := Lib.hid (slotsE_no HX.out (slot_no (by omega)) hz0 h64n)
        go_wp2_with fail
        go_ret
        exact ⟨ret_int HN.out.symm, hbT⟩
      by_cases d5 : 1440 < s.to_
      · have HN := Lib.hid (slotsE_no HX.out (slot_no (by omega)) hz0 h64n)
        go_wp2_with fail
        go_ret
        exact ⟨ret_int HN.out.symm, hbT⟩
      have HN := Lib.hid (slot_yes (by omega) (by omega) (by omega) (by omega) (by omega) : slotB s = true)
      go_wp2_with fail
      go_roundw
      case rel => exact ⟨k + 1, by omega, by go_num, hbT, sl_step HA.out HX.out HN.out⟩
      case measure => simp [intOf]; omega
    · obtain rfl : n = k := by omega
      have HV := Lib.hid (slotsE_ok (by rw [← hlen] at HA; rw [List.take_of_length_le (Nat.le_refl _)] at HA; exact HA.out) HZ.out h64n)
      have hkn : ¬ ((n : Int) < (n : Int)) := by omega
      go_wp2_with fail
      go_ret
      exact ⟨ret_int HV.out.symm, hb⟩
set_option maxHeartbeats 8000000 in
theorem refslots_any (A : Option Addr) (n c : Nat) (l : List Slt) (w : World) (h : Sl w A n c l) :
    Calls Try.prog 66 #[.slice A n c, .bool false] w fun e w' => e = .returned (.int .i64 (slotsE l)) ∧ Below w.heap.size w w' := by
  have hn := h.nmax
  have hlen := h.len
  have H := Lib.hid h
  clear h
  by_cases h0 : n = 0
  · have hz : ((n : Int) == 0) = true := by rw [beq_iff_eq]; omega
    have HE := Lib.hid (slotsE_zero (l := l) (by omega))
    clear h0
    go_enter Try.func66, Try.ntmps66
    go_wp2_with fail
    go_ret
    exact ⟨ret_int HE.out.symm, Below.refl _ _⟩
  have hz : ((n : Int) == 0) = false := by rw [beq_eq_false_iff_ne]; omega
  by_cases h64 : (64 : Int) < (n : Int)
  · have HE := Lib.hid (slotsE_long (l := l) (by omega))
    go_enter Try.func66, Try.ntmps66
    go_wp2_with fail
    go_ret
    exact ⟨ret_int HE.out.symm, Below.refl _ _⟩
  have hz0 : l.length ≠ 0 := by omega
  have h64n : ¬ 64 < l.length := by omega
  have HZ := Lib.hid hz0
  go_enter Try.func66, Try.ntmps66
  go_wp2_with fail
  go_loopw [5] (fun i wr => ∃ k : Nat, k ≤ n ∧ i = .int .i64 k ∧ Below w.heap.size w wr ∧ (l.take k).all slotB = true) (fun i _ => n - (intOf i).toNat)
  case atStart => exact ⟨0, Nat.zero_le _, rfl, Below.refl _ _, rfl⟩
  case round =>
    obtain ⟨k, hk, rfl, hb, ha⟩ := hrel
    have HA := Lib.hid ha
    clear ha
    by_cases hlt : k < n
    · obtain ⟨b, off, rfl, hbl, hcells⟩ := H.out.baseIn hb (by omega)
      obtain ⟨s, hx⟩ := H.out.get hlt
      have e0 : wr.cell? ⟨b, off + k * 3, none⟩ = some (.int .i64 s.days) := Sl.at_ hcells hx 0 rfl
      have e1 : wr.cell? ⟨b, off + k * 3 + 1, none⟩ = some (.int .i64 s.from_) := Sl.at_ hcells hx 1 rfl
      have e2 : wr.cell? ⟨b, off + k * 3 + 2, none⟩ = some (.int .i64 s.to_) := Sl.at_ hcells hx 2 rfl
      have HX := Lib.hid hx
      clear hcells hx
      go_upto_region 13 with (fail)
      (obtain ⟨V, hWV, hbV, hzV, f1V, mfa⟩ := box1 wr #[.int .i64 s.days, .int .i64 s.from_, .int .i64 s.to_] 84; rw [← hWV]; have ma0 : V.cell? ⟨wr.heap.size, 0, none⟩ = some (.int .i64 s.days) := f1V 0 _ rfl; have ma1 : V.cell? ⟨wr.heap.size, 1, none⟩ = some (.int .i64 s.from_) := f1V 1 _ rfl; have ma2 : V.cell? ⟨wr.heap.size, 2, none⟩ = some (.int .i64 s.to_) := f1V 2 _ rfl; clear hWV f1V)
      have hbT := hb.trans (hbV.mono hb.size)
      clear e0 e1 e2 hbV
      by_cases d1 : s.days < 1
      · have HN := Lib.hid (slotsE_no HX.out (slot_no (by omega)) hz0 h64n)
        go_wp2_with fail
        go_ret
        exact ⟨ret_int HN.out.symm, hbT⟩
      by_cases d2 : 255 < s.days
      · have HN := Lib.hid (slotsE_no HX.out (slot_no (by omega)) hz0 h64n)
        go_wp2_with fail
        go_ret
        exact ⟨ret_int HN.out.symm, hbT⟩
      by_cases d3 : s.from_ < 0
      · have HN := Lib.hid (slotsE_no HX.out (slot_no (by omega)) hz0 h64n)
        go_wp2_with fail
        go_ret
        exact ⟨ret_int HN.out.symm, hbT⟩
      by_cases d4 : s.to_ ≤ s.from_
      · have HN := Lib.hid (slotsE_no HX.out (slot_no (by omega)) hz0 h64n)
        go_wp2_with fail
        go_ret
        exact ⟨ret_int HN.out.symm, hbT⟩
      by_cases d5 : 1440 < s.to_
      · have HN := Lib.hid (slotsE_no HX.out (slot_no (by omega)) hz0 h64n)
        go_wp2_with fail
        go_ret
        exact ⟨ret_int HN.out.symm, hbT⟩
      have HN := Lib.hid (slot_yes (by omega) (by omega) (by omega) (by omega) (by omega) : slotB s = true)
      go_wp2_with fail
      go_roundw
      case rel => exact ⟨k + 1, by omega, by go_num, hbT, sl_step HA.out HX.out HN.out⟩
      case measure => simp [intOf]; omega
    · obtain rfl : n = k := by omega
      have HV := Lib.hid (slotsE_ok (by rw [← hlen] at HA; rw [List.take_of_length_le (Nat.le_refl _)] at HA; exact HA.out) HZ.out h64n)
      have hkn : ¬ ((n : Int) < (n : Int)) := by omega
      go_wp2_with fail
      go_ret
      exact ⟨ret_int HV.out.symm, hb⟩
theorem refslots_last (A : Option Addr) (n c : Nat) (w : World) :
    Calls Try.prog 66 #[.slice A n c, .bool true] w fun e w' => e = .returned (.int .i64 (if 0 < n then 8 else 0)) ∧ Below w.heap.size w w' := by
  by_cases h0 : (0 : Int) < (n : Int)
  · have HN : Hid (0 < n) := Lib.hid (by omega)
    go_enter Try.func66, Try.ntmps66
    go_wp2_with fail
    go_ret
    exact ⟨ret_int (by first | rfl | rw [if_pos HN.out]), Below.refl _ _⟩
  · have HN : Hid (¬ 0 < n) := Lib.hid (by omega)
    go_enter Try.func66, Try.ntmps66
    go_wp2_with fail
    go_ret
    exact ⟨ret_int (by first | rfl | rw [if_neg HN.out]), Below.refl _ _⟩
end Cv
end Go.Proofs.Ytdnnnajohdohaaa
