/-
  Zones: numbers, the reference's Check. No condition.
-/
import Derived.Test.YtdnnnajohdohaaaT8R
import Derived.BigQuiet
import Derived.StillTailTactics
import Derived.Lib.Overlaps
import Derived.Deep.DeepCutAuto
import Derived.LoopN
import Derived.Deep.RegionWith
import Derived.Laws.RangeAny
set_option maxRecDepth 100000
set_option linter.unusedVariables false
set_option linter.unusedSimpArgs false
namespace Go.Proofs.Ytdnnnajohdohaaa
open Go.RowKit

namespace Dg
def dig (c : UInt8) : Bool := decide (48 ≤ c.toNat) && decide (c.toNat ≤ 57)
def valid (l : List UInt8) : Bool := l.all dig && decide (1 ≤ l.length) && decide (l.length ≤ 15)
theorem digit_any (c : UInt8) (w : World) :
    Calls Try.prog 82 #[.int .u8 (c.toNat : Int)] w fun e w' => e = .returned (.bool (dig c)) ∧ w = w' := by
  go_enter Try.func82, Try.ntmps82
  go_wp2
  all_goals (go_ret; refine ⟨ret_bool ?_, rfl⟩; unfold dig; rw [Bool.eq_iff_iff]; simp; try omega)

theorem take_snoc (s : ByteArray) (k : Nat) (h : k < s.size) : s.data.toList.take (k + 1) = s.data.toList.take k ++ [s[k]] := by
  rw [List.take_succ_eq_append_getElem (by simpa using h)]; rfl
theorem size_list (s : ByteArray) : s.data.toList.length = s.size := by rw [Array.length_toList]; rfl
theorem allDig_succ {s : ByteArray} {k : Nat} (h : k < s.size) (ha : (s.data.toList.take k).all dig = true) (hd : dig s[k] = true) : (s.data.toList.take (k + 1)).all dig = true := by
  rw [take_snoc s k h, List.all_append, ha]; simp [hd]
theorem valid_no {s : ByteArray} {k : Nat} (h : k < s.size) (hd : dig s[k] = false) : valid s.data.toList = false := by
  have h1 : s.data.toList.all dig = false := by
    rw [List.all_eq_false]
    exact ⟨s[k], by rw [show s[k] = s.data.toList[k]'(by rw [size_list]; exact h) from rfl]; exact List.getElem_mem _, by rw [hd]; decide⟩
  simp [valid, h1]
theorem valid_end {s : ByteArray} (ha : (s.data.toList.take s.size).all dig = true) : valid s.data.toList = (decide (1 ≤ s.size) && decide (s.size ≤ 15)) := by
  rw [List.take_of_length_le (by rw [size_list]; exact Nat.le_refl _)] at ha
  unfold valid
  rw [ha, size_list]; rfl

set_option maxHeartbeats 400000 in
theorem valid_any (s : ByteArray) (w : World) (hs : s.size ≤ maxLen) :
    Calls Try.prog 75 #[.string s] w fun e w' => e = .returned (.bool (valid s.data.toList)) ∧ w = w' := by
  unfold maxLen at hs
  go_enter Try.func75, Try.ntmps75
  go_wp2_with fail
  go_loop [6] (fun i => ∃ k : Nat, k ≤ s.size ∧ i = .int .i64 k ∧ (s.data.toList.take k).all dig = true) (fun i => s.size - (intOf i).toNat)
  case atStart => exact ⟨0, Nat.zero_le _, rfl, by simp⟩
  case round =>
    obtain ⟨k, hk, rfl, ha⟩ := hrel
    have HA := Lib.hid ha
    clear ha
    by_cases hlt : k < s.size
    · cases hd : dig s[k]
      · have HN := Lib.hid (valid_no hlt hd)
        go_wp2_with (go_at_call 82; refine (digit_any _ _).mono ?_; rintro e w' ⟨rfl, rfl⟩)
        go_ret
        exact ⟨ret_bool HN.out.symm, rfl⟩
      · have HN := Lib.hid (allDig_succ hlt HA.out hd)
        go_wp2_with (go_at_call 82; refine (digit_any _ _).mono ?_; rintro e w' ⟨rfl, rfl⟩)
        go_round
        case rel => exact ⟨k + 1, by omega, by go_num, HN.out⟩
        case measure => simp [intOf]; omega
    · obtain rfl : s.size = k := by omega
      have HV := Lib.hid (valid_end HA.out)
      go_wp2_with fail
      all_goals (go_ret; refine ⟨ret_bool ?_, rfl⟩; rw [HV.out]; (rw [Bool.eq_iff_iff]; (try simp only [Bool.and_eq_true, Bool.or_eq_true, Bool.not_eq_true', decide_eq_true_eq, decide_eq_false_iff_not, Bool.false_eq_true, Bool.true_eq_false, false_iff, true_iff, iff_false, iff_true]); omega))

set_option maxHeartbeats 400000 in
theorem refvalid_any (s : ByteArray) (w : World) (hs : s.size ≤ maxLen) :
    Calls Try.prog 78 #[.string s] w fun e w' => e = .returned (.bool (valid s.data.toList)) ∧ w = w' := by
  unfold maxLen at hs
  go_enter Try.func78, Try.ntmps78
  go_wp2_with fail
  go_loop [3] (fun i => ∃ k : Nat, k ≤ s.size ∧ i = .int .i64 k ∧ (s.data.toList.take k).all dig = true) (fun i => s.size - (intOf i).toNat)
  case atStart => exact ⟨0, Nat.zero_le _, rfl, by simp⟩
  case round =>
    obtain ⟨k, hk, rfl, ha⟩ := hrel
    have HA := Lib.hid ha
    clear ha
    by_cases hlt : k < s.size
    · go_wp2_with fail
      all_goals first
        | (go_ret
           refine ⟨ret_bool (valid_no hlt ?_).symm, rfl⟩
           unfold dig; rw [Bool.eq_iff_iff]; simp; omega)
        | (go_round
           case rel => exact ⟨k + 1, by omega, by go_num, allDig_succ hlt HA.out (by unfold dig; rw [Bool.eq_iff_iff]; simp; omega)⟩
           case measure => simp [intOf]; omega)
    · obtain rfl : s.size = k := by omega
      have HV := Lib.hid (valid_end HA.out)
      go_wp2_with fail
      all_goals (go_ret; refine ⟨ret_bool ?_, rfl⟩; rw [HV.out]; (rw [Bool.eq_iff_iff]; (try simp only [Bool.and_eq_true, Bool.or_eq_true, Bool.not_eq_true', decide_eq_true_eq, decide_eq_false_iff_not, Bool.false_eq_true, Bool.true_eq_false, false_iff, true_iff, iff_false, iff_true]); omega))

end Dg
namespace Cv
open Xp Ck
def pEq (p q : ByteArray) : Bool := q.toList == p.toList
/-- does the prefix p occur in the zones before i, or among the first k prefixes of the zone i? -/
def seenB (PZ : Nm → List ByteArray) (zs : List Nm) (i : Nat) (z : Nm) (k : Nat) (p : ByteArray) : Bool := (zs.take i).any (fun y => (PZ y).any (pEq p)) || ((PZ z).take k).any (pEq p)
def prefE (PZ : Nm → List ByteArray) (zs : List Nm) (i : Nat) (z : Nm) (k : Nat) : Int :=
  match (PZ z)[k]? with
  | none => 0
  | some p => if Dg.valid p.data.toList = false then 12 else if seenB PZ zs i z k p = true then 10 else 0
def zoneE (PZ : Nm → List ByteArray) (zs : List Nm) (i : Nat) : Int :=
  match zs[i]? with
  | none => 0
  | some z => if nameB z.name = false then 8 else if (zs.take i).any (nmEq z.name) = true then 10 else if z.n = 0 then 8 else if 64 < z.n then 5 else firstE z.n (prefE PZ zs i z)
def zonesE (PZ : Nm → List ByteArray) (zs : List Nm) : Int := if 64 < zs.length then 5 else firstE zs.length (zoneE PZ zs)
theorem prefE_bad {PZ : Nm → List ByteArray} {zs : List Nm} {i k : Nat} {z : Nm} {p : ByteArray} (h : (PZ z)[k]? = some p) (hv : Dg.valid p.data.toList = false) : prefE PZ zs i z k = 12 := by simp only [prefE, h, hv, if_true]
theorem prefE_twice {PZ : Nm → List ByteArray} {zs : List Nm} {i k : Nat} {z : Nm} {p : ByteArray} (h : (PZ z)[k]? = some p) (hv : Dg.valid p.data.toList = true) (hs : seenB PZ zs i z k p = true) : prefE PZ zs i z k = 10 := by
  simp only [prefE, h]
  rw [if_neg (by rw [hv]; simp), if_pos hs]
theorem prefE_ok {PZ : Nm → List ByteArray} {zs : List Nm} {i k : Nat} {z : Nm} {p : ByteArray} (h : (PZ z)[k]? = some p) (hv : Dg.valid p.data.toList = true) (hs : seenB PZ zs i z k p = false) : prefE PZ zs i z k = 0 := by
  simp only [prefE, h]
  rw [if_neg (by rw [hv]; simp), if_neg (by rw [hs]; simp)]
section
variable {PZ : Nm → List ByteArray} {zs : List Nm} {i : Nat} {z : Nm}
theorem zoneE_name (h : zs[i]? = some z) (hn : nameB z.name = false) : zoneE PZ zs i = 8 := by simp only [zoneE, h, hn, if_true]
theorem zoneE_twice (h : zs[i]? = some z) (hn : nameB z.name = true) (ht : (zs.take i).any (nmEq z.name) = true) : zoneE PZ zs i = 10 := by
  simp only [zoneE, h]; rw [if_neg (by rw [hn]; simp), if_pos ht]
theorem zoneE_none (h : zs[i]? = some z) (hn : nameB z.name = true) (ht : (zs.take i).any (nmEq z.name) = false) (h0 : z.n = 0) : zoneE PZ zs i = 8 := by
  simp only [zoneE, h]; rw [if_neg (by rw [hn]; simp), if_neg (by rw [ht]; simp), if_pos h0]
theorem zoneE_long (h : zs[i]? = some z) (hn : nameB z.name = true) (ht : (zs.take i).any (nmEq z.name) = false) (h0 : 64 < z.n) : zoneE PZ zs i = 5 := by
  simp only [zoneE, h]; rw [if_neg (by rw [hn]; simp), if_neg (by rw [ht]; simp), if_neg (by omega), if_pos h0]
theorem zoneE_pref (h : zs[i]? = some z) (hn : nameB z.name = true) (ht : (zs.take i).any (nmEq z.name) = false) (h0 : z.n ≠ 0) (h64 : ¬ 64 < z.n) : zoneE PZ zs i = firstE z.n (prefE PZ zs i z) := by
  simp only [zoneE, h]; rw [if_neg (by rw [hn]; simp), if_neg (by rw [ht]; simp), if_neg h0, if_neg h64]
end
theorem any_step {α} {l : List α} {f : α → Bool} {k : Nat} {x : α} (h : (l.take k).any f = false) (hx : l[k]? = some x) (hf : f x = false) : (l.take (k + 1)).any f = false := by
  rw [List.take_add_one, hx, List.any_append, h]; simp [hf]
theorem any_full {α} {l : List α} {f : α → Bool} {n : Nat} (hn : l.length = n) (h : (l.take n).any f = false) : l.any f = false := by
  rwa [List.take_of_length_le (by omega)] at h
theorem any_hit {α} {l : List α} {f : α → Bool} {k q : Nat} {x : α} (hq : q < k) (hx : l[q]? = some x) (hf : f x = true) : (l.take k).any f = true :=
  List.any_eq_true.2 ⟨x, List.mem_iff_getElem?.2 ⟨q, by rw [List.getElem?_take, if_pos hq]; exact hx⟩, hf⟩
set_option maxHeartbeats 8000000 in
theorem earlier_any (PZ : Nm → List ByteArray) (A : Option Addr) (n c i k : Nat) (zs : List Nm) (z : Nm) (p : ByteArray) (w : World) (h : Sl w A n c zs) (hP : ∀ x ∈ zs, Sl w x.A x.n x.c (PZ x)) (hn64 : n ≤ 64) (hi : i < n) (hz : zs[i]? = some z) (hk : k < z.n) (hp : (PZ z)[k]? = some p) :
    Calls Try.prog 79 #[.slice A n c, .int .i64 (i : Int), .int .i64 (k : Int)] w fun e w' => e = .returned (.bool (seenB PZ zs i z k p)) ∧ Below w.heap.size w w' := by
  have hlen := h.len
  have H := Lib.hid h
  have HP := Lib.hid hP
  have hsz := hP z (List.mem_of_getElem? hz)
  have hzn := hsz.nmax
  obtain ⟨b0, off0, hA0, hbl0, hcells0⟩ := h.base (by omega)
  subst hA0
  have z1 : w.cell? ⟨b0, off0 + i * 2 + 1, none⟩ = some (.slice z.A z.n z.c) := Sl.at_ hcells0 hz 1 rfl
  obtain ⟨AZ, hAZ⟩ : ∃ AZ, z.A = AZ := ⟨_, rfl⟩
  rw [hAZ] at z1 hsz
  obtain ⟨bz, offz, rfl, hblz, hcellsz⟩ := Sl.one rfl hsz (by omega)
  have z2 : w.cell? ⟨bz, offz + k, none⟩ = some (.string p) := hcellsz k p _ hp rfl
  have HZ := Lib.hid hz
  have HPP := Lib.hid hp
  have HSZ := Lib.hid hsz
  have HAZ := Lib.hid hAZ
  have hwi : IntKind.i64.wrap ((i : Int) + 1) = (i : Int) + 1 := IntWalk.i64_in _ (by omega)
  clear hcells0 hcellsz hP h hz hp hsz hAZ
  go_enter Try.func79, Try.ntmps79
  go_wp2_with fail
  go_loopw [7] (fun s wr => ∃ a : Nat, a ≤ i + 1 ∧ s = .int .i64 a ∧ Below w.heap.size w wr ∧ (a ≤ i → (zs.take a).any (fun y => (PZ y).any (pEq p)) = false) ∧ (a = i + 1 → seenB PZ zs i z k p = false)) (fun s _ => i + 1 - (intOf s).toNat)
  case atStart => exact ⟨0, Nat.zero_le _, rfl, Below.refl _ _, fun _ => rfl, fun h => absurd h (by omega)⟩
  case round =>
    obtain ⟨a, ha, rfl, hb, h1, h2⟩ := hrel
    have H1 := Lib.hid h1
    have H2 := Lib.hid h2
    clear h1 h2
    by_cases hai : a ≤ i
    · have HA := Lib.hid (H1.out hai)
      obtain ⟨y, hy⟩ := H.out.get (k := a) (by omega)
      have hsy := HP.out y (List.mem_of_getElem? hy)
      have hyn := hsy.nmax
      have HSY := Lib.hid hsy
      have HY := Lib.hid hy
      have hle : (a : Int) ≤ (i : Int) := by omega
      clear hsy hy
      go_wp2_with fail
      by_cases hae : a = i
      · have hyz : y = z := by
          have h3 := HY.out
          rw [hae, HZ.out] at h3
          exact (Option.some.inj h3).symm
        subst hyz
        subst hae
        have qe : ((a : Int) == (a : Int)) = true := by simp
        go_loopw [8] (fun s wi => ∃ q : Nat, q ≤ k ∧ s = .int .i64 q ∧ Below wr.heap.size wr wi ∧ ((PZ y).take q).any (pEq p) = false) (fun s _ => k - (intOf s).toNat)
        case atStart => exact ⟨0, Nat.zero_le _, rfl, Below.refl _ _, rfl⟩
        case round =>
          obtain ⟨q, hq, rfl, hbi, ht⟩ := hrel
          have HT := Lib.hid ht
          clear ht
          have hbT := hb.trans (hbi.mono hb.size)
          have e1 := (hbT.cell (p := ⟨b0, off0 + a * 2 + 1, none⟩) hbl0).trans z1
          have e2 := (hbT.cell (p := ⟨bz, offz + k, none⟩) hblz).trans z2
          have hqn : (q : Int) < (y.n : Int) := by omega
          by_cases hqk : q < k
          · have hqk' : ¬ (k : Int) ≤ (q : Int) := by omega
            obtain ⟨x, hx⟩ := HSY.out.get (k := q) (by omega)
            obtain ⟨b9, off9, hA9, hbl9, hcells9⟩ := Sl.one rfl HSZ.out (by omega)
            cases hA9
            have e3 : wr.cell? ⟨bz, offz + q, none⟩ = some (.string x) := (hbT.cell (p := ⟨bz, offz + q, none⟩) hblz).trans (hcells9 q x _ hx rfl)
            have HX := Lib.hid hx
            clear hcells9 hx
            cases hpq : (x.toList == p.toList)
            · have HN : Hid (pEq p x = false) := Lib.hid hpq
              go_upto_region 8 with (fail)
              ((with_reducible refine wp_region_quiet_lit ?_ ?_ ?_); kernel_rfl; kernel_rfl; (repeat (any_goals (first | go_big_quiet_step (fail) | (refine wpQuiet_step (fun K hK => ?_); go_simp; (first | (refine hK _ ?_; clear hK K) | (split <;> rename_i hg <;> (refine hK _ ?_; clear hK K) <;> (try simp only [Bool.not_eq_true] at hg) <;> (first | simp only [Int.not_lt.2 hg, decide_false] | simp only [Int.not_le.1 hg, decide_true] | simp only [hg, decide_true, decide_false] | skip))))))); all_goals (refine wpQuiet_nil ?_; intro _ hw'; obtain ⟨nq, hw''⟩ := hw'; subst hw''))
              go_wp2_with fail
              go_roundw
              case rel => exact ⟨q + 1, by omega, by go_num, below_drewN hbi _, any_step HT.out HX.out HN.out⟩
              case measure => simp [intOf]; omega
            · have HN : Hid (seenB PZ zs a y k p = true) := Lib.hid (by unfold seenB; rw [any_hit hqk HX.out hpq, Bool.or_true])
              go_upto_region 8 with (fail)
              ((with_reducible refine wp_region_quiet_lit ?_ ?_ ?_); kernel_rfl; kernel_rfl; (repeat (any_goals (first | go_big_quiet_step (fail) | (refine wpQuiet_step (fun K hK => ?_); go_simp; (first | (refine hK _ ?_; clear hK K) | (split <;> rename_i hg <;> (refine hK _ ?_; clear hK K) <;> (try simp only [Bool.not_eq_true] at hg) <;> (first | simp only [Int.not_lt.2 hg, decide_false] | simp only [Int.not_le.1 hg, decide_true] | simp only [hg, decide_true, decide_false] | skip))))))); all_goals (refine wpQuiet_nil ?_; intro _ hw'; obtain ⟨nq, hw''⟩ := hw'; subst hw''))
              go_wp2_with fail
              go_ret
              exact ⟨ret_bool HN.out.symm, below_drewN hbT _⟩
          · obtain rfl : k = q := by omega
            have hqk' : (k : Int) ≤ (k : Int) := Int.le_refl _
            have HN : Hid (seenB PZ zs a y k p = false) := Lib.hid (by unfold seenB; rw [HA.out, HT.out]; rfl)
            go_wp2_with fail
            go_roundw
            case rel => exact ⟨a + 1, by omega, by go_num, hbT, fun h => absurd h (by omega), fun _ => HN.out⟩
            case measure => (simp [intOf] <;> omega)
      · have hai2 : a < i := by omega
        have qe : ((a : Int) == (i : Int)) = false := by rw [beq_eq_false_iff_ne]; omega
        clear hae
        go_loopw [8] (fun s wi => ∃ q : Nat, q ≤ y.n ∧ s = .int .i64 q ∧ Below wr.heap.size wr wi ∧ ((PZ y).take q).any (pEq p) = false) (fun s _ => y.n - (intOf s).toNat)
        case atStart => exact ⟨0, Nat.zero_le _, rfl, Below.refl _ _, rfl⟩
        case round =>
          obtain ⟨q, hq, rfl, hbi, ht⟩ := hrel
          have HT := Lib.hid ht
          clear ht
          have hbT := hb.trans (hbi.mono hb.size)
          have e1 := (hbT.cell (p := ⟨b0, off0 + i * 2 + 1, none⟩) hbl0).trans z1
          have e2 := (hbT.cell (p := ⟨bz, offz + k, none⟩) hblz).trans z2
          obtain ⟨b7, off7, hA7, hbl7, hcells7⟩ := H.out.base (by omega)
          cases hA7
          have e4 : wr.cell? ⟨b0, off0 + a * 2 + 1, none⟩ = some (.slice y.A y.n y.c) := (hbT.cell (p := ⟨b0, off0 + a * 2 + 1, none⟩) hbl0).trans (Sl.at_ hcells7 HY.out 1 rfl)
          clear hcells7
          by_cases hqn : q < y.n
          · obtain ⟨x, hx⟩ := HSY.out.get hqn
            obtain ⟨AY, hAY⟩ : ∃ AY, y.A = AY := ⟨_, rfl⟩
            have hsy2 := HSY.out
            rw [hAY] at e4 hsy2
            obtain ⟨b9, off9, rfl, hbl9, hcells9⟩ := Sl.one rfl hsy2 (by omega)
            have e3 : wr.cell? ⟨b9, off9 + q, none⟩ = some (.string x) := (hbT.cell (p := ⟨b9, off9 + q, none⟩) hbl9).trans (hcells9 q x _ hx rfl)
            have HX := Lib.hid hx
            have HAY := Lib.hid hAY
            clear hcells9 hx hsy2 hAY
            cases hpq : (x.toList == p.toList)
            · have HN : Hid (pEq p x = false) := Lib.hid hpq
              go_upto_region 8 with (fail)
              ((with_reducible refine wp_region_quiet_lit ?_ ?_ ?_); kernel_rfl; kernel_rfl; (repeat (any_goals (first | go_big_quiet_step (fail) | (refine wpQuiet_step (fun K hK => ?_); go_simp; (first | (refine hK _ ?_; clear hK K) | (split <;> rename_i hg <;> (refine hK _ ?_; clear hK K) <;> (try simp only [Bool.not_eq_true] at hg) <;> (first | simp only [Int.not_lt.2 hg, decide_false] | simp only [Int.not_le.1 hg, decide_true] | simp only [hg, decide_true, decide_false] | skip))))))); all_goals (refine wpQuiet_nil ?_; intro _ hw'; obtain ⟨nq, hw''⟩ := hw'; subst hw''))
              go_wp2_with fail
              go_roundw
              case rel => exact ⟨q + 1, by omega, by go_num, below_drewN hbi _, any_step HT.out HX.out HN.out⟩
              case measure => simp [intOf]; omega
            · have HN : Hid (seenB PZ zs i z k p = true) := Lib.hid (by
                have h5 : (PZ y).any (pEq p) = true := List.any_eq_true.2 ⟨x, List.mem_of_getElem? HX.out, hpq⟩
                unfold seenB; rw [any_hit hai2 HY.out h5, Bool.true_or])
              go_upto_region 8 with (fail)
              ((with_reducible refine wp_region_quiet_lit ?_ ?_ ?_); kernel_rfl; kernel_rfl; (repeat (any_goals (first | go_big_quiet_step (fail) | (refine wpQuiet_step (fun K hK => ?_); go_simp; (first | (refine hK _ ?_; clear hK K) | (split <;> rename_i hg <;> (refine hK _ ?_; clear hK K) <;> (try simp only [Bool.not_eq_true] at hg) <;> (first | simp only [Int.not_lt.2 hg, decide_false] | simp only [Int.not_le.1 hg, decide_true] | simp only [hg, decide_true, decide_false] | skip))))))); all_goals (refine wpQuiet_nil ?_; intro _ hw'; obtain ⟨nq, hw''⟩ := hw'; subst hw''))
              go_wp2_with fail
              go_ret
              exact ⟨ret_bool HN.out.symm, below_drewN hbT _⟩
          · obtain rfl : y.n = q := by omega
            have hqn' : ¬ ((y.n : Int) < (y.n : Int)) := by omega
            have hall := any_full HSY.out.len HT.out
            go_wp2_with fail
            go_roundw
            case rel => exact ⟨a + 1, by omega, by go_num, hbT, fun _ => any_step HA.out HY.out hall, fun h => absurd h (by omega)⟩
            case measure => simp [intOf]; omega
    · obtain rfl : a = i + 1 := by omega
      have HN := Lib.hid (H2.out rfl)
      have hle : ¬ (((i + 1 : Nat) : Int)) ≤ (i : Int) := by omega
      go_wp2_with fail
      go_ret
      exact ⟨ret_bool HN.out.symm, hb⟩
set_option maxHeartbeats 8000000 in
theorem refzonechk_any (PZ : Nm → List ByteArray) (A : Option Addr) (n c i : Nat) (zs : List Nm) (w : World) (h : Sl w A n c zs) (hP : ∀ x ∈ zs, Sl w x.A x.n x.c (PZ x)) (hstr : ∀ x ∈ zs, x.name.size ≤ maxLen) (hps : ∀ x ∈ zs, ∀ p ∈ PZ x, p.size ≤ maxLen) (hn64 : n ≤ 64) (hi : i < n) :
    Calls Try.prog 64 #[.slice A n c, .int .i64 (i : Int)] w fun e w' => e = .returned (.int .i64 (zoneE PZ zs i)) ∧ Below w.heap.size w w' := by
  have H := Lib.hid h
  have HP := Lib.hid hP
  obtain ⟨z, hz⟩ := h.get hi
  have hmem := List.mem_of_getElem? hz
  have hsz := hP z hmem
  have hzn := hsz.nmax
  have hsx := hstr z hmem
  have HPS := Lib.hid (hps z hmem)
  have HZ := Lib.hid hz
  have HSZ := Lib.hid hsz
  obtain ⟨b, off, rfl, hbl, hcells⟩ := H.out.base (by omega)
  have e0 : w.cell? ⟨b, off + i * 2, none⟩ = some (.string z.name) := Sl.at_ hcells hz 0 rfl
  have e1 : w.cell? ⟨b, off + i * 2 + 1, none⟩ = some (.slice z.A z.n z.c) := Sl.at_ hcells hz 1 rfl
  clear hcells h hP hstr hz hmem hsz hps
  go_enter Try.func64, Try.ntmps64
  go_upto_region 2 with (fail)
  (obtain ⟨V, hWV, hbV, hzV, f1V, mfa⟩ := box1 w #[.string z.name, .slice z.A z.n z.c] 56; rw [← hWV]; have ma0 : V.cell? ⟨w.heap.size, 0, none⟩ = some (.string z.name) := f1V 0 _ rfl; have ma1 : V.cell? ⟨w.heap.size, 1, none⟩ = some (.slice z.A z.n z.c) := f1V 1 _ rfl; clear hWV f1V)
  have hbT := hbV
  have hzV2 : w.heap.size < V.heap.size := hzV
  clear e0 e1 hbV
  go_wp2_with fail
  refine (ref5name_any z.name _ hsx).mono ?_
  rintro e w2 ⟨rfl, hb2⟩
  have hzT := hbT.size
  (have hzhb2 := hb2.size; replace ma0 := (hb2.cell (p := ⟨_, _, none⟩) (by (try dsimp only) <;> omega)).trans ma0; replace ma1 := (hb2.cell (p := ⟨_, _, none⟩) (by (try dsimp only) <;> omega)).trans ma1; replace hbT := Below.trans hbT (Below.mono hb2 (by omega)))
  cases hnm : nameB z.name
  · have HQ := Lib.hid (zoneE_name (PZ := PZ) HZ.out hnm)
    clear hnm
    go_wp2_with fail
    go_ret
    exact ⟨ret_int HQ.out.symm, hbT⟩
  have HNM := Lib.hid hnm
  clear hnm
  have hzw2 : w.heap.size < w2.heap.size := by omega
  go_wp2_with fail
  go_loopw [6] (fun s wi => ∃ q : Nat, q ≤ i ∧ s = .int .i64 q ∧ Below w2.heap.size w2 wi ∧ (zs.take q).any (nmEq z.name) = false) (fun s _ => i - (intOf s).toNat)
  case atStart => exact ⟨0, Nat.zero_le _, rfl, Below.refl _ _, rfl⟩
  case round =>
    obtain ⟨q, hq, rfl, hbi, ht⟩ := hrel
    have HT := Lib.hid ht
    clear ht
    have hzi := hbi.size
    replace hbT := hbT.trans (hbi.mono hbT.size)
    (have hzhbi := hbi.size; replace ma0 := (hbi.cell (p := ⟨_, _, none⟩) (by (try dsimp only) <;> omega)).trans ma0; replace ma1 := (hbi.cell (p := ⟨_, _, none⟩) (by (try dsimp only) <;> omega)).trans ma1)
    by_cases hltq : q < i
    · obtain ⟨b2, off2, hbo, hbl2, hcells⟩ := H.out.baseIn hbT (by omega)
      cases hbo
      obtain ⟨y, hy⟩ := H.out.get (k := q) (by omega)
      have f0 : wr.cell? ⟨b, off + q * 2, none⟩ = some (.string y.name) := Sl.at_ hcells hy 0 rfl
      have HYX := Lib.hid hy
      clear hcells hy
      cases hq1 : (y.name.toList == z.name.toList)
      · have HN : Hid (nmEq z.name y = false) := Lib.hid hq1
        go_upto_region 7 with (fail)
        ((with_reducible refine wp_region_quiet_lit ?_ ?_ ?_); kernel_rfl; kernel_rfl; (repeat (any_goals (first | go_big_quiet_step (fail) | (refine wpQuiet_step (fun K hK => ?_); go_simp; (first | (refine hK _ ?_; clear hK K) | (split <;> rename_i hg <;> (refine hK _ ?_; clear hK K) <;> (try simp only [Bool.not_eq_true] at hg) <;> (first | simp only [Int.not_lt.2 hg, decide_false] | simp only [Int.not_le.1 hg, decide_true] | simp only [hg, decide_true, decide_false] | skip))))))); all_goals (refine wpQuiet_nil ?_; intro _ hw'; obtain ⟨nq, hw''⟩ := hw'; subst hw''))
        go_wp2_with fail
        go_roundw
        case rel => exact ⟨q + 1, by omega, by go_num, below_drewN hbi _, any_step HT.out HYX.out HN.out⟩
        case measure => simp [intOf]; omega
      · have HQ := Lib.hid (zoneE_twice (PZ := PZ) HZ.out HNM.out (any_hit hltq HYX.out hq1))
        go_upto_region 7 with (fail)
        ((with_reducible refine wp_region_quiet_lit ?_ ?_ ?_); kernel_rfl; kernel_rfl; (repeat (any_goals (first | go_big_quiet_step (fail) | (refine wpQuiet_step (fun K hK => ?_); go_simp; (first | (refine hK _ ?_; clear hK K) | (split <;> rename_i hg <;> (refine hK _ ?_; clear hK K) <;> (try simp only [Bool.not_eq_true] at hg) <;> (first | simp only [Int.not_lt.2 hg, decide_false] | simp only [Int.not_le.1 hg, decide_true] | simp only [hg, decide_true, decide_false] | skip))))))); all_goals (refine wpQuiet_nil ?_; intro _ hw'; obtain ⟨nq, hw''⟩ := hw'; subst hw''))
        go_wp2_with fail
        go_ret
        exact ⟨ret_int HQ.out.symm, below_drewN hbT _⟩
    · obtain rfl : i = q := by omega
      have hin : ¬ ((i : Int) < (i : Int)) := by omega
      by_cases h0 : z.n = 0
      · have HQ := Lib.hid (zoneE_none (PZ := PZ) HZ.out HNM.out HT.out h0)
        have q0 : ((z.n : Int) == 0) = true := by rw [beq_iff_eq]; omega
        clear h0
        go_wp2_with fail
        go_ret
        exact ⟨ret_int HQ.out.symm, hbT⟩
      have q0 : ((z.n : Int) == 0) = false := by rw [beq_eq_false_iff_ne]; omega
      by_cases h64 : 64 < z.n
      · have HQ := Lib.hid (zoneE_long (PZ := PZ) HZ.out HNM.out HT.out h64)
        have h64i : (64 : Int) < (z.n : Int) := by omega
        go_wp2_with fail
        go_ret
        exact ⟨ret_int HQ.out.symm, hbT⟩
      have h64i : ¬ (64 : Int) < (z.n : Int) := by omega
      have HO := Lib.hid (zoneE_pref (PZ := PZ) HZ.out HNM.out HT.out h0 h64)
      clear h0
      go_wp2_with fail
      go_loopw [7] (fun s wj => ∃ k : Nat, k ≤ z.n ∧ s = .int .i64 k ∧ Below wr.heap.size wr wj ∧ ∀ j, j < k → prefE PZ zs i z j = 0) (fun s _ => z.n - (intOf s).toNat)
      case atStart => exact ⟨0, Nat.zero_le _, rfl, Below.refl _ _, fun j hj => absurd hj (by omega)⟩
      case round =>
        obtain ⟨k, hk, rfl, hbj, ha⟩ := hrel
        have HA := Lib.hid ha
        clear ha
        have hzj := hbj.size
        replace hbT := hbT.trans (hbj.mono hbT.size)
        have hwr : w.heap.size < wr.heap.size := by omega
        (have hzhbj := hbj.size; replace ma0 := (hbj.cell (p := ⟨_, _, none⟩) (by (try dsimp only) <;> omega)).trans ma0; replace ma1 := (hbj.cell (p := ⟨_, _, none⟩) (by (try dsimp only) <;> omega)).trans ma1)
        by_cases hkn : k < z.n
        · obtain ⟨p, hp⟩ := HSZ.out.get hkn
          obtain ⟨AZ, hAZ⟩ : ∃ AZ, z.A = AZ := ⟨_, rfl⟩
          have hs2 := HSZ.out
          rw [hAZ] at ma1 hs2
          obtain ⟨b9, off9, rfl, hbl9, hcells9⟩ := Sl.one rfl hs2 (by omega)
          have e3 : wr.cell? ⟨b9, off9 + k, none⟩ = some (.string p) := (hbT.cell (p := ⟨b9, off9 + k, none⟩) hbl9).trans (hcells9 k p _ hp rfl)
          have hpz := HPS.out p (List.mem_of_getElem? hp)
          have HPX := Lib.hid hp
          have HAZ := Lib.hid hAZ
          clear hcells9 hp hs2 hAZ
          go_wp2_with fail
          refine (Dg.refvalid_any p _ hpz).mono ?_
          rintro e w' ⟨rfl, rfl⟩
          cases hv : Dg.valid p.data.toList
          · have HQ := Lib.hid (HO.out.trans (firstE_bad _ k _ _ HA.out hkn (prefE_bad HPX.out hv) (by decide)))
            clear hv
            go_wp2_with fail
            go_ret
            exact ⟨ret_int HQ.out.symm, hbT⟩
          have HV := Lib.hid hv
          clear hv
          have hPw : ∀ x ∈ zs, Sl wr x.A x.n x.c (PZ x) := fun x hx => (HP.out x hx).below hbT
          have HPW := Lib.hid hPw
          clear hPw
          go_wp2_with fail
          refine (earlier_any PZ _ n c i k zs z p _ (H.out.below hbT) HPW.out hn64 hi HZ.out hkn HPX.out).mono ?_
          rintro e w5 ⟨rfl, hb5⟩
          cases hse : seenB PZ zs i z k p
          · have HN := Lib.hid (prefE_ok HPX.out HV.out hse)
            clear hse
            go_wp2_with fail
            go_roundw
            case rel => exact ⟨k + 1, by omega, by go_num, hbj.trans (hb5.mono hbj.size), zero_step HA.out HN.out⟩
            case measure => simp [intOf]; omega
          · have HQ := Lib.hid (HO.out.trans (firstE_bad _ k _ _ HA.out hkn (prefE_twice HPX.out HV.out hse) (by decide)))
            clear hse
            replace hbT := hbT.trans (hb5.mono hbT.size)
            go_wp2_with fail
            go_ret
            exact ⟨ret_int HQ.out.symm, hbT⟩
        · obtain rfl : z.n = k := by omega
          have hkn' : ¬ ((z.n : Int) < (z.n : Int)) := by omega
          have HQ := Lib.hid (HO.out.trans (firstE_ok _ _ HA.out))
          go_wp2_with fail
          go_ret
          exact ⟨ret_int HQ.out.symm, hbT⟩
set_option maxHeartbeats 8000000 in
theorem refzones_any (PZ : Nm → List ByteArray) (A : Option Addr) (n c : Nat) (zs : List Nm) (w : World) (h : Sl w A n c zs) (hP : ∀ x ∈ zs, Sl w x.A x.n x.c (PZ x)) (hstr : ∀ x ∈ zs, x.name.size ≤ maxLen) (hps : ∀ x ∈ zs, ∀ p ∈ PZ x, p.size ≤ maxLen) :
    Calls Try.prog 42 #[.slice A n c] w fun e w' => e = .returned (.int .i64 (zonesE PZ zs)) ∧ Below w.heap.size w w' := by
  have hn := h.nmax
  have hlen := h.len
  have H := Lib.hid h
  have HP := Lib.hid hP
  have HSTR := Lib.hid hstr
  have HPS := Lib.hid hps
  clear h hP hstr hps
  by_cases h64 : (64 : Int) < (n : Int)
  · have HE : Hid (zonesE PZ zs = 5) := Lib.hid (by rw [zonesE, if_pos (by omega)])
    go_enter Try.func42, Try.ntmps42
    go_wp2_with fail
    go_ret
    exact ⟨ret_int HE.out.symm, Below.refl _ _⟩
  have HE : Hid (zonesE PZ zs = firstE n (zoneE PZ zs)) := Lib.hid (by rw [zonesE, if_neg (by omega), hlen])
  go_enter Try.func42, Try.ntmps42
  go_wp2_with fail
  go_loopw [3] (fun s wr => ∃ k : Nat, k ≤ n ∧ s = .int .i64 k ∧ Below w.heap.size w wr ∧ ∀ j, j < k → zoneE PZ zs j = 0) (fun s _ => n - (intOf s).toNat)
  case atStart => exact ⟨0, Nat.zero_le _, rfl, Below.refl _ _, fun j hj => absurd hj (by omega)⟩
  case round =>
    obtain ⟨k, hk, rfl, hb, ha⟩ := hrel
    have HA := Lib.hid ha
    clear ha
    by_cases hlt : k < n
    · have HPW : Hid (∀ x ∈ zs, Sl wr x.A x.n x.c (PZ x)) := Lib.hid (fun x hx => (HP.out x hx).below hb)
      go_wp2_with fail
      refine (refzonechk_any PZ A n c k zs _ (H.out.below hb) HPW.out HSTR.out HPS.out (by omega) hlt).mono ?_
      rintro e w4 ⟨rfl, hb4⟩
      replace hb := hb.trans (hb4.mono hb.size)
      obtain ⟨y, hy⟩ : ∃ y, zoneE PZ zs k = y := ⟨_, rfl⟩
      rw [hy]
      have HY := Lib.hid hy
      clear hy
      by_cases hy0 : y = 0
      · subst hy0
        go_wp2_with fail
        go_roundw
        case rel => exact ⟨k + 1, by omega, by go_num, hb, zero_step HA.out HY.out⟩
        case measure => simp [intOf]; omega
      · have q5 : (y != 0) = true := by simpa using hy0
        have HQ := Lib.hid (HE.out.trans (firstE_bad _ k _ _ HA.out hlt HY.out hy0))
        clear hy0
        go_wp2_with fail
        go_ret
        exact ⟨ret_int HQ.out.symm, hb⟩
    · obtain rfl : n = k := by omega
      have hkn' : ¬ ((n : Int) < (n : Int)) := by omega
      have HQ := Lib.hid (HE.out.trans (firstE_ok _ _ HA.out))
      go_wp2_with fail
      go_ret
      exact ⟨ret_int HQ.out.symm, hb⟩
end Cv
end Go.Proofs.Ytdnnnajohdohaaa
