/-
  Customers: With, remove, Without, has, names. No condition.
-/
import Derived.Test.YteaanngagcflhaaCuC
import Derived.BigQuiet
import Derived.StillTailTactics
import Derived.Lib.Overlaps
import Derived.Deep.DeepCutAuto
import Derived.Deep.RegionWith
import Derived.Laws.RangeAny
set_option maxRecDepth 100000
set_option linter.unusedVariables false
set_option linter.unusedSimpArgs false
namespace Go.Proofs.Yteaanngagcflhaa
open Go.RowKit

namespace Cu
set_option maxHeartbeats 8000000 in
theorem With_any (A : Option Addr) (n c : Nat) (xs : List ByteArray) (x : ByteArray) (w : World) (h : Sl w A n c xs) (hA : A = none → c = 0) (hn9 : n ≤ 900000) :
    Calls Try.prog 124 #[.slice A n c, .string x] w fun e w' => ∃ v, e = .returned v ∧ Ow w' w.heap.size 9 v (insS xs x) ∧ Below w.heap.size w w' := by
  have HS := Lib.hid h
  have HNIL := Lib.hid hA
  have HLen := Lib.hid h.len
  have hn := h.nmax
  clear h hA
  go_enter Try.func124, Try.ntmps124
  go_wp2_with fail
  go_loopw [5] (fun i wr => ∃ k : Nat, k ≤ n ∧ i = .int .i64 k ∧ Below w.heap.size w wr ∧ ∀ j y, j < k → xs[j]? = some y → Op.bytesLess y.toList x.toList = true) (fun i _ => n - (intOf i).toNat)
  case atStart => exact ⟨0, Nat.zero_le _, rfl, Below.refl _ _, fun j y hj => absurd hj (by omega)⟩
  case round =>
    obtain ⟨k, hk, rfl, hbr, hall⟩ := hrel
    have HK := Lib.hid hall
    clear hall
    by_cases hcase : ∃ y, xs[k]? = some y ∧ Op.bytesLess y.toList x.toList = true
    · obtain ⟨y, hy, hlt⟩ := hcase
      have hkn : k < n := by have := (List.getElem?_eq_some_iff.1 hy).1; have := HLen.out; omega
      obtain ⟨b, off, rfl, hbl, hcells⟩ := HS.out.baseIn hbr (by omega)
      have e0 : wr.cell? ⟨b, off + k * 1, none⟩ = some (.string y) := Sl.at_ hcells hy 0 rfl
      rw [Nat.mul_one] at e0
      have HST := Lib.hid (show ∀ j z, j < k + 1 → xs[j]? = some z → Op.bytesLess z.toList x.toList = true from fun j z hj hz => by
        rcases Nat.lt_or_ge j k with h1 | h1
        · exact HK.out j z h1 hz
        · obtain rfl : j = k := by omega
          rw [hy] at hz; cases hz; exact hlt)
      have hbl2 : b < wr.heap.size := Nat.lt_of_lt_of_le hbl hbr.size
      clear hcells hy
      go_wp2_with fail
      go_roundw
      case rel => exact ⟨k + 1, by omega, by go_num, hbr, HST.out⟩
      case measure => simp [intOf]; omega
    · have HI := Lib.hid (show insS xs x = xs.take k ++ [x] ++ xs.drop k from insS_at xs x k HK.out (fun y hy hlt => hcase ⟨y, hy, hlt⟩))
      have hslT : ∀ W, (Instr.slice 49 (.slice A n c) none (some (.int .i64 (k : Int))) none).run Try.prog W = .ok (.slice A k c) W := fun W => run_slice_to (sz := 1) (by kernel_rfl) (by kernel_rfl) (by have := HS.out.le; omega) W
      have HST := Lib.hid (Sl.takeK HS.out hk)
      have hslF : ∀ W, (Instr.slice 49 (.slice A n c) (some (.int .i64 (k : Int))) none none).run Try.prog W = .ok (.slice (if c = k then A else A.map (·.add (k * 1))) (n - k) (c - k)) W := fun W => run_slice_from (sz := 1) (by kernel_rfl) (by kernel_rfl) hk W
      have hsF := Sl.dropG HS.out hk
      obtain ⟨AF, hAF⟩ : ∃ AF : Option Addr, (if c = k then A else A.map (·.add (k * 1))) = AF := ⟨_, rfl⟩
      have hAF' : (if c = k then A else A.map (·.add (k * Flat.sz ByteArray))) = AF := hAF
      have hnilF : AF = none → c - k = 0 := fun e => by
        have hcc := HNIL.out
        rw [← hAF] at e
        split at e
        · omega
        · cases A with
          | none => have := hcc rfl; omega
          | some a => cases e
      rw [hAF] at hslF
      rw [hAF'] at hsF
      have HSF := Lib.hid hsF
      have HNF := Lib.hid hnilF
      have htl : (xs.take k).length ≤ 900000 := by rw [List.length_take]; omega
      have htl2 : (xs.take k ++ [x]).length ≤ 900001 := by simp; omega
      obtain ⟨nf, hnf⟩ : ∃ nf, n - k = nf := ⟨_, rfl⟩
      obtain ⟨cf, hcf⟩ : ∃ cf, c - k = cf := ⟨_, rfl⟩
      rw [hnf, hcf] at hslF
      replace HSF := Lib.hid (show Sl w AF nf cf (xs.drop k) by have := HSF.out; rw [hnf, hcf] at this; exact this)
      replace HNF := Lib.hid (show AF = none → cf = 0 by have := HNF.out; rw [hcf] at this; exact this)
      have hnfl : nf ≤ 900000 := by omega
      clear hAF hAF' hsF hnilF hnf hcf

      by_cases hkn : k < n
      · obtain ⟨b, off, hAe, hbl, hcells⟩ := HS.out.baseIn hbr (by omega)
        obtain ⟨y, hy⟩ := HS.out.get hkn
        have hnl : ¬ (Op.bytesLess y.toList x.toList = true) := fun h => hcase ⟨y, hy, h⟩
        have e0 : wr.cell? ⟨b, off + k * 1, none⟩ = some (.string y) := Sl.at_ hcells hy 0 rfl
        rw [Nat.mul_one] at e0
        have hbl2 : b < wr.heap.size := Nat.lt_of_lt_of_le hbl hbr.size
        subst hAe
        clear hcells hy hcase
        skip
        have hbD : Below w.heap.size w (wr.alloc (.cells #[] 9)) := hbr.alloc hbr.size _
        go_upto_region 5 with (at_builtin; go_must (
          refine wpl_appendS _ rfl (.tmp 21) (.tmp 24) 49 rfl w.heap.size 9 _ 16 Try.underlying49 infoS rfl (.slice (some ⟨wr.heap.size, 0, none⟩) 0 0) ([] : List ByteArray) rfl (lit0 wr _ hbr.size) (some ⟨b, off, none⟩) k c (xs.take k) rfl HNIL.out (HST.out.below hbD) (by simp; omega) (by omega) hbD.size ?_
          intro v5 w5 ho5 hu5
          rw [List.nil_append] at ho5
          have HB5 := Lib.hid (hu5.belowBase (lit0 (α := ByteArray) wr _ hbr.size) hbD hbD.size)
          have HO5 := Lib.hid ho5
          clear ho5 hu5))
        go_upto_region 6 with (at_builtin; go_must (
          refine wpl_append1 _ rfl (.tmp 26) (.tmp 28) 49 rfl w.heap.size 9 _ 16 Try.underlying49 infoS rfl _ (xs.take k) rfl (HO5.out.alloc _) _ x rfl (fun j u hu => cells_new _ _ _ _ _ (by simp) u hu) (by omega) (by omega) (by rw [World.size_alloc]; have := HB5.out.size; omega) ?_
          intro v6 w6 ho6 hu6
          have hb6 := hu6.belowBase (HO5.out.alloc _) (HB5.out.alloc HB5.out.size _) (by rw [World.size_alloc]; have := HB5.out.size; omega)
          have HO6 := Lib.hid ho6
          have HB6 := Lib.hid hb6
          clear ho6 hu6 hb6))
        go_wp2_with (at_builtin; go_must (
          refine wpl_appendS _ rfl (.tmp 30) (.tmp 33) 49 rfl w.heap.size 9 _ 16 Try.underlying49 infoS rfl _ (xs.take k ++ [x]) rfl HO6.out AF nf cf (xs.drop k) rfl HNF.out (HSF.out.below HB6.out) (by omega) (by omega) HB6.out.size ?_
          intro v8 w8 ho8 hu8
          have HB8 := Lib.hid (hu8.belowBase HO6.out HB6.out HB6.out.size)
          have HO8 := Lib.hid ho8
          clear ho8 hu8))
        go_ret
        exact ⟨_, rfl, by rw [HI.out]; exact HO8.out, HB8.out⟩
      · obtain rfl : n = k := by omega
        have hkk : ¬ ((n : Int) < (n : Int)) := by omega
        clear hcase
        skip
        have hbD : Below w.heap.size w (wr.alloc (.cells #[] 9)) := hbr.alloc hbr.size _
        go_upto_region 5 with (at_builtin; go_must (
          refine wpl_appendS _ rfl (.tmp 21) (.tmp 24) 49 rfl w.heap.size 9 _ 16 Try.underlying49 infoS rfl (.slice (some ⟨wr.heap.size, 0, none⟩) 0 0) ([] : List ByteArray) rfl (lit0 wr _ hbr.size) A n c (xs.take n) rfl HNIL.out (HST.out.below hbD) (by simp; omega) (by omega) hbD.size ?_
          intro v5 w5 ho5 hu5
          rw [List.nil_append] at ho5
          have HB5 := Lib.hid (hu5.belowBase (lit0 (α := ByteArray) wr _ hbr.size) hbD hbD.size)
          have HO5 := Lib.hid ho5
          clear ho5 hu5))
        go_upto_region 6 with (at_builtin; go_must (
          refine wpl_append1 _ rfl (.tmp 26) (.tmp 28) 49 rfl w.heap.size 9 _ 16 Try.underlying49 infoS rfl _ (xs.take n) rfl (HO5.out.alloc _) _ x rfl (fun j u hu => cells_new _ _ _ _ _ (by simp) u hu) (by omega) (by omega) (by rw [World.size_alloc]; have := HB5.out.size; omega) ?_
          intro v6 w6 ho6 hu6
          have hb6 := hu6.belowBase (HO5.out.alloc _) (HB5.out.alloc HB5.out.size _) (by rw [World.size_alloc]; have := HB5.out.size; omega)
          have HO6 := Lib.hid ho6
          have HB6 := Lib.hid hb6
          clear ho6 hu6 hb6))
        go_wp2_with (at_builtin; go_must (
          refine wpl_appendS _ rfl (.tmp 30) (.tmp 33) 49 rfl w.heap.size 9 _ 16 Try.underlying49 infoS rfl _ (xs.take n ++ [x]) rfl HO6.out AF nf cf (xs.drop n) rfl HNF.out (HSF.out.below HB6.out) (by omega) (by omega) HB6.out.size ?_
          intro v8 w8 ho8 hu8
          have HB8 := Lib.hid (hu8.belowBase HO6.out HB6.out HB6.out.size)
          have HO8 := Lib.hid ho8
          clear ho8 hu8))
        go_ret
        exact ⟨_, rfl, by rw [HI.out]; exact HO8.out, HB8.out⟩
set_option maxHeartbeats 8000000 in
theorem remove_any (A : Option Addr) (n c : Nat) (xs : List ByteArray) (x : ByteArray) (w : World) (h : Sl w A n c xs) (hn9 : n ≤ 900000) :
    Calls Try.prog 117 #[.slice A n c, .string x] w fun e w' => ∃ v, e = .returned v ∧ Ow w' w.heap.size 9 v (remS xs x) ∧ Below w.heap.size w w' := by
  have HS := Lib.hid h
  have HLen := Lib.hid h.len
  have hn := h.nmax
  clear h
  go_enter Try.func117, Try.ntmps117
  go_wp2_with fail
  go_loopw [5, 10] (fun o i wr => ∃ k : Nat, k ≤ n ∧ i = .int .i64 k ∧ Ow wr w.heap.size 9 o (remS (xs.take k) x) ∧ Below w.heap.size w wr) (fun _ i _ => n - (intOf i).toNat)
  case atStart => exact ⟨0, Nat.zero_le _, rfl, Ow.nil_ _ _ _, Below.refl _ _⟩
  case round =>
    obtain ⟨k, hk, rfl, ho, hbr⟩ := hrel
    have HO := Lib.hid ho
    clear ho
    by_cases hlt : k < n
    · obtain ⟨b, off, hAe, hbl, hcells⟩ := HS.out.baseIn hbr (by omega)
      obtain ⟨y, hy⟩ := HS.out.get hlt
      have e0 : wr.cell? ⟨b, off + k * 1, none⟩ = some (.string y) := Sl.at_ hcells hy 0 rfl
      rw [Nat.mul_one] at e0
      have hbl2 : b < wr.heap.size := Nat.lt_of_lt_of_le hbl hbr.size
      have htk : xs.take (k + 1) = xs.take k ++ [y] := by rw [List.take_add_one, hy]; rfl
      have hrl : (remS (xs.take k) x).length ≤ 900000 := by unfold remS; have := List.length_filter_le (fun y => !seq_ y x) (xs.take k); rw [List.length_take] at this; omega
      subst hAe
      clear hcells hy
      cases hb : (y.toList == x.toList)
      · have HR := Lib.hid (show remS (xs.take (k + 1)) x = remS (xs.take k) x ++ [y] by rw [htk]; unfold remS; rw [List.filter_append, List.filter_cons_of_pos (by unfold seq_; rw [hb]; rfl)]; rfl)
        clear htk
        go_wp2_with (at_builtin; go_must (
          refine wpl_append1 _ rfl (.tmp 17) (.tmp 19) 49 rfl w.heap.size 9 _ 16 Try.underlying49 infoS rfl _ (remS (xs.take k) x) rfl (HO.out.alloc _) _ y rfl (fun j u hu => cells_new _ _ _ _ _ (by simp) u hu) (by omega) (by omega) (by rw [World.size_alloc]; have := hbr.size; omega) ?_
          intro v6 w6 ho6 hu6
          have hb6 := hu6.belowBase (HO.out.alloc _) (hbr.alloc hbr.size _) (by rw [World.size_alloc]; have := hbr.size; omega)
          have HO6 := Lib.hid ho6
          have HB6 := Lib.hid hb6
          clear ho6 hu6 hb6))
        all_goals
          go_roundw
          case rel => exact ⟨k + 1, by omega, by go_num, by rw [HR.out]; exact HO6.out, HB6.out⟩
          case measure => simp [intOf]; omega
      · have HR := Lib.hid (show remS (xs.take (k + 1)) x = remS (xs.take k) x by rw [htk]; unfold remS; rw [List.filter_append, List.filter_cons_of_neg (by unfold seq_; rw [hb]; decide)]; simp)
        clear htk
        go_wp2_with fail
        go_roundw
        case rel => exact ⟨k + 1, by omega, by go_num, by rw [HR.out]; exact HO.out, hbr⟩
        case measure => simp [intOf]; omega
    · obtain rfl : n = k := by omega
      have hkn : ¬ ((n : Int) < (n : Int)) := by omega
      have HR := Lib.hid (show remS xs x = remS (xs.take n) x by rw [List.take_of_length_le (by have := HLen.out; omega)])
      go_wp2_with fail
      go_ret
      exact ⟨_, rfl, by rw [HR.out]; exact HO.out, hbr⟩
set_option maxHeartbeats 8000000 in
theorem Without_any (A : Option Addr) (n c : Nat) (xs : List ByteArray) (x : ByteArray) (w : World) (h : Sl w A n c xs) (hn9 : n ≤ 900000) :
    Calls Try.prog 125 #[.slice A n c, .string x] w fun e w' => ∃ v, e = .returned v ∧ Ow w' w.heap.size 9 v (remS xs x) ∧ Below w.heap.size w w' := by
  have HS := Lib.hid h
  have HLen := Lib.hid h.len
  have hn := h.nmax
  clear h
  go_enter Try.func125, Try.ntmps125
  go_wp2_with fail
  go_loopw [5, 6] (fun o i wr => ∃ k : Nat, k ≤ n ∧ i = .int .i64 k ∧ Ow wr w.heap.size 9 o (remS (xs.take k) x) ∧ Below w.heap.size w wr) (fun _ i _ => n - (intOf i).toNat)
  case atStart => exact ⟨0, Nat.zero_le _, rfl, Ow.nil_ _ _ _, Below.refl _ _⟩
  case round =>
    obtain ⟨k, hk, rfl, ho, hbr⟩ := hrel
    have HO := Lib.hid ho
    clear ho
    by_cases hlt : k < n
    · obtain ⟨b, off, hAe, hbl, hcells⟩ := HS.out.baseIn hbr (by omega)
      obtain ⟨y, hy⟩ := HS.out.get hlt
      have e0 : wr.cell? ⟨b, off + k * 1, none⟩ = some (.string y) := Sl.at_ hcells hy 0 rfl
      rw [Nat.mul_one] at e0
      have hbl2 : b < wr.heap.size := Nat.lt_of_lt_of_le hbl hbr.size
      have htk : xs.take (k + 1) = xs.take k ++ [y] := by rw [List.take_add_one, hy]; rfl
      have hrl : (remS (xs.take k) x).length ≤ 900000 := by unfold remS; have := List.length_filter_le (fun y => !seq_ y x) (xs.take k); rw [List.length_take] at this; omega
      subst hAe
      clear hcells hy
      cases hb : (y.toList == x.toList)
      · have HR := Lib.hid (show remS (xs.take (k + 1)) x = remS (xs.take k) x ++ [y] by rw [htk]; unfold remS; rw [List.filter_append, List.filter_cons_of_pos (by unfold seq_; rw [hb]; rfl)]; rfl)
        clear htk
        go_wp2_with (at_builtin; go_must (
          refine wpl_append1 _ rfl (.tmp 19) (.tmp 24) 49 rfl w.heap.size 9 _ 16 Try.underlying49 infoS rfl _ (remS (xs.take k) x) rfl (HO.out.alloc _) _ y rfl (fun j u hu => cells_new _ _ _ _ _ (by simp) u hu) (by omega) (by omega) (by rw [World.size_alloc]; have := hbr.size; omega) ?_
          intro v6 w6 ho6 hu6
          have hb6 := hu6.belowBase (HO.out.alloc _) (hbr.alloc hbr.size _) (by rw [World.size_alloc]; have := hbr.size; omega)
          have HO6 := Lib.hid ho6
          have HB6 := Lib.hid hb6
          clear ho6 hu6 hb6))
        all_goals
          go_roundw
          case rel => exact ⟨k + 1, by omega, by go_num, by rw [HR.out]; exact HO6.out, HB6.out⟩
          case measure => simp [intOf]; omega
      · have HR := Lib.hid (show remS (xs.take (k + 1)) x = remS (xs.take k) x by rw [htk]; unfold remS; rw [List.filter_append, List.filter_cons_of_neg (by unfold seq_; rw [hb]; decide)]; simp)
        clear htk
        go_wp2_with fail
        go_roundw
        case rel => exact ⟨k + 1, by omega, by go_num, by rw [HR.out]; exact HO.out, hbr⟩
        case measure => simp [intOf]; omega
    · obtain rfl : n = k := by omega
      have hkn : ¬ ((n : Int) < (n : Int)) := by omega
      have HR := Lib.hid (show remS xs x = remS (xs.take n) x by rw [List.take_of_length_le (by have := HLen.out; omega)])
      go_wp2_with fail
      go_ret
      exact ⟨_, rfl, by rw [HR.out]; exact HO.out, hbr⟩
set_option maxHeartbeats 4000000 in
theorem has_any (A : Option Addr) (n c : Nat) (xs : List ByteArray) (x : ByteArray) (w : World) (h : Sl w A n c xs) :
    Calls Try.prog 98 #[.slice A n c, .string x] w fun e w' => e = .returned (.bool (hasS xs x)) ∧ w = w' := by
  have HS := Lib.hid h
  have HLen := Lib.hid h.len
  have hn := h.nmax
  clear h
  go_enter Try.func98, Try.ntmps98
  go_wp2_with fail
  go_loop [9] (fun i => ∃ k : Nat, k ≤ n ∧ i = .int .i64 k ∧ hasS (xs.take k) x = false) (fun i => n - (intOf i).toNat)
  case atStart => exact ⟨0, Nat.zero_le _, rfl, rfl⟩
  case round =>
    obtain ⟨k, hk, rfl, ha⟩ := hrel
    have HA := Lib.hid ha
    clear ha
    by_cases hlt : k < n
    · obtain ⟨b, off, hAe, hbl, hcells⟩ := HS.out.base (by omega)
      obtain ⟨y, hy⟩ := HS.out.get hlt
      have e0 : w.cell? ⟨b, off + k * 1, none⟩ = some (.string y) := Sl.at_ hcells hy 0 rfl
      rw [Nat.mul_one] at e0
      have htk : xs.take (k + 1) = xs.take k ++ [y] := by rw [List.take_add_one, hy]; rfl
      have hmem : y ∈ xs := List.mem_of_getElem? hy
      subst hAe
      clear hcells hy
      cases hb : (y.toList == x.toList)
      · have HR := Lib.hid (show hasS (xs.take (k + 1)) x = false by rw [htk]; unfold hasS; rw [List.any_append]; have := HA.out; unfold hasS at this; rw [this]; simp [seq_, hb])
        clear htk hmem
        go_wp2_with fail
        go_round
        case rel => exact ⟨k + 1, by omega, by go_num, HR.out⟩
        case measure => simp [intOf]; omega
      · have HR := Lib.hid (show hasS xs x = true by unfold hasS; rw [List.any_eq_true]; exact ⟨y, hmem, hb⟩)
        clear htk hmem
        go_wp2_with fail
        go_ret
        exact ⟨ret_bool HR.out.symm, rfl⟩
    · obtain rfl : n = k := by omega
      have hkn : ¬ ((n : Int) < (n : Int)) := by omega
      have HR := Lib.hid (show hasS xs x = false by rw [← HA.out, List.take_of_length_le (by have := HLen.out; omega)])
      go_wp2_with fail
      go_ret
      exact ⟨ret_bool HR.out.symm, rfl⟩
set_option maxHeartbeats 4000000 in
theorem Has_any (A : Option Addr) (n c : Nat) (xs : List ByteArray) (x : ByteArray) (w : World) (h : Sl w A n c xs) :
    Calls Try.prog 39 #[.slice A n c, .string x] w fun e w' => e = .returned (.bool (hasS xs x)) ∧ w = w' := by
  have HS := Lib.hid h
  have HLen := Lib.hid h.len
  have hn := h.nmax
  clear h
  go_enter Try.func39, Try.ntmps39
  go_wp2_with fail
  go_loop [5] (fun i => ∃ k : Nat, k ≤ n ∧ i = .int .i64 k ∧ hasS (xs.take k) x = false) (fun i => n - (intOf i).toNat)
  case atStart => exact ⟨0, Nat.zero_le _, rfl, rfl⟩
  case round =>
    obtain ⟨k, hk, rfl, ha⟩ := hrel
    have HA := Lib.hid ha
    clear ha
    by_cases hlt : k < n
    · obtain ⟨b, off, hAe, hbl, hcells⟩ := HS.out.base (by omega)
      obtain ⟨y, hy⟩ := HS.out.get hlt
      have e0 : w.cell? ⟨b, off + k * 1, none⟩ = some (.string y) := Sl.at_ hcells hy 0 rfl
      rw [Nat.mul_one] at e0
      have htk : xs.take (k + 1) = xs.take k ++ [y] := by rw [List.take_add_one, hy]; rfl
      have hmem : y ∈ xs := List.mem_of_getElem? hy
      subst hAe
      clear hcells hy
      cases hb : (y.toList == x.toList)
      · have HR := Lib.hid (show hasS (xs.take (k + 1)) x = false by rw [htk]; unfold hasS; rw [List.any_append]; have := HA.out; unfold hasS at this; rw [this]; simp [seq_, hb])
        clear htk hmem
        go_wp2_with fail
        go_round
        case rel => exact ⟨k + 1, by omega, by go_num, HR.out⟩
        case measure => simp [intOf]; omega
      · have HR := Lib.hid (show hasS xs x = true by unfold hasS; rw [List.any_eq_true]; exact ⟨y, hmem, hb⟩)
        clear htk hmem
        go_wp2_with fail
        go_ret
        exact ⟨ret_bool HR.out.symm, rfl⟩
    · obtain rfl : n = k := by omega
      have hkn : ¬ ((n : Int) < (n : Int)) := by omega
      have HR := Lib.hid (show hasS xs x = false by rw [← HA.out, List.take_of_length_le (by have := HLen.out; omega)])
      go_wp2_with fail
      go_ret
      exact ⟨ret_bool HR.out.symm, rfl⟩
end Cu
end Go.Proofs.Yteaanngagcflhaa
