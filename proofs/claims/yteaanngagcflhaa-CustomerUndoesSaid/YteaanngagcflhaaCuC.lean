/-
  Customers: place. No condition.
-/
import Derived.Test.YteaanngagcflhaaCuM
import Derived.Test.YteaanngagcflhaaCuT
import Derived.Test.YteaanngagcflhaaCuV
import Derived.BigQuiet
import Derived.StillTailTactics
import Derived.Lib.Overlaps
import Derived.Deep.DeepCutAuto
import Derived.Deep.RegionWith
import Derived.Laws.RangeAny
set_option maxRecDepth 100000
set_option linter.unusedVariables false
set_option linter.unusedSimpArgs false
namespace Go.Proofs.Yteaanngagcflhaa
open Go.RowKit

namespace Cu
theorem lit0 {α : Type} [Flat α] (w : World) (e : TypeId) {base : Nat} (h : base ≤ w.heap.size) : Ow (w.alloc (.cells #[] e)) base e (.slice (some ⟨w.heap.size, 0, none⟩) 0 0) ([] : List α) :=
  Ow.lower (show Ow (w.alloc (.cells #[] e)) w.heap.size e _ ([] : List α) from World.ownsRow_lit w #[] 0 (Nat.le_refl _) (Nat.zero_le _) (by simp)) h
theorem infoI : (Try.prog.info? 3).map (fun i => (i.zero, i.size, i.bytes)) = some (some (.int .i64 0), 1, 8) := by kernel_rfl
theorem infoS : (Try.prog.info? 9).map (fun i => (i.zero, i.size, i.bytes)) = some (some (.string ⟨#[]⟩), 1, 16) := by kernel_rfl
theorem insI_at : ∀ (l : List Int) (x : Int) (k : Nat), (∀ j y, j < k → l[j]? = some y → y < x) → (∀ y, l[k]? = some y → ¬ y < x) → insI l x = l.take k ++ [x] ++ l.drop k
  | [], x, k, _, _ => by simp [insI]
  | a :: l, x, 0, _, h => by
    have := h a rfl
    unfold insI
    rw [if_neg this]
    rfl
  | a :: l, x, k + 1, hj, h => by
    have := hj 0 a (by omega) rfl
    unfold insI
    rw [if_pos this, insI_at l x k (fun j y hjk hy => hj (j + 1) y (by omega) (by simpa using hy)) (fun y hy => h y (by simpa using hy))]
    rfl
theorem insS_at : ∀ (l : List ByteArray) (x : ByteArray) (k : Nat), (∀ j y, j < k → l[j]? = some y → Op.bytesLess y.toList x.toList = true) → (∀ y, l[k]? = some y → ¬ Op.bytesLess y.toList x.toList = true) → insS l x = l.take k ++ [x] ++ l.drop k
  | [], x, k, _, _ => by simp [insS]
  | a :: l, x, 0, _, h => by
    have := h a rfl
    unfold insS
    rw [if_neg this]
    rfl
  | a :: l, x, k + 1, hj, h => by
    have := hj 0 a (by omega) rfl
    unfold insS
    rw [if_pos this, insS_at l x k (fun j y hjk hy => hj (j + 1) y (by omega) (by simpa using hy)) (fun y hy => h y (by simpa using hy))]
    rfl
set_option maxHeartbeats 8000000 in
theorem placeI_any (A : Option Addr) (n c : Nat) (xs : List Int) (x : Int) (w : World) (h : Sl w A n c xs) (hA : A = none → c = 0) (hn9 : n ≤ 900000) :
    Calls Try.prog 100 #[.slice A n c, .int .i64 x] w fun e w' => ∃ v, e = .returned v ∧ Ow w' w.heap.size 3 v (insI xs x) ∧ Below w.heap.size w w' := by
  have HS := Lib.hid h
  have HNIL := Lib.hid hA
  have HLen := Lib.hid h.len
  have hn := h.nmax
  clear h hA
  go_enter Try.func100, Try.ntmps100
  go_wp2_with fail
  go_loopw [5] (fun i wr => ∃ k : Nat, k ≤ n ∧ i = .int .i64 k ∧ Below w.heap.size w wr ∧ ∀ j y, j < k → xs[j]? = some y → y < x) (fun i _ => n - (intOf i).toNat)
  case atStart => exact ⟨0, Nat.zero_le _, rfl, Below.refl _ _, fun j y hj => absurd hj (by omega)⟩
  case round =>
    obtain ⟨k, hk, rfl, hbr, hall⟩ := hrel
    have HK := Lib.hid hall
    clear hall
    by_cases hcase : ∃ y, xs[k]? = some y ∧ y < x
    · obtain ⟨y, hy, hlt⟩ := hcase
      have hkn : k < n := by have := (List.getElem?_eq_some_iff.1 hy).1; have := HLen.out; omega
      obtain ⟨b, off, rfl, hbl, hcells⟩ := HS.out.baseIn hbr (by omega)
      have e0 : wr.cell? ⟨b, off + k * 1, none⟩ = some (.int .i64 y) := Sl.at_ hcells hy 0 rfl
      rw [Nat.mul_one] at e0
      have HST := Lib.hid (show ∀ j z, j < k + 1 → xs[j]? = some z → z < x from fun j z hj hz => by
        rcases Nat.lt_or_ge j k with h1 | h1
        · exact HK.out j z h1 hz
        · obtain rfl : j = k := by omega
          rw [hy] at hz; cases hz; exact hlt)
      have hbl2 : b < wr.heap.size := Nat.lt_of_lt_of_le hbl hbr.size
      clear hcells hy
      go_wp2_with fail
      go_roundw
      case rel => exact ⟨k + 1, by omega, by go_num, hbr, HST.out⟩
      case measure => simp [intOf]; omega
    · have HI := Lib.hid (show insI xs x = xs.take k ++ [x] ++ xs.drop k from insI_at xs x k HK.out (fun y hy hlt => hcase ⟨y, hy, hlt⟩))
      have hslT : ∀ W, (Instr.slice 44 (.slice A n c) none (some (.int .i64 (k : Int))) none).run Try.prog W = .ok (.slice A k c) W := fun W => run_slice_to (sz := 1) (by kernel_rfl) (by kernel_rfl) (by have := HS.out.le; omega) W
      have HST := Lib.hid (Sl.takeK HS.out hk)
      have hslF : ∀ W, (Instr.slice 44 (.slice A n c) (some (.int .i64 (k : Int))) none none).run Try.prog W = .ok (.slice (if c = k then A else A.map (·.add (k * 1))) (n - k) (c - k)) W := fun W => run_slice_from (sz := 1) (by kernel_rfl) (by kernel_rfl) hk W
      have hsF := Sl.dropG HS.out hk
      obtain ⟨AF, hAF⟩ : ∃ AF : Option Addr, (if c = k then A else A.map (·.add (k * 1))) = AF := ⟨_, rfl⟩
      have hAF' : (if c = k then A else A.map (·.add (k * Flat.sz Int))) = AF := hAF
      have hnilF : AF = none → c - k = 0 := fun e => by
        have hcc := HNIL.out
        rw [← hAF] at e
        split at e
        · omega
        · cases A with
          | none => have := hcc rfl; omega
          | some a => cases e
      rw [hAF] at hslF
      rw [hAF'] at hsF
      have HSF := Lib.hid hsF
      have HNF := Lib.hid hnilF
      have htl : (xs.take k).length ≤ 900000 := by rw [List.length_take]; omega
      have htl2 : (xs.take k ++ [x]).length ≤ 900001 := by simp; omega
      obtain ⟨nf, hnf⟩ : ∃ nf, n - k = nf := ⟨_, rfl⟩
      obtain ⟨cf, hcf⟩ : ∃ cf, c - k = cf := ⟨_, rfl⟩
      rw [hnf, hcf] at hslF
      replace HSF := Lib.hid (show Sl w AF nf cf (xs.drop k) by have := HSF.out; rw [hnf, hcf] at this; exact this)
      replace HNF := Lib.hid (show AF = none → cf = 0 by have := HNF.out; rw [hcf] at this; exact this)
      have hnfl : nf ≤ 900000 := by omega
      clear hAF hAF' hsF hnilF hnf hcf

      by_cases hkn : k < n
      · obtain ⟨b, off, hAe, hbl, hcells⟩ := HS.out.baseIn hbr (by omega)
        obtain ⟨y, hy⟩ := HS.out.get hkn
        have hnl : ¬ (y < x) := fun h => hcase ⟨y, hy, h⟩
        have e0 : wr.cell? ⟨b, off + k * 1, none⟩ = some (.int .i64 y) := Sl.at_ hcells hy 0 rfl
        rw [Nat.mul_one] at e0
        have hbl2 : b < wr.heap.size := Nat.lt_of_lt_of_le hbl hbr.size
        subst hAe
        clear hcells hy hcase
        skip
        go_upto_region 5 with (at_builtin; go_must (
          refine wpl_appendS _ rfl (.const (.slice none 0 0)) (.tmp 23) 44 rfl w.heap.size 3 _ 8 Try.underlying44 infoI rfl (.slice none 0 0) ([] : List Int) rfl (Ow.nil_ _ _ _) (some ⟨b, off, none⟩) k c (xs.take k) rfl HNIL.out (HST.out.below hbr) (by simp; omega) (by omega) hbr.size ?_
          intro v5 w5 ho5 hu5
          rw [List.nil_append] at ho5
          have HB5 := Lib.hid (hu5.belowBase (Ow.nil_ _ _ 3 : Ow wr w.heap.size 3 (.slice none 0 0) ([] : List Int)) hbr hbr.size)
          have HO5 := Lib.hid ho5
          clear ho5 hu5))
        go_upto_region 6 with (at_builtin; go_must (
          refine wpl_append1 _ rfl (.tmp 25) (.tmp 27) 44 rfl w.heap.size 3 _ 8 Try.underlying44 infoI rfl _ (xs.take k) rfl (HO5.out.alloc _) _ x rfl (fun j u hu => cells_new _ _ _ _ _ (by simp) u hu) (by omega) (by omega) (by rw [World.size_alloc]; have := HB5.out.size; omega) ?_
          intro v6 w6 ho6 hu6
          have hb6 := hu6.belowBase (HO5.out.alloc _) (HB5.out.alloc HB5.out.size _) (by rw [World.size_alloc]; have := HB5.out.size; omega)
          have HO6 := Lib.hid ho6
          have HB6 := Lib.hid hb6
          clear ho6 hu6 hb6))
        go_wp2_with (at_builtin; go_must (
          refine wpl_appendS _ rfl (.tmp 29) (.tmp 32) 44 rfl w.heap.size 3 _ 8 Try.underlying44 infoI rfl _ (xs.take k ++ [x]) rfl HO6.out AF nf cf (xs.drop k) rfl HNF.out (HSF.out.below HB6.out) (by omega) (by omega) HB6.out.size ?_
          intro v8 w8 ho8 hu8
          have HB8 := Lib.hid (hu8.belowBase HO6.out HB6.out HB6.out.size)
          have HO8 := Lib.hid ho8
          clear ho8 hu8))
        go_ret
        exact ⟨_, rfl, by rw [HI.out]; exact HO8.out, HB8.out⟩
      · obtain rfl : n = k := by omega
        have hkk : ¬ ((n : Int) < (n : Int)) := by omega
        clear hcase
        skip
        go_upto_region 5 with (at_builtin; go_must (
          refine wpl_appendS _ rfl (.const (.slice none 0 0)) (.tmp 23) 44 rfl w.heap.size 3 _ 8 Try.underlying44 infoI rfl (.slice none 0 0) ([] : List Int) rfl (Ow.nil_ _ _ _) A n c (xs.take n) rfl HNIL.out (HST.out.below hbr) (by simp; omega) (by omega) hbr.size ?_
          intro v5 w5 ho5 hu5
          rw [List.nil_append] at ho5
          have HB5 := Lib.hid (hu5.belowBase (Ow.nil_ _ _ 3 : Ow wr w.heap.size 3 (.slice none 0 0) ([] : List Int)) hbr hbr.size)
          have HO5 := Lib.hid ho5
          clear ho5 hu5))
        go_upto_region 6 with (at_builtin; go_must (
          refine wpl_append1 _ rfl (.tmp 25) (.tmp 27) 44 rfl w.heap.size 3 _ 8 Try.underlying44 infoI rfl _ (xs.take n) rfl (HO5.out.alloc _) _ x rfl (fun j u hu => cells_new _ _ _ _ _ (by simp) u hu) (by omega) (by omega) (by rw [World.size_alloc]; have := HB5.out.size; omega) ?_
          intro v6 w6 ho6 hu6
          have hb6 := hu6.belowBase (HO5.out.alloc _) (HB5.out.alloc HB5.out.size _) (by rw [World.size_alloc]; have := HB5.out.size; omega)
          have HO6 := Lib.hid ho6
          have HB6 := Lib.hid hb6
          clear ho6 hu6 hb6))
        go_wp2_with (at_builtin; go_must (
          refine wpl_appendS _ rfl (.tmp 29) (.tmp 32) 44 rfl w.heap.size 3 _ 8 Try.underlying44 infoI rfl _ (xs.take n ++ [x]) rfl HO6.out AF nf cf (xs.drop n) rfl HNF.out (HSF.out.below HB6.out) (by omega) (by omega) HB6.out.size ?_
          intro v8 w8 ho8 hu8
          have HB8 := Lib.hid (hu8.belowBase HO6.out HB6.out HB6.out.size)
          have HO8 := Lib.hid ho8
          clear ho8 hu8))
        go_ret
        exact ⟨_, rfl, by rw [HI.out]; exact HO8.out, HB8.out⟩
set_option maxHeartbeats 8000000 in
theorem placeS_any (A : Option Addr) (n c : Nat) (xs : List ByteArray) (x : ByteArray) (w : World) (h : Sl w A n c xs) (hA : A = none → c = 0) (hn9 : n ≤ 900000) :
    Calls Try.prog 116 #[.slice A n c, .string x] w fun e w' => ∃ v, e = .returned v ∧ Ow w' w.heap.size 9 v (insS xs x) ∧ Below w.heap.size w w' := by
  have HS := Lib.hid h
  have HNIL := Lib.hid hA
  have HLen := Lib.hid h.len
  have hn := h.nmax
  clear h hA
  go_enter Try.func116, Try.ntmps116
  go_wp2_with fail
  go_loopw [5] (fun i wr => ∃ k : Nat, k ≤ n ∧ i = .int .i64 k ∧ Below w.heap.size w wr ∧ ∀ j y, j < k → xs[j]? = some y → Op.bytesLess y.toList x.toList = true) (fun i _ => n - (intOf i).toNat)
  case atStart => exact ⟨0, Nat.zero_le _, rfl, Below.refl _ _, fun j y hj => absurd hj (by omega)⟩
  case round =>
    obtain ⟨k, hk, rfl, hbr, hall⟩ := hrel
    have HK := Lib.hid hall
    clear hall
    by_cases hcase : ∃ y, xs[k]? = some y ∧ Op.bytesLess y.toList x.toList = true
    · obtain ⟨y, hy, hlt⟩ := hcase
      have hkn : k < n := by have := (List.getElem?_eq_some_iff.1 hy).1; have := HLen.out; omega
      obtain ⟨b, off, rfl, hbl, hcells⟩ := HS.out.baseIn hbr (by omega)
      have e0 : wr.cell? ⟨b, off + k * 1, none⟩ = some (.string y) := Sl.at_ hcells hy 0 rfl
      rw [Nat.mul_one] at e0
      have HST := Lib.hid (show ∀ j z, j < k + 1 → xs[j]? = some z → Op.bytesLess z.toList x.toList = true from fun j z hj hz => by
        rcases Nat.lt_or_ge j k with h1 | h1
        · exact HK.out j z h1 hz
        · obtain rfl : j = k := by omega
          rw [hy] at hz; cases hz; exact hlt)
      have hbl2 : b < wr.heap.size := Nat.lt_of_lt_of_le hbl hbr.size
      clear hcells hy
      go_wp2_with fail
      go_roundw
      case rel => exact ⟨k + 1, by omega, by go_num, hbr, HST.out⟩
      case measure => simp [intOf]; omega
    · have HI := Lib.hid (show insS xs x = xs.take k ++ [x] ++ xs.drop k from insS_at xs x k HK.out (fun y hy hlt => hcase ⟨y, hy, hlt⟩))
      have hslT : ∀ W, (Instr.slice 49 (.slice A n c) none (some (.int .i64 (k : Int))) none).run Try.prog W = .ok (.slice A k c) W := fun W => run_slice_to (sz := 1) (by kernel_rfl) (by kernel_rfl) (by have := HS.out.le; omega) W
      have HST := Lib.hid (Sl.takeK HS.out hk)
      have hslF : ∀ W, (Instr.slice 49 (.slice A n c) (some (.int .i64 (k : Int))) none none).run Try.prog W = .ok (.slice (if c = k then A else A.map (·.add (k * 1))) (n - k) (c - k)) W := fun W => run_slice_from (sz := 1) (by kernel_rfl) (by kernel_rfl) hk W
      have hsF := Sl.dropG HS.out hk
      obtain ⟨AF, hAF⟩ : ∃ AF : Option Addr, (if c = k then A else A.map (·.add (k * 1))) = AF := ⟨_, rfl⟩
      have hAF' : (if c = k then A else A.map (·.add (k * Flat.sz ByteArray))) = AF := hAF
      have hnilF : AF = none → c - k = 0 := fun e => by
        have hcc := HNIL.out
        rw [← hAF] at e
        split at e
        · omega
        · cases A with
          | none => have := hcc rfl; omega
          | some a => cases e
      rw [hAF] at hslF
      rw [hAF'] at hsF
      have HSF := Lib.hid hsF
      have HNF := Lib.hid hnilF
      have htl : (xs.take k).length ≤ 900000 := by rw [List.length_take]; omega
      have htl2 : (xs.take k ++ [x]).length ≤ 900001 := by simp; omega
      obtain ⟨nf, hnf⟩ : ∃ nf, n - k = nf := ⟨_, rfl⟩
      obtain ⟨cf, hcf⟩ : ∃ cf, c - k = cf := ⟨_, rfl⟩
      rw [hnf, hcf] at hslF
      replace HSF := Lib.hid (show Sl w AF nf cf (xs.drop k) by have := HSF.out; rw [hnf, hcf] at this; exact this)
      replace HNF := Lib.hid (show AF = none → cf = 0 by have := HNF.out; rw [hcf] at this; exact this)
      have hnfl : nf ≤ 900000 := by omega
      clear hAF hAF' hsF hnilF hnf hcf

      by_cases hkn : k < n
      · obtain ⟨b, off, hAe, hbl, hcells⟩ := HS.out.baseIn hbr (by omega)
        obtain ⟨y, hy⟩ := HS.out.get hkn
        have hnl : ¬ (Op.bytesLess y.toList x.toList = true) := fun h => hcase ⟨y, hy, h⟩
        have e0 : wr.cell? ⟨b, off + k * 1, none⟩ = some (.string y) := Sl.at_ hcells hy 0 rfl
        rw [Nat.mul_one] at e0
        have hbl2 : b < wr.heap.size := Nat.lt_of_lt_of_le hbl hbr.size
        subst hAe
        clear hcells hy hcase
        skip
        go_upto_region 5 with (at_builtin; go_must (
          refine wpl_appendS _ rfl (.const (.slice none 0 0)) (.tmp 23) 49 rfl w.heap.size 9 _ 16 Try.underlying49 infoS rfl (.slice none 0 0) ([] : List ByteArray) rfl (Ow.nil_ _ _ _) (some ⟨b, off, none⟩) k c (xs.take k) rfl HNIL.out (HST.out.below hbr) (by simp; omega) (by omega) hbr.size ?_
          intro v5 w5 ho5 hu5
          rw [List.nil_append] at ho5
          have HB5 := Lib.hid (hu5.belowBase (Ow.nil_ _ _ 9 : Ow wr w.heap.size 9 (.slice none 0 0) ([] : List ByteArray)) hbr hbr.size)
          have HO5 := Lib.hid ho5
          clear ho5 hu5))
        go_upto_region 6 with (at_builtin; go_must (
          refine wpl_append1 _ rfl (.tmp 25) (.tmp 27) 49 rfl w.heap.size 9 _ 16 Try.underlying49 infoS rfl _ (xs.take k) rfl (HO5.out.alloc _) _ x rfl (fun j u hu => cells_new _ _ _ _ _ (by simp) u hu) (by omega) (by omega) (by rw [World.size_alloc]; have := HB5.out.size; omega) ?_
          intro v6 w6 ho6 hu6
          have hb6 := hu6.belowBase (HO5.out.alloc _) (HB5.out.alloc HB5.out.size _) (by rw [World.size_alloc]; have := HB5.out.size; omega)
          have HO6 := Lib.hid ho6
          have HB6 := Lib.hid hb6
          clear ho6 hu6 hb6))
        go_wp2_with (at_builtin; go_must (
          refine wpl_appendS _ rfl (.tmp 29) (.tmp 32) 49 rfl w.heap.size 9 _ 16 Try.underlying49 infoS rfl _ (xs.take k ++ [x]) rfl HO6.out AF nf cf (xs.drop k) rfl HNF.out (HSF.out.below HB6.out) (by omega) (by omega) HB6.out.size ?_
          intro v8 w8 ho8 hu8
          have HB8 := Lib.hid (hu8.belowBase HO6.out HB6.out HB6.out.size)
          have HO8 := Lib.hid ho8
          clear ho8 hu8))
        go_ret
        exact ⟨_, rfl, by rw [HI.out]; exact HO8.out, HB8.out⟩
      · obtain rfl : n = k := by omega
        have hkk : ¬ ((n : Int) < (n : Int)) := by omega
        clear hcase
        skip
        go_upto_region 5 with (at_builtin; go_must (
          refine wpl_appendS _ rfl (.const (.slice none 0 0)) (.tmp 23) 49 rfl w.heap.size 9 _ 16 Try.underlying49 infoS rfl (.slice none 0 0) ([] : List ByteArray) rfl (Ow.nil_ _ _ _) A n c (xs.take n) rfl HNIL.out (HST.out.below hbr) (by simp; omega) (by omega) hbr.size ?_
          intro v5 w5 ho5 hu5
          rw [List.nil_append] at ho5
          have HB5 := Lib.hid (hu5.belowBase (Ow.nil_ _ _ 9 : Ow wr w.heap.size 9 (.slice none 0 0) ([] : List ByteArray)) hbr hbr.size)
          have HO5 := Lib.hid ho5
          clear ho5 hu5))
        go_upto_region 6 with (at_builtin; go_must (
          refine wpl_append1 _ rfl (.tmp 25) (.tmp 27) 49 rfl w.heap.size 9 _ 16 Try.underlying49 infoS rfl _ (xs.take n) rfl (HO5.out.alloc _) _ x rfl (fun j u hu => cells_new _ _ _ _ _ (by simp) u hu) (by omega) (by omega) (by rw [World.size_alloc]; have := HB5.out.size; omega) ?_
          intro v6 w6 ho6 hu6
          have hb6 := hu6.belowBase (HO5.out.alloc _) (HB5.out.alloc HB5.out.size _) (by rw [World.size_alloc]; have := HB5.out.size; omega)
          have HO6 := Lib.hid ho6
          have HB6 := Lib.hid hb6
          clear ho6 hu6 hb6))
        go_wp2_with (at_builtin; go_must (
          refine wpl_appendS _ rfl (.tmp 29) (.tmp 32) 49 rfl w.heap.size 9 _ 16 Try.underlying49 infoS rfl _ (xs.take n ++ [x]) rfl HO6.out AF nf cf (xs.drop n) rfl HNF.out (HSF.out.below HB6.out) (by omega) (by omega) HB6.out.size ?_
          intro v8 w8 ho8 hu8
          have HB8 := Lib.hid (hu8.belowBase HO6.out HB6.out HB6.out.size)
          have HO8 := Lib.hid ho8
          clear ho8 hu8))
        go_ret
        exact ⟨_, rfl, by rw [HI.out]; exact HO8.out, HB8.out⟩
end Cu
end Go.Proofs.Yteaanngagcflhaa
