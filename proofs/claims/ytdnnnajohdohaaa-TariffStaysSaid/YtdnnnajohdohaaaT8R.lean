/-
  Bands: both Check. No condition.
-/
import Derived.Test.YtdnnnajohdohaaaT8Q
import Derived.Test.YtdnnnajohdohaaaSlc
import Derived.BigQuiet
import Derived.StillTailTactics
import Derived.Lib.Overlaps
import Derived.Deep.DeepCutAuto
import Derived.Deep.RegionWith
import Derived.Laws.RangeAny
set_option maxRecDepth 100000
set_option linter.unusedVariables false
set_option linter.unusedSimpArgs false
namespace Go.Proofs.Ytdnnnajohdohaaa
open Go.RowKit

namespace Cv
open Xp Ck
/-- the first error of n trials -/
def firstE : Nat → (Nat → Int) → Int
  | 0, _ => 0
  | n + 1, f => if f 0 ≠ 0 then f 0 else firstE n (fun i => f (i + 1))
theorem firstE_bad : ∀ (n k : Nat) (f : Nat → Int) (e : Int), (∀ j, j < k → f j = 0) → k < n → f k = e → e ≠ 0 → firstE n f = e
  | 0, k, f, e, _, hk, _, _ => absurd hk (by omega)
  | n + 1, 0, f, e, _, _, hf, he => by rw [firstE, hf, if_pos he]
  | n + 1, k + 1, f, e, h, hk, hf, he => by
    rw [firstE, if_neg (by rw [h 0 (by omega)]; simp)]
    exact firstE_bad n k (fun i => f (i + 1)) e (fun j hj => h (j + 1) (by omega)) (by omega) hf he
theorem firstE_ok : ∀ (n : Nat) (f : Nat → Int), (∀ j, j < n → f j = 0) → firstE n f = 0
  | 0, _, _ => rfl
  | n + 1, f, h => by
    rw [firstE, if_neg (by rw [h 0 (by omega)]; simp)]
    exact firstE_ok n _ (fun j hj => h (j + 1) (by omega))
theorem zero_step {f : Nat → Int} {k : Nat} (h : ∀ j, j < k → f j = 0) (hk : f k = 0) : ∀ j, j < k + 1 → f j = 0 := fun j hj => by
  by_cases hjk : j < k
  · exact h j hjk
  · obtain rfl : j = k := by omega
    exact hk
/-- the error of the band i -/
def bandE (S : Nm → List Slt) (bs : List Nm) (i : Nat) : Int :=
  match bs[i]? with
  | none => 0
  | some b => if nameB b.name = false then 8 else if (bs.take i).any (nmEq b.name) = true then 10 else if i + 1 = bs.length then (if 0 < b.n then 8 else 0) else slotsE (S b)
def bandsE (S : Nm → List Slt) (bs : List Nm) : Int := if bs.length = 0 then 8 else if 64 < bs.length then 5 else firstE bs.length (bandE S bs)
theorem bandE_name {S : Nm → List Slt} {bs : List Nm} {i : Nat} {b : Nm} (h : bs[i]? = some b) (hn : nameB b.name = false) : bandE S bs i = 8 := by simp only [bandE, h, hn, if_true]
theorem bandE_twice {S : Nm → List Slt} {bs : List Nm} {i : Nat} {b : Nm} (h : bs[i]? = some b) (hn : nameB b.name = true) (ht : (bs.take i).any (nmEq b.name) = true) : bandE S bs i = 10 := by
  simp only [bandE, h, hn, ht, if_true]; rfl
theorem bandE_last {S : Nm → List Slt} {bs : List Nm} {i : Nat} {b : Nm} (h : bs[i]? = some b) (hn : nameB b.name = true) (ht : (bs.take i).any (nmEq b.name) = false) (hl : i + 1 = bs.length) : bandE S bs i = if 0 < b.n then 8 else 0 := by
  simp only [bandE, h]
  rw [if_neg (by rw [hn]; simp), if_neg (by rw [ht]; simp), if_pos hl]
theorem bandE_slots {S : Nm → List Slt} {bs : List Nm} {i : Nat} {b : Nm} (h : bs[i]? = some b) (hn : nameB b.name = true) (ht : (bs.take i).any (nmEq b.name) = false) (hl : i + 1 ≠ bs.length) : bandE S bs i = slotsE (S b) := by
  simp only [bandE, h]
  rw [if_neg (by rw [hn]; simp), if_neg (by rw [ht]; simp), if_neg hl]
theorem bandsE_zero {S : Nm → List Slt} {bs : List Nm} (h : bs.length = 0) : bandsE S bs = 8 := by rw [bandsE, if_pos h]
theorem bandsE_long {S : Nm → List Slt} {bs : List Nm} (h : 64 < bs.length) : bandsE S bs = 5 := by rw [bandsE, if_neg (by omega), if_pos h]
theorem bandsE_mid {S : Nm → List Slt} {bs : List Nm} (h0 : bs.length ≠ 0) (h64 : ¬ 64 < bs.length) : bandsE S bs = firstE bs.length (bandE S bs) := by rw [bandsE, if_neg h0, if_neg h64]
theorem bandsE_bad {S : Nm → List Slt} {bs : List Nm} (h0 : bs.length ≠ 0) (h64 : ¬ 64 < bs.length) {k : Nat} {e : Int} (ha : ∀ j, j < k → bandE S bs j = 0) (hk : k < bs.length) (he : bandE S bs k = e) (hne : e ≠ 0) : bandsE S bs = e := by
  rw [bandsE_mid h0 h64]; exact firstE_bad _ _ _ _ ha hk he hne
theorem bandsE_ok {S : Nm → List Slt} {bs : List Nm} (h0 : bs.length ≠ 0) (h64 : ¬ 64 < bs.length) (ha : ∀ j, j < bs.length → bandE S bs j = 0) : bandsE S bs = 0 := by
  rw [bandsE_mid h0 h64]; exact firstE_ok _ _ ha
set_option maxHeartbeats 8000000 in
theorem bandscheck_any (S : Nm → List Slt) (A : Option Addr) (n c : Nat) (bs : List Nm) (w : World) (h : Sl w A n c bs) (hS : ∀ x ∈ bs, Sl w x.A x.n x.c (S x)) (hstr : ∀ x ∈ bs, x.name.size ≤ maxLen) :
    Calls Try.prog 38 #[.slice A n c] w fun e w' => e = .returned (.int .i64 (bandsE S bs)) ∧ Below w.heap.size w w' := by
  have hn := h.nmax
  have hlen := h.len
  have H := Lib.hid h
  have HS := Lib.hid hS
  have HSTR := Lib.hid hstr
  clear h hS hstr
  by_cases h0 : n = 0
  · have hz : ((n : Int) == 0) = true := by rw [beq_iff_eq]; omega
    have HE := Lib.hid (bandsE_zero (S := S) (bs := bs) (by omega))
    clear h0
    go_enter Try.func38, Try.ntmps38
    go_wp2_with fail
    go_ret
    exact ⟨ret_int HE.out.symm, Below.refl _ _⟩
  have hz : ((n : Int) == 0) = false := by rw [beq_eq_false_iff_ne]; omega
  by_cases h64 : (64 : Int) < (n : Int)
  · have HE := Lib.hid (bandsE_long (S := S) (bs := bs) (by omega))
    go_enter Try.func38, Try.ntmps38
    go_wp2_with fail
    go_ret
    exact ⟨ret_int HE.out.symm, Below.refl _ _⟩
  have hz0 : bs.length ≠ 0 := by omega
  have h64n : ¬ 64 < bs.length := by omega
  have HZ := Lib.hid hz0
  have HLEN := Lib.hid hlen
  go_enter Try.func38, Try.ntmps38
  go_wp2_with fail
  go_loopw [14] (fun i wr => ∃ k : Nat, k ≤ n ∧ i = .int .i64 k ∧ Below w.heap.size w wr ∧ ∀ j, j < k → bandE S bs j = 0) (fun i _ => n - (intOf i).toNat)
  case atStart => exact ⟨0, Nat.zero_le _, rfl, Below.refl _ _, fun j hj => absurd hj (by omega)⟩
  case round =>
    obtain ⟨k, hk, rfl, hb, ha⟩ := hrel
    have HA := Lib.hid ha
    clear ha
    by_cases hlt : k < n
    · obtain ⟨b, off, rfl, hbl, hcells⟩ := H.out.baseIn hb (by omega)
      obtain ⟨x, hx⟩ := H.out.get hlt
      have e0 : wr.cell? ⟨b, off + k * 2, none⟩ = some (.string x.name) := Sl.at_ hcells hx 0 rfl
      have e1 : wr.cell? ⟨b, off + k * 2 + 1, none⟩ = some (.slice x.A x.n x.c) := Sl.at_ hcells hx 1 rfl
      have hbw : b < wr.heap.size := by have := hb.size; omega
      have HX := Lib.hid hx
      have hmem := List.mem_of_getElem? hx
      have hsx := HSTR.out x hmem
      have HSX := Lib.hid (HS.out x hmem)
      have hxn := HSX.out.nmax
      have hkL : k < bs.length := by omega
      have HKL := Lib.hid hkL
      clear hcells hx hmem hkL
      have hslice : ∀ W, (Instr.slice 28 (.slice (some ⟨b, off, none⟩) n c) none (some (.int .i64 (k : Int))) none).run Try.prog W = .ok (.slice (some ⟨b, off, none⟩) k c) W := fun W => run_slice_to (sz := 2) (by kernel_rfl) (by kernel_rfl) (by have := H.out.le; omega) W
      go_upto_region 8 with (fail)
      (obtain ⟨V, hWV, hbV, hzV, f1V, mfa⟩ := box1 wr #[.string x.name, .slice x.A x.n x.c] 70; rw [← hWV]; have ma0 : V.cell? ⟨wr.heap.size, 0, none⟩ = some (.string x.name) := f1V 0 _ rfl; have ma1 : V.cell? ⟨wr.heap.size, 1, none⟩ = some (.slice x.A x.n x.c) := f1V 1 _ rfl; clear hWV f1V)
      have hbT := hb.trans (hbV.mono hb.size)
      have hzV2 : wr.heap.size < V.heap.size := hzV
      clear e0 e1 hbV
      go_wp2_with fail
      refine (bname_any x.name _ hsx).mono ?_
      rintro e w' ⟨rfl, rfl⟩
      cases hnm : nameB x.name
      · have HNM := Lib.hid hnm
        clear hnm
        go_wp2_with fail
        go_ret
        exact ⟨ret_int (bandsE_bad HZ.out h64n HA.out HKL.out (bandE_name HX.out HNM.out) (by decide)).symm, hbT⟩
      · have HNM := Lib.hid hnm
        clear hnm
        go_wp2_with fail
        refine (bcontains_any wr.heap.size x.name _ k c (bs.take k) _ ((H.out.below hbT).takeK (by omega)) hzV2 ma0).mono ?_
        rintro e w3 ⟨rfl, hb3⟩
        cases htw : (bs.take k).any (nmEq x.name)
        · have HTW := Lib.hid htw
          clear htw
          have hzT := hbT.size
          (have hzhb3 := hb3.size; replace ma0 := (hb3.cell (p := ⟨_, _, none⟩) (by (try dsimp only) <;> omega)).trans ma0; replace ma1 := (hb3.cell (p := ⟨_, _, none⟩) (by (try dsimp only) <;> omega)).trans ma1; replace hbT := Below.trans hbT (Below.mono hb3 (by omega)))
          by_cases hl : k + 1 = n
          · have HL := Lib.hid (bandE_last (S := S) HX.out HNM.out HTW.out (by rw [HLEN.out]; exact hl))
            have q1 : ((k : Int) == (n : Int) - 1) = true := by rw [beq_iff_eq]; omega
            have hw1 : IntKind.i64.wrap ((n : Int) - 1) = (n : Int) - 1 := IntWalk.i64_in _ (by omega)
            by_cases hp : (0 : Int) < (x.n : Int)
            · have HP := Lib.hid (HL.out.trans (if_pos (by omega)))
              clear hl
              go_wp2_with fail
              go_ret
              exact ⟨ret_int (bandsE_bad HZ.out h64n HA.out HKL.out (HP.out) (by decide)).symm, hbT⟩
            · have HP := Lib.hid (HL.out.trans (if_neg (by omega)))
              clear hl
              go_wp2_with fail
              go_roundw
              case rel => exact ⟨k + 1, by omega, by go_num, hbT, zero_step HA.out (HP.out)⟩
              case measure => simp [intOf]; omega
          · have HL := Lib.hid (bandE_slots (S := S) HX.out HNM.out HTW.out (by rw [HLEN.out]; exact hl))
            have q1 : ((k : Int) == (n : Int) - 1) = false := by rw [beq_eq_false_iff_ne]; omega
            have hw1 : IntKind.i64.wrap ((n : Int) - 1) = (n : Int) - 1 := IntWalk.i64_in _ (by omega)
            go_wp2_with fail
            refine (slots_any x.A x.n x.c (S x) _ (HSX.out.below hbT)).mono ?_
            rintro e w4 ⟨rfl, hb4⟩
            replace hbT := hbT.trans (hb4.mono hbT.size)
            obtain ⟨y, hy⟩ : ∃ y, slotsE (S x) = y := ⟨_, rfl⟩
            rw [hy] at HL ⊢
            by_cases hy0 : y = 0
            · subst hy0
              go_wp2_with fail
              go_roundw
              case rel => exact ⟨k + 1, by omega, by go_num, hbT, zero_step HA.out (HL.out)⟩
              case measure => simp [intOf]; omega
            · have q5 : (y != 0) = true := by simpa using hy0
              have HY0 := Lib.hid hy0
              clear hy0 hy
              go_wp2_with fail
              go_ret
              exact ⟨ret_int (bandsE_bad HZ.out h64n HA.out HKL.out HL.out HY0.out).symm, hbT⟩
        · have HTW := Lib.hid htw
          clear htw
          replace hbT := hbT.trans (hb3.mono hbT.size)
          go_wp2_with fail
          go_ret
          exact ⟨ret_int (bandsE_bad HZ.out h64n HA.out HKL.out (bandE_twice HX.out HNM.out HTW.out) (by decide)).symm, hbT⟩
    · obtain rfl : n = k := by omega
      have HV := Lib.hid (bandsE_ok (S := S) HZ.out h64n (by rw [HLEN.out]; exact HA.out))
      have hkn : ¬ ((n : Int) < (n : Int)) := by omega
      go_wp2_with fail
      go_ret
      exact ⟨ret_int HV.out.symm, hb⟩
set_option maxHeartbeats 8000000 in
theorem refbands_any (S : Nm → List Slt) (A : Option Addr) (n c : Nat) (bs : List Nm) (w : World) (h : Sl w A n c bs) (hS : ∀ x ∈ bs, Sl w x.A x.n x.c (S x)) (hstr : ∀ x ∈ bs, x.name.size ≤ maxLen) :
    Calls Try.prog 43 #[.slice A n c] w fun e w' => e = .returned (.int .i64 (bandsE S bs)) ∧ Below w.heap.size w w' := by
  have hn := h.nmax
  have hlen := h.len
  have H := Lib.hid h
  have HS := Lib.hid hS
  have HSTR := Lib.hid hstr
  clear h hS hstr
  by_cases h0 : n = 0
  · have hz : ((n : Int) == 0) = true := by rw [beq_iff_eq]; omega
    have HE := Lib.hid (bandsE_zero (S := S) (bs := bs) (by omega))
    clear h0
    go_enter Try.func43, Try.ntmps43
    go_wp2_with fail
    go_ret
    exact ⟨ret_int HE.out.symm, Below.refl _ _⟩
  have hz : ((n : Int) == 0) = false := by rw [beq_eq_false_iff_ne]; omega
  by_cases h64 : (64 : Int) < (n : Int)
  · have HE := Lib.hid (bandsE_long (S := S) (bs := bs) (by omega))
    go_enter Try.func43, Try.ntmps43
    go_wp2_with fail
    go_ret
    exact ⟨ret_int HE.out.symm, Below.refl _ _⟩
  have hz0 : bs.length ≠ 0 := by omega
  have h64n : ¬ 64 < bs.length := by omega
  have HZ := Lib.hid hz0
  have HLEN := Lib.hid hlen
  go_enter Try.func43, Try.ntmps43
  go_wp2_with fail
  go_loopw [3] (fun i wr => ∃ k : Nat, k ≤ n ∧ i = .int .i64 k ∧ Below w.heap.size w wr ∧ ∀ j, j < k → bandE S bs j = 0) (fun i _ => n - (intOf i).toNat)
  case atStart => exact ⟨0, Nat.zero_le _, rfl, Below.refl _ _, fun j hj => absurd hj (by omega)⟩
  case round =>
    obtain ⟨k, hk, rfl, hb, ha⟩ := hrel
    have HA := Lib.hid ha
    clear ha
    by_cases hlt : k < n
    · obtain ⟨b, off, rfl, hbl, hcells⟩ := H.out.baseIn hb (by omega)
      obtain ⟨x, hx⟩ := H.out.get hlt
      have e0 : wr.cell? ⟨b, off + k * 2, none⟩ = some (.string x.name) := Sl.at_ hcells hx 0 rfl
      have e1 : wr.cell? ⟨b, off + k * 2 + 1, none⟩ = some (.slice x.A x.n x.c) := Sl.at_ hcells hx 1 rfl
      have hbw : b < wr.heap.size := by have := hb.size; omega
      have HX := Lib.hid hx
      have hmem := List.mem_of_getElem? hx
      have hsx := HSTR.out x hmem
      have HSX := Lib.hid (HS.out x hmem)
      have hxn := HSX.out.nmax
      have hkL : k < bs.length := by omega
      have HKL := Lib.hid hkL
      clear hcells hx hmem hkL
      go_wp2_with fail
      refine (ref5name_any x.name _ hsx).mono ?_
      rintro e w2 ⟨rfl, hb2⟩
      replace hb := hb.trans (hb2.mono hb.size)
      have e0' := (hb2.cell (p := ⟨b, off + k * 2, none⟩) hbw).trans e0
      have e1' := (hb2.cell (p := ⟨b, off + k * 2 + 1, none⟩) hbw).trans e1
      clear e1
      cases hnm : nameB x.name
      · have HNM := Lib.hid hnm
        clear hnm
        go_wp2_with fail
        go_ret
        exact ⟨ret_int (bandsE_bad HZ.out h64n HA.out HKL.out (bandE_name HX.out HNM.out) (by decide)).symm, hb⟩
      · have HNM := Lib.hid hnm
        clear hnm e0
        go_wp2_with fail
        go_loopw [4] (fun i wi => ∃ q : Nat, q ≤ k ∧ i = .int .i64 q ∧ Below w2.heap.size w2 wi ∧ (bs.take q).any (nmEq x.name) = false) (fun i _ => k - (intOf i).toNat)
        case atStart => exact ⟨0, Nat.zero_le _, rfl, Below.refl _ _, rfl⟩
        case round =>
          obtain ⟨q, hq, rfl, hbi, ht⟩ := hrel
          have HT := Lib.hid ht
          clear ht
          have hbT := hb.trans (hbi.mono hb.size)
          have d0 : wr.cell? ⟨b, off + k * 2, none⟩ = some (.string x.name) := (hbi.cell (p := ⟨b, off + k * 2, none⟩) (show b < w2.heap.size by have := hb.size; omega)).trans e0'
          by_cases hltq : q < k
          · obtain ⟨b2, off2, hbo, hbl2, hcells⟩ := H.out.baseIn hbT (by omega)
            cases hbo
            obtain ⟨y, hy⟩ := H.out.get (k := q) (by omega)
            have f0 : wr.cell? ⟨b, off + q * 2, none⟩ = some (.string y.name) := Sl.at_ hcells hy 0 rfl
            have HYX := Lib.hid hy
            clear hcells hy
            cases hq1 : (y.name.toList == x.name.toList)
            · have HN : Hid (nmEq x.name y = false) := Lib.hid hq1
              go_upto_region 13 with (fail)
              ((with_reducible refine wp_region_quiet_lit ?_ ?_ ?_); kernel_rfl; kernel_rfl; (repeat (any_goals (first | go_big_quiet_step (fail) | (refine wpQuiet_step (fun K hK => ?_); go_simp; (first | (refine hK _ ?_; clear hK K) | (split <;> rename_i hg <;> (refine hK _ ?_; clear hK K) <;> (try simp only [Bool.not_eq_true] at hg) <;> (first | simp only [Int.not_lt.2 hg, decide_false] | simp only [Int.not_le.1 hg, decide_true] | simp only [hg, decide_true, decide_false] | skip))))))); all_goals (refine wpQuiet_nil ?_; intro _ hw'; obtain ⟨nq, hw''⟩ := hw'; subst hw''))
              go_wp2_with fail
              go_roundw
              case rel =>
                refine ⟨q + 1, by omega, by go_num, below_drewN hbi _, ?_⟩
                rw [List.take_add_one, HYX.out, List.any_append, HT.out]
                simp [HN.out]
              case measure => simp [intOf]; omega
            · have HN : Hid ((bs.take k).any (nmEq x.name) = true) := Lib.hid (List.any_eq_true.2 ⟨y, List.mem_iff_getElem?.2 ⟨q, by rw [List.getElem?_take, if_pos hltq]; exact HYX.out⟩, hq1⟩)
              go_upto_region 13 with (fail)
              ((with_reducible refine wp_region_quiet_lit ?_ ?_ ?_); kernel_rfl; kernel_rfl; (repeat (any_goals (first | go_big_quiet_step (fail) | (refine wpQuiet_step (fun K hK => ?_); go_simp; (first | (refine hK _ ?_; clear hK K) | (split <;> rename_i hg <;> (refine hK _ ?_; clear hK K) <;> (try simp only [Bool.not_eq_true] at hg) <;> (first | simp only [Int.not_lt.2 hg, decide_false] | simp only [Int.not_le.1 hg, decide_true] | simp only [hg, decide_true, decide_false] | skip))))))); all_goals (refine wpQuiet_nil ?_; intro _ hw'; obtain ⟨nq, hw''⟩ := hw'; subst hw''))
              go_wp2_with fail
              go_ret
              exact ⟨ret_int (bandsE_bad HZ.out h64n HA.out HKL.out (bandE_twice HX.out HNM.out HN.out) (by decide)).symm, below_drewN hbT _⟩
          · obtain rfl : k = q := by omega
            have hkk : ¬ ((k : Int) < (k : Int)) := by omega
            have d1 : wr.cell? ⟨b, off + k * 2 + 1, none⟩ = some (.slice x.A x.n x.c) := (hbi.cell (p := ⟨b, off + k * 2 + 1, none⟩) (show b < w2.heap.size by have := hb.size; omega)).trans e1'
            have hw1 : IntKind.i64.wrap ((k : Int) + 1) = (k : Int) + 1 := IntWalk.i64_in _ (by omega)
            by_cases hl : k + 1 = n
            · have HL := Lib.hid (bandE_last (S := S) HX.out HNM.out HT.out (by rw [HLEN.out]; exact hl))
              have q1 : ((k : Int) + 1 == (n : Int)) = true := by rw [beq_iff_eq]; omega
              clear hl
              go_wp2_with fail
              refine (refslots_last x.A x.n x.c _).mono ?_
              rintro e w4 ⟨rfl, hb4⟩
              replace hbT := hbT.trans (hb4.mono hbT.size)
              obtain ⟨y, hy⟩ : ∃ y, (if 0 < x.n then (8 : Int) else 0) = y := ⟨_, rfl⟩
              rw [hy] at HL ⊢
              by_cases hy0 : y = 0
              · subst hy0
                go_wp2_with fail
                go_roundw
                case rel => exact ⟨k + 1, by omega, by go_num, hbT, zero_step HA.out (HL.out)⟩
                case measure => simp [intOf]; omega
              · have q5 : (y != 0) = true := by simpa using hy0
                have HY0 := Lib.hid hy0
                clear hy0 hy
                go_wp2_with fail
                go_ret
                exact ⟨ret_int (bandsE_bad HZ.out h64n HA.out HKL.out HL.out HY0.out).symm, hbT⟩
            · have HL := Lib.hid (bandE_slots (S := S) HX.out HNM.out HT.out (by rw [HLEN.out]; exact hl))
              have q1 : ((k : Int) + 1 == (n : Int)) = false := by rw [beq_eq_false_iff_ne]; omega
              clear hl
              go_wp2_with fail
              refine (refslots_any x.A x.n x.c (S x) _ (HSX.out.below hbT)).mono ?_
              rintro e w4 ⟨rfl, hb4⟩
              replace hbT := hbT.trans (hb4.mono hbT.size)
              obtain ⟨y, hy⟩ : ∃ y, slotsE (S x) = y := ⟨_, rfl⟩
              rw [hy] at HL ⊢
              by_cases hy0 : y = 0
              · subst hy0
                go_wp2_with fail
                go_roundw
                case rel => exact ⟨k + 1, by omega, by go_num, hbT, zero_step HA.out (HL.out)⟩
                case measure => simp [intOf]; omega
              · have q5 : (y != 0) = true := by simpa using hy0
                have HY0 := Lib.hid hy0
                clear hy0 hy
                go_wp2_with fail
                go_ret
                exact ⟨ret_int (bandsE_bad HZ.out h64n HA.out HKL.out HL.out HY0.out).symm, hbT⟩
    · obtain rfl : n = k := by omega
      have HV := Lib.hid (bandsE_ok (S := S) HZ.out h64n (by rw [HLEN.out]; exact HA.out))
      have hkn : ¬ ((n : Int) < (n : Int)) := by omega
      go_wp2_with fail
      go_ret
      exact ⟨ret_int HV.out.symm, hb⟩
end Cv
end Go.Proofs.Ytdnnnajohdohaaa
