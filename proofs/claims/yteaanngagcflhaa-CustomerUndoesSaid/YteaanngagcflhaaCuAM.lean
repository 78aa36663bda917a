/-
  Customers: Insert, of the program and of the reference. No condition.
-/
import Derived.Test.YteaanngagcflhaaCuAN
import Derived.Test.YteaanngagcflhaaCuAI
import Derived.Test.YteaanngagcflhaaCuC
import Derived.Test.YteaanngagcflhaaCuD
import Derived.Test.YteaanngagcflhaaMixS
import Derived.BigQuiet
import Derived.StillTailTactics
import Derived.Lib.Overlaps
import Derived.Deep.DeepCutAuto
import Derived.Deep.RegionWith
import Derived.Laws.RangeAny
set_option maxRecDepth 100000
set_option linter.unusedVariables false
set_option linter.unusedSimpArgs false
namespace Go.Proofs.Yteaanngagcflhaa
open Go.RowKit

namespace Cu
set_option maxHeartbeats 8000000 in
theorem Insert_any_x (A : Option Addr) (n c : Nat) (l : List Ev) (e : Ev) (x : Int) (w : World) (hx : (chkL (insL l e)).2 = x) (hs : Sl w A n c l) (hA : A = none → c = 0) (hz : SzOk l) (hez : e.num.size ≤ maxLen ∧ e.name.size ≤ maxLen) (hn : n ≤ 900) :
    Calls Try.prog 29 #[.slice A n c, .agg #[.int .i64 e.at_, .int .i64 e.kind, .int .i64 e.acc, .int .i64 e.sub, .string e.num, .string e.name, .int .i64 e.val]] w fun r w' => (∃ A' n' c', r = .returned (.tuple #[.slice A' n' c', .int .i64 x]) ∧ (A' = none → c' = 0) ∧ Sl w' A' n' c' (insR x (insL l e))) ∧ Below w.heap.size w w' := by
  have HX := Lib.hid hx
  clear hx
  have HS := Lib.hid hs
  have HNIL := Lib.hid hA
  have HZI := Lib.hid (insL_sz hz hez)
  have hln := hs.len
  have hnm := hs.nmax
  clear hs hA hz hez
  go_enter Try.func29, Try.ntmps29
  go_upto_region 1 with (fail)
  (obtain ⟨V, hWV, hbV, hzV, f1V, qfa⟩ := box1 w #[.int .i64 e.at_, .int .i64 e.kind, .int .i64 e.acc, .int .i64 e.sub, .string e.num, .string e.name, .int .i64 e.val] 36; rw [← hWV]; have qa0 : V.cell? ⟨w.heap.size, 0, none⟩ = some (.int .i64 e.at_) := f1V 0 _ rfl; have qa1 : V.cell? ⟨w.heap.size, 1, none⟩ = some (.int .i64 e.kind) := f1V 1 _ rfl; have qa2 : V.cell? ⟨w.heap.size, 2, none⟩ = some (.int .i64 e.acc) := f1V 2 _ rfl; have qa3 : V.cell? ⟨w.heap.size, 3, none⟩ = some (.int .i64 e.sub) := f1V 3 _ rfl; have qa4 : V.cell? ⟨w.heap.size, 4, none⟩ = some (.string e.num) := f1V 4 _ rfl; have qa5 : V.cell? ⟨w.heap.size, 5, none⟩ = some (.string e.name) := f1V 5 _ rfl; have qa6 : V.cell? ⟨w.heap.size, 6, none⟩ = some (.int .i64 e.val) := f1V 6 _ rfl; clear hWV f1V)
  go_wp2_with fail
  go_loopw [6] (fun i wr => ∃ k : Nat, k ≤ n ∧ i = .int .i64 k ∧ Below V.heap.size V wr ∧ ∀ (m : Nat) y, m < k → l[m]? = some y → y.at_ ≤ e.at_) (fun i _ => n - (intOf i).toNat)
  case atStart => exact ⟨0, Nat.zero_le _, rfl, Below.refl _ _, fun m y hm => absurd hm (Nat.not_lt_zero _)⟩
  case round =>
    obtain ⟨k, hk, rfl, hbr, hn1⟩ := hrel
    have HN := Lib.hid hn1
    have hbw := hbV.trans (hbr.mono hbV.size)
    have hgr : w.heap.size < wr.heap.size := Nat.lt_of_lt_of_le hzV hbr.size
    clear hn1
    have qr0 := (hbr.cell (p := ⟨w.heap.size, 0, none⟩) hzV).trans qa0
    have qr1 := (hbr.cell (p := ⟨w.heap.size, 1, none⟩) hzV).trans qa1
    have qr2 := (hbr.cell (p := ⟨w.heap.size, 2, none⟩) hzV).trans qa2
    have qr3 := (hbr.cell (p := ⟨w.heap.size, 3, none⟩) hzV).trans qa3
    have qr4 := (hbr.cell (p := ⟨w.heap.size, 4, none⟩) hzV).trans qa4
    have qr5 := (hbr.cell (p := ⟨w.heap.size, 5, none⟩) hzV).trans qa5
    have qr6 := (hbr.cell (p := ⟨w.heap.size, 6, none⟩) hzV).trans qa6
    by_cases hlt : k < n
    · obtain ⟨b0, off, hAe, hbl, hcells⟩ := HS.out.baseIn hbw (by omega)
      obtain ⟨y, hy⟩ := HS.out.get hlt
      have e0 : wr.cell? ⟨b0, off + k * 7, none⟩ = some (.int .i64 y.at_) := Sl.at_ hcells hy 0 rfl
      have hbl2 : b0 < wr.heap.size := Nat.lt_of_lt_of_le hbl hbw.size
      have HY := Lib.hid hy
      subst hAe
      clear hcells hy
      go_upto_region 2 with (fail)
      by_cases hle : y.at_ ≤ e.at_
      · ((with_reducible refine wp_region_quiet_lit ?_ ?_ ?_); kernel_rfl; kernel_rfl; (repeat (any_goals (first | go_big_quiet_step (fail) | (refine wpQuiet_step (fun K hK => ?_); go_simp; (first | (refine hK _ ?_; clear hK K) | (split <;> rename_i hg <;> (refine hK _ ?_; clear hK K) <;> (try simp only [Bool.not_eq_true] at hg) <;> (first | simp only [Int.not_lt.2 hg, decide_false] | simp only [Int.not_le.1 hg, decide_true] | simp only [hg, decide_true, decide_false] | skip))))))); all_goals (refine wpQuiet_nil ?_; intro _ hw'; obtain ⟨nq, hw''⟩ := hw'; subst hw''))
        obtain ⟨wq, hwq⟩ : ∃ wq, wq = wr.drewN nq := ⟨_, rfl⟩
        rw [← hwq]
        have hgq : Below wr.heap.size wr wq := by rw [hwq]; exact below_drewN (Below.refl _ _) _
        clear hwq
        go_wp2_with fail
        go_roundw
        case rel =>
          refine ⟨k + 1, by omega, by go_num, hbr.trans (hgq.mono hbr.size), fun m z hm hz => ?_⟩
          by_cases hmk : m = k
          · subst hmk
            have h2 := HY.out
            rw [hz] at h2
            cases h2
            exact hle
          · exact HN.out m z (by omega) hz
        case measure => simp [intOf]; omega
      · have HCUT := Lib.hid (cutN_eq (t := e.at_) (k := k) (by omega) HN.out (fun z hz => by rw [HY.out] at hz; cases hz; exact hle))
        skip
        ((with_reducible refine wp_region_quiet_lit ?_ ?_ ?_); kernel_rfl; kernel_rfl; (repeat (any_goals (first | go_big_quiet_step (fail) | (refine wpQuiet_step (fun K hK => ?_); go_simp; (first | (refine hK _ ?_; clear hK K) | (split <;> rename_i hg <;> (refine hK _ ?_; clear hK K) <;> (try simp only [Bool.not_eq_true] at hg) <;> (first | simp only [Int.not_lt.2 hg, decide_false] | simp only [Int.not_le.1 hg, decide_true] | simp only [hg, decide_true, decide_false] | skip))))))); all_goals (refine wpQuiet_nil ?_; intro _ hw'; obtain ⟨nq, hw''⟩ := hw'; subst hw''))
        obtain ⟨wq, hwq⟩ : ∃ wq, wq = wr.drewN nq := ⟨_, rfl⟩
        rw [← hwq]
        have hgq : Below wr.heap.size wr wq := by rw [hwq]; exact below_drewN (Below.refl _ _) _
        clear hwq
        clear e0
        have hbq := hbw.trans (hgq.mono hbw.size)
        have hgq2 : w.heap.size < wq.heap.size := Nat.lt_of_lt_of_le hgr hgq.size
        replace qr0 := (hgq.cell (p := ⟨w.heap.size, 0, none⟩) hgr).trans qr0
        replace qr1 := (hgq.cell (p := ⟨w.heap.size, 1, none⟩) hgr).trans qr1
        replace qr2 := (hgq.cell (p := ⟨w.heap.size, 2, none⟩) hgr).trans qr2
        replace qr3 := (hgq.cell (p := ⟨w.heap.size, 3, none⟩) hgr).trans qr3
        replace qr4 := (hgq.cell (p := ⟨w.heap.size, 4, none⟩) hgr).trans qr4
        replace qr5 := (hgq.cell (p := ⟨w.heap.size, 5, none⟩) hgr).trans qr5
        replace qr6 := (hgq.cell (p := ⟨w.heap.size, 6, none⟩) hgr).trans qr6
        have HI := Lib.hid (show insL l e = l.take k ++ [e] ++ l.drop k by unfold insL; rw [HCUT.out])
        have hslT : ∀ W, (Instr.slice 22 (.slice (some ⟨b0, off, none⟩) n c) none (some (.int .i64 (k : Int))) none).run Try.prog W = .ok (.slice (some ⟨b0, off, none⟩) k c) W := fun W => run_slice_to (sz := 7) (by kernel_rfl) (by kernel_rfl) (by have := HS.out.le; omega) W
        have HST := Lib.hid (Sl.takeK HS.out hk)
        have hslF : ∀ W, (Instr.slice 22 (.slice (some ⟨b0, off, none⟩) n c) (some (.int .i64 (k : Int))) none none).run Try.prog W = .ok (.slice (if c = k then some ⟨b0, off, none⟩ else (some ⟨b0, off, none⟩ : Option Addr).map (·.add (k * 7))) (n - k) (c - k)) W := fun W => run_slice_from (sz := 7) (by kernel_rfl) (by kernel_rfl) hk W
        have hsF := Sl.dropG HS.out hk
        obtain ⟨AF, hAF⟩ : ∃ AF : Option Addr, (if c = k then some ⟨b0, off, none⟩ else (some ⟨b0, off, none⟩ : Option Addr).map (·.add (k * 7))) = AF := ⟨_, rfl⟩
        have hAF' : (if c = k then some ⟨b0, off, none⟩ else (some ⟨b0, off, none⟩ : Option Addr).map (·.add (k * Flat.sz Ev))) = AF := hAF
        have hnilF : AF = none → c - k = 0 := fun e => by
          have hcc := HNIL.out
          rw [← hAF] at e
          split at e
          · omega
          · cases e
        rw [hAF] at hslF
        rw [hAF'] at hsF
        have HSF := Lib.hid hsF
        have HNF := Lib.hid hnilF
        have htl : (l.take k).length ≤ 900 := by rw [List.length_take]; omega
        have htl2 : (l.take k ++ [e]).length ≤ 901 := by simp; omega
        obtain ⟨nf, hnf⟩ : ∃ nf, n - k = nf := ⟨_, rfl⟩
        obtain ⟨cf, hcf⟩ : ∃ cf, c - k = cf := ⟨_, rfl⟩
        rw [hnf, hcf] at hslF
        replace HSF := Lib.hid (show Sl w AF nf cf (l.drop k) by have := HSF.out; rw [hnf, hcf] at this; exact this)
        replace HNF := Lib.hid (show AF = none → cf = 0 by have := HNF.out; rw [hcf] at this; exact this)
        have hnfl : nf ≤ 900 := by omega
        clear hAF hAF' hsF hnilF hnf hcf
        obtain ⟨y0, hy0⟩ : ∃ x, (chkL (insL l e)).1 = x := ⟨_, rfl⟩
        have HY0 := Lib.hid hy0
        clear hy0
        go_upto_region 5 with (at_builtin; go_must (
          refine wpl_appendS _ rfl (.const (.slice none 0 0)) (.tmp 28) 22 rfl w.heap.size 36 _ 72 Try.underlying22 infoEv rfl (.slice none 0 0) ([] : List Ev) rfl (Ow.nil_ _ _ _) (some ⟨b0, off, none⟩) k c (l.take k) rfl HNIL.out (HST.out.below hbq) (by simp; omega) (by omega) hbq.size ?_
          intro v5 w5 ho5 hu5
          rw [List.nil_append] at ho5
          have HB5 := Lib.hid (hu5.belowBase (Ow.nil_ _ _ 36 : Ow wq w.heap.size 36 (.slice none 0 0) ([] : List Ev)) hbq hbq.size)
          have hw5 := (hu5.belowBase (Ow.nil_ _ _ 36 : Ow wq wq.heap.size 36 (.slice none 0 0) ([] : List Ev)) (Below.refl _ _) (Nat.le_refl _))
          replace qr0 := (hw5.cell (p := ⟨w.heap.size, 0, none⟩) hgq2).trans qr0; replace qr1 := (hw5.cell (p := ⟨w.heap.size, 1, none⟩) hgq2).trans qr1; replace qr2 := (hw5.cell (p := ⟨w.heap.size, 2, none⟩) hgq2).trans qr2; replace qr3 := (hw5.cell (p := ⟨w.heap.size, 3, none⟩) hgq2).trans qr3; replace qr4 := (hw5.cell (p := ⟨w.heap.size, 4, none⟩) hgq2).trans qr4; replace qr5 := (hw5.cell (p := ⟨w.heap.size, 5, none⟩) hgq2).trans qr5; replace qr6 := (hw5.cell (p := ⟨w.heap.size, 6, none⟩) hgq2).trans qr6
          have hg5 : w.heap.size < w5.heap.size := Nat.lt_of_lt_of_le hgq2 hw5.size
          have HO5 := Lib.hid ho5
          clear ho5 hu5 hw5))
        go_upto_region 6 with (at_builtin; go_must (
          refine wpl_append1 _ rfl (.tmp 30) (.tmp 32) 22 rfl w.heap.size 36 _ 72 Try.underlying22 infoEv rfl _ (l.take k) rfl (HO5.out.alloc _) _ e rfl (fun j u hu => cells_new _ _ _ _ _ (by simp) u hu) (by omega) (by omega) (by rw [World.size_alloc]; have := HB5.out.size; omega) ?_
          intro v6 w6 ho6 hu6
          have hb6 := hu6.belowBase (HO5.out.alloc _) (HB5.out.alloc HB5.out.size _) (by rw [World.size_alloc]; have := HB5.out.size; omega)
          have HO6 := Lib.hid ho6
          have HB6 := Lib.hid hb6
          clear ho6 hu6 hb6))
        go_upto_region 7 with (at_builtin; go_must (
          refine wpl_appendS _ rfl (.tmp 34) (.tmp 37) 22 rfl w.heap.size 36 _ 72 Try.underlying22 infoEv rfl _ (l.take k ++ [e]) rfl HO6.out AF nf cf (l.drop k) rfl HNF.out (HSF.out.below HB6.out) (by omega) (by omega) HB6.out.size ?_
          intro v8 w8 ho8 hu8
          have HB8 := Lib.hid (hu8.belowBase HO6.out HB6.out HB6.out.size)
          rw [← HI.out] at ho8
          obtain ⟨A8, c8, hv8, hn8, hs8⟩ := ho8.slN
          have HN8 := Lib.hid hn8
          have HS8 := Lib.hid hs8
          subst hv8
          clear ho8 hu8 hn8 hs8))
        obtain ⟨n8, hn8⟩ : ∃ n8, (insL l e).length = n8 := ⟨_, rfl⟩
        have hn8b : n8 ≤ 901 := by rw [← hn8, insL_len]; omega
        rw [hn8] at HS8 ⊢
        clear hn8 hslT hslF
        by_cases hx0 : x = 0
        · subst hx0
          go_wp2_with (go_at_call 23; go_must (refine (Check_any A8 n8 c8 (insL l e) _ HS8.out HZI.out).mono ?_; rintro r w9 ⟨rfl, hb9⟩; rw [HX.out, HY0.out]))
          go_ret2
          exact ⟨⟨A8, n8, c8, rfl, HN8.out, HS8.out.below hb9⟩, HB8.out.trans (hb9.mono HB8.out.size)⟩
        · have hxb : (x != 0) = true := by simpa using hx0
          go_wp2_with (go_at_call 23; go_must (refine (Check_any A8 n8 c8 (insL l e) _ HS8.out HZI.out).mono ?_; rintro r w9 ⟨rfl, hb9⟩; rw [HX.out, HY0.out]))
          go_ret2
          exact ⟨⟨none, 0, 0, rfl, fun _ => rfl, by rw [insR_ne hx0]; exact Sl.nil_ _⟩, HB8.out.trans (hb9.mono HB8.out.size)⟩
    · obtain rfl : n = k := by omega
      have hkn : ¬ ((n : Int) < (n : Int)) := by omega
      have HCUT := Lib.hid (cutN_eq (t := e.at_) (k := n) (by omega) HN.out (fun z hz => by have := (List.getElem?_eq_some_iff.1 hz).1; omega))
      go_upto_region 2 with (fail)
      ((with_reducible refine wp_region_quiet_lit ?_ ?_ ?_); kernel_rfl; kernel_rfl; (repeat (any_goals (first | go_big_quiet_step (fail) | (refine wpQuiet_step (fun K hK => ?_); go_simp; (first | (refine hK _ ?_; clear hK K) | (split <;> rename_i hg <;> (refine hK _ ?_; clear hK K) <;> (try simp only [Bool.not_eq_true] at hg) <;> (first | simp only [Int.not_lt.2 hg, decide_false] | simp only [Int.not_le.1 hg, decide_true] | simp only [hg, decide_true, decide_false] | skip))))))); all_goals (refine wpQuiet_nil ?_; intro _ hw'; obtain ⟨nq, hw''⟩ := hw'; subst hw''))
      obtain ⟨wq, hwq⟩ : ∃ wq, wq = wr.drewN nq := ⟨_, rfl⟩
      rw [← hwq]
      have hgq : Below wr.heap.size wr wq := by rw [hwq]; exact below_drewN (Below.refl _ _) _
      clear hwq
      have hbq := hbw.trans (hgq.mono hbw.size)
      have hgq2 : w.heap.size < wq.heap.size := Nat.lt_of_lt_of_le hgr hgq.size
      replace qr0 := (hgq.cell (p := ⟨w.heap.size, 0, none⟩) hgr).trans qr0
      replace qr1 := (hgq.cell (p := ⟨w.heap.size, 1, none⟩) hgr).trans qr1
      replace qr2 := (hgq.cell (p := ⟨w.heap.size, 2, none⟩) hgr).trans qr2
      replace qr3 := (hgq.cell (p := ⟨w.heap.size, 3, none⟩) hgr).trans qr3
      replace qr4 := (hgq.cell (p := ⟨w.heap.size, 4, none⟩) hgr).trans qr4
      replace qr5 := (hgq.cell (p := ⟨w.heap.size, 5, none⟩) hgr).trans qr5
      replace qr6 := (hgq.cell (p := ⟨w.heap.size, 6, none⟩) hgr).trans qr6
      have HI := Lib.hid (show insL l e = l.take n ++ [e] ++ l.drop n by unfold insL; rw [HCUT.out])
      have hslT : ∀ W, (Instr.slice 22 (.slice A n c) none (some (.int .i64 (n : Int))) none).run Try.prog W = .ok (.slice A n c) W := fun W => run_slice_to (sz := 7) (by kernel_rfl) (by kernel_rfl) (by have := HS.out.le; omega) W
      have HST := Lib.hid (Sl.takeK HS.out hk)
      have hslF : ∀ W, (Instr.slice 22 (.slice A n c) (some (.int .i64 (n : Int))) none none).run Try.prog W = .ok (.slice (if c = n then A else A.map (·.add (n * 7))) (n - n) (c - n)) W := fun W => run_slice_from (sz := 7) (by kernel_rfl) (by kernel_rfl) hk W
      have hsF := Sl.dropG HS.out hk
      obtain ⟨AF, hAF⟩ : ∃ AF : Option Addr, (if c = n then A else A.map (·.add (n * 7))) = AF := ⟨_, rfl⟩
      have hAF' : (if c = n then A else A.map (·.add (n * Flat.sz Ev))) = AF := hAF
      have hnilF : AF = none → c - n = 0 := fun e => by
        have hcc := HNIL.out
        rw [← hAF] at e
        split at e
        · omega
        · cases A with
          | none => have := hcc rfl; omega
          | some a => cases e
      rw [hAF] at hslF
      rw [hAF'] at hsF
      have HSF := Lib.hid hsF
      have HNF := Lib.hid hnilF
      have htl : (l.take n).length ≤ 900 := by rw [List.length_take]; omega
      have htl2 : (l.take n ++ [e]).length ≤ 901 := by simp; omega
      obtain ⟨nf, hnf⟩ : ∃ nf, n - n = nf := ⟨_, rfl⟩
      obtain ⟨cf, hcf⟩ : ∃ cf, c - n = cf := ⟨_, rfl⟩
      rw [hnf, hcf] at hslF
      replace HSF := Lib.hid (show Sl w AF nf cf (l.drop n) by have := HSF.out; rw [hnf, hcf] at this; exact this)
      replace HNF := Lib.hid (show AF = none → cf = 0 by have := HNF.out; rw [hcf] at this; exact this)
      have hnfl : nf ≤ 900 := by omega
      clear hAF hAF' hsF hnilF hnf hcf
      obtain ⟨y0, hy0⟩ : ∃ x, (chkL (insL l e)).1 = x := ⟨_, rfl⟩
      have HY0 := Lib.hid hy0
      clear hy0
      go_upto_region 5 with (at_builtin; go_must (
        refine wpl_appendS _ rfl (.const (.slice none 0 0)) (.tmp 28) 22 rfl w.heap.size 36 _ 72 Try.underlying22 infoEv rfl (.slice none 0 0) ([] : List Ev) rfl (Ow.nil_ _ _ _) A n c (l.take n) rfl HNIL.out (HST.out.below hbq) (by simp; omega) (by omega) hbq.size ?_
        intro v5 w5 ho5 hu5
        rw [List.nil_append] at ho5
        have HB5 := Lib.hid (hu5.belowBase (Ow.nil_ _ _ 36 : Ow wq w.heap.size 36 (.slice none 0 0) ([] : List Ev)) hbq hbq.size)
        have hw5 := (hu5.belowBase (Ow.nil_ _ _ 36 : Ow wq wq.heap.size 36 (.slice none 0 0) ([] : List Ev)) (Below.refl _ _) (Nat.le_refl _))
        replace qr0 := (hw5.cell (p := ⟨w.heap.size, 0, none⟩) hgq2).trans qr0; replace qr1 := (hw5.cell (p := ⟨w.heap.size, 1, none⟩) hgq2).trans qr1; replace qr2 := (hw5.cell (p := ⟨w.heap.size, 2, none⟩) hgq2).trans qr2; replace qr3 := (hw5.cell (p := ⟨w.heap.size, 3, none⟩) hgq2).trans qr3; replace qr4 := (hw5.cell (p := ⟨w.heap.size, 4, none⟩) hgq2).trans qr4; replace qr5 := (hw5.cell (p := ⟨w.heap.size, 5, none⟩) hgq2).trans qr5; replace qr6 := (hw5.cell (p := ⟨w.heap.size, 6, none⟩) hgq2).trans qr6
        have hg5 : w.heap.size < w5.heap.size := Nat.lt_of_lt_of_le hgq2 hw5.size
        have HO5 := Lib.hid ho5
        clear ho5 hu5 hw5))
      go_upto_region 6 with (at_builtin; go_must (
        refine wpl_append1 _ rfl (.tmp 30) (.tmp 32) 22 rfl w.heap.size 36 _ 72 Try.underlying22 infoEv rfl _ (l.take n) rfl (HO5.out.alloc _) _ e rfl (fun j u hu => cells_new _ _ _ _ _ (by simp) u hu) (by omega) (by omega) (by rw [World.size_alloc]; have := HB5.out.size; omega) ?_
        intro v6 w6 ho6 hu6
        have hb6 := hu6.belowBase (HO5.out.alloc _) (HB5.out.alloc HB5.out.size _) (by rw [World.size_alloc]; have := HB5.out.size; omega)
        have HO6 := Lib.hid ho6
        have HB6 := Lib.hid hb6
        clear ho6 hu6 hb6))
      go_upto_region 7 with (at_builtin; go_must (
        refine wpl_appendS _ rfl (.tmp 34) (.tmp 37) 22 rfl w.heap.size 36 _ 72 Try.underlying22 infoEv rfl _ (l.take n ++ [e]) rfl HO6.out AF nf cf (l.drop n) rfl HNF.out (HSF.out.below HB6.out) (by omega) (by omega) HB6.out.size ?_
        intro v8 w8 ho8 hu8
        have HB8 := Lib.hid (hu8.belowBase HO6.out HB6.out HB6.out.size)
        rw [← HI.out] at ho8
        obtain ⟨A8, c8, hv8, hn8, hs8⟩ := ho8.slN
        have HN8 := Lib.hid hn8
        have HS8 := Lib.hid hs8
        subst hv8
        clear ho8 hu8 hn8 hs8))
      obtain ⟨n8, hn8⟩ : ∃ n8, (insL l e).length = n8 := ⟨_, rfl⟩
      have hn8b : n8 ≤ 901 := by rw [← hn8, insL_len]; omega
      rw [hn8] at HS8 ⊢
      clear hn8 hslT hslF
      by_cases hx0 : x = 0
      · subst hx0
        go_wp2_with (go_at_call 23; go_must (refine (Check_any A8 n8 c8 (insL l e) _ HS8.out HZI.out).mono ?_; rintro r w9 ⟨rfl, hb9⟩; rw [HX.out, HY0.out]))
        go_ret2
        exact ⟨⟨A8, n8, c8, rfl, HN8.out, HS8.out.below hb9⟩, HB8.out.trans (hb9.mono HB8.out.size)⟩
      · have hxb : (x != 0) = true := by simpa using hx0
        go_wp2_with (go_at_call 23; go_must (refine (Check_any A8 n8 c8 (insL l e) _ HS8.out HZI.out).mono ?_; rintro r w9 ⟨rfl, hb9⟩; rw [HX.out, HY0.out]))
        go_ret2
        exact ⟨⟨none, 0, 0, rfl, fun _ => rfl, by rw [insR_ne hx0]; exact Sl.nil_ _⟩, HB8.out.trans (hb9.mono HB8.out.size)⟩
theorem Insert_any (A : Option Addr) (n c : Nat) (l : List Ev) (e : Ev) (w : World) (hs : Sl w A n c l) (hA : A = none → c = 0) (hz : SzOk l) (hez : e.num.size ≤ maxLen ∧ e.name.size ≤ maxLen) (hn : n ≤ 900) :
    Calls Try.prog 29 #[.slice A n c, .agg #[.int .i64 e.at_, .int .i64 e.kind, .int .i64 e.acc, .int .i64 e.sub, .string e.num, .string e.name, .int .i64 e.val]] w fun r w' => (∃ A' n' c', r = .returned (.tuple #[.slice A' n' c', .int .i64 (chkL (insL l e)).2]) ∧ (A' = none → c' = 0) ∧ Sl w' A' n' c' (insR (chkL (insL l e)).2 (insL l e))) ∧ Below w.heap.size w w' := Insert_any_x A n c l e _ w rfl hs hA hz hez hn
set_option maxHeartbeats 8000000 in
theorem rInsert_any_x (A : Option Addr) (n c : Nat) (l : List Ev) (e : Ev) (x : Int) (w : World) (hx : (chkL (insL l e)).2 = x) (hs : Sl w A n c l) (hA : A = none → c = 0) (hz : SzOk l) (hez : e.num.size ≤ maxLen ∧ e.name.size ≤ maxLen) (hn : n ≤ 900) :
    Calls Try.prog 30 #[.slice A n c, .agg #[.int .i64 e.at_, .int .i64 e.kind, .int .i64 e.acc, .int .i64 e.sub, .string e.num, .string e.name, .int .i64 e.val]] w fun r w' => (∃ A' n' c', r = .returned (.tuple #[.slice A' n' c', .int .i64 x]) ∧ (A' = none → c' = 0) ∧ Sl w' A' n' c' (insR x (insL l e))) ∧ Below w.heap.size w w' := by
  have HX := Lib.hid hx
  clear hx
  have HS := Lib.hid hs
  have HNIL := Lib.hid hA
  have HZI := Lib.hid (insL_sz hz hez)
  have hln := hs.len
  have hnm := hs.nmax
  clear hs hA hz hez
  go_enter Try.func30, Try.ntmps30
  go_upto_region 1 with (fail)
  (obtain ⟨V, hWV, hbV, hzV, f1V, qfa⟩ := box1 w #[.int .i64 e.at_, .int .i64 e.kind, .int .i64 e.acc, .int .i64 e.sub, .string e.num, .string e.name, .int .i64 e.val] 36; rw [← hWV]; have qa0 : V.cell? ⟨w.heap.size, 0, none⟩ = some (.int .i64 e.at_) := f1V 0 _ rfl; have qa1 : V.cell? ⟨w.heap.size, 1, none⟩ = some (.int .i64 e.kind) := f1V 1 _ rfl; have qa2 : V.cell? ⟨w.heap.size, 2, none⟩ = some (.int .i64 e.acc) := f1V 2 _ rfl; have qa3 : V.cell? ⟨w.heap.size, 3, none⟩ = some (.int .i64 e.sub) := f1V 3 _ rfl; have qa4 : V.cell? ⟨w.heap.size, 4, none⟩ = some (.string e.num) := f1V 4 _ rfl; have qa5 : V.cell? ⟨w.heap.size, 5, none⟩ = some (.string e.name) := f1V 5 _ rfl; have qa6 : V.cell? ⟨w.heap.size, 6, none⟩ = some (.int .i64 e.val) := f1V 6 _ rfl; clear hWV f1V)
  go_wp2_with fail
  go_loopw [6] (fun i wr => ∃ k : Nat, k ≤ n ∧ i = .int .i64 k ∧ Below V.heap.size V wr ∧ ∀ (m : Nat) y, m < k → l[m]? = some y → y.at_ ≤ e.at_) (fun i _ => n - (intOf i).toNat)
  case atStart => exact ⟨0, Nat.zero_le _, rfl, Below.refl _ _, fun m y hm => absurd hm (Nat.not_lt_zero _)⟩
  case round =>
    obtain ⟨k, hk, rfl, hbr, hn1⟩ := hrel
    have HN := Lib.hid hn1
    have hbw := hbV.trans (hbr.mono hbV.size)
    have hgr : w.heap.size < wr.heap.size := Nat.lt_of_lt_of_le hzV hbr.size
    clear hn1
    have qr0 := (hbr.cell (p := ⟨w.heap.size, 0, none⟩) hzV).trans qa0
    have qr1 := (hbr.cell (p := ⟨w.heap.size, 1, none⟩) hzV).trans qa1
    have qr2 := (hbr.cell (p := ⟨w.heap.size, 2, none⟩) hzV).trans qa2
    have qr3 := (hbr.cell (p := ⟨w.heap.size, 3, none⟩) hzV).trans qa3
    have qr4 := (hbr.cell (p := ⟨w.heap.size, 4, none⟩) hzV).trans qa4
    have qr5 := (hbr.cell (p := ⟨w.heap.size, 5, none⟩) hzV).trans qa5
    have qr6 := (hbr.cell (p := ⟨w.heap.size, 6, none⟩) hzV).trans qa6
    by_cases hlt : k < n
    · obtain ⟨b0, off, hAe, hbl, hcells⟩ := HS.out.baseIn hbw (by omega)
      obtain ⟨y, hy⟩ := HS.out.get hlt
      have e0 : wr.cell? ⟨b0, off + k * 7, none⟩ = some (.int .i64 y.at_) := Sl.at_ hcells hy 0 rfl
      have hbl2 : b0 < wr.heap.size := Nat.lt_of_lt_of_le hbl hbw.size
      have HY := Lib.hid hy
      subst hAe
      clear hcells hy
      go_upto_region 2 with (fail)
      by_cases hle : y.at_ ≤ e.at_
      · ((with_reducible refine wp_region_quiet_lit ?_ ?_ ?_); kernel_rfl; kernel_rfl; (repeat (any_goals (first | go_big_quiet_step (fail) | (refine wpQuiet_step (fun K hK => ?_); go_simp; (first | (refine hK _ ?_; clear hK K) | (split <;> rename_i hg <;> (refine hK _ ?_; clear hK K) <;> (try simp only [Bool.not_eq_true] at hg) <;> (first | simp only [Int.not_lt.2 hg, decide_false] | simp only [Int.not_le.1 hg, decide_true] | simp only [hg, decide_true, decide_false] | skip))))))); all_goals (refine wpQuiet_nil ?_; intro _ hw'; obtain ⟨nq, hw''⟩ := hw'; subst hw''))
        obtain ⟨wq, hwq⟩ : ∃ wq, wq = wr.drewN nq := ⟨_, rfl⟩
        rw [← hwq]
        have hgq : Below wr.heap.size wr wq := by rw [hwq]; exact below_drewN (Below.refl _ _) _
        clear hwq
        go_wp2_with fail
        go_roundw
        case rel =>
          refine ⟨k + 1, by omega, by go_num, hbr.trans (hgq.mono hbr.size), fun m z hm hz => ?_⟩
          by_cases hmk : m = k
          · subst hmk
            have h2 := HY.out
            rw [hz] at h2
            cases h2
            exact hle
          · exact HN.out m z (by omega) hz
        case measure => simp [intOf]; omega
      · have HCUT := Lib.hid (cutN_eq (t := e.at_) (k := k) (by omega) HN.out (fun z hz => by rw [HY.out] at hz; cases hz; exact hle))
        skip
        ((with_reducible refine wp_region_quiet_lit ?_ ?_ ?_); kernel_rfl; kernel_rfl; (repeat (any_goals (first | go_big_quiet_step (fail) | (refine wpQuiet_step (fun K hK => ?_); go_simp; (first | (refine hK _ ?_; clear hK K) | (split <;> rename_i hg <;> (refine hK _ ?_; clear hK K) <;> (try simp only [Bool.not_eq_true] at hg) <;> (first | simp only [Int.not_lt.2 hg, decide_false] | simp only [Int.not_le.1 hg, decide_true] | simp only [hg, decide_true, decide_false] | skip))))))); all_goals (refine wpQuiet_nil ?_; intro _ hw'; obtain ⟨nq, hw''⟩ := hw'; subst hw''))
        obtain ⟨wq, hwq⟩ : ∃ wq, wq = wr.drewN nq := ⟨_, rfl⟩
        rw [← hwq]
        have hgq : Below wr.heap.size wr wq := by rw [hwq]; exact below_drewN (Below.refl _ _) _
        clear hwq
        clear e0
        have hbq := hbw.trans (hgq.mono hbw.size)
        have hgq2 : w.heap.size < wq.heap.size := Nat.lt_of_lt_of_le hgr hgq.size
        replace qr0 := (hgq.cell (p := ⟨w.heap.size, 0, none⟩) hgr).trans qr0
        replace qr1 := (hgq.cell (p := ⟨w.heap.size, 1, none⟩) hgr).trans qr1
        replace qr2 := (hgq.cell (p := ⟨w.heap.size, 2, none⟩) hgr).trans qr2
        replace qr3 := (hgq.cell (p := ⟨w.heap.size, 3, none⟩) hgr).trans qr3
        replace qr4 := (hgq.cell (p := ⟨w.heap.size, 4, none⟩) hgr).trans qr4
        replace qr5 := (hgq.cell (p := ⟨w.heap.size, 5, none⟩) hgr).trans qr5
        replace qr6 := (hgq.cell (p := ⟨w.heap.size, 6, none⟩) hgr).trans qr6
        have HI := Lib.hid (show insL l e = l.take k ++ [e] ++ l.drop k by unfold insL; rw [HCUT.out])
        have hslT : ∀ W, (Instr.slice 22 (.slice (some ⟨b0, off, none⟩) n c) none (some (.int .i64 (k : Int))) none).run Try.prog W = .ok (.slice (some ⟨b0, off, none⟩) k c) W := fun W => run_slice_to (sz := 7) (by kernel_rfl) (by kernel_rfl) (by have := HS.out.le; omega) W
        have HST := Lib.hid (Sl.takeK HS.out hk)
        have hslF : ∀ W, (Instr.slice 22 (.slice (some ⟨b0, off, none⟩) n c) (some (.int .i64 (k : Int))) none none).run Try.prog W = .ok (.slice (if c = k then some ⟨b0, off, none⟩ else (some ⟨b0, off, none⟩ : Option Addr).map (·.add (k * 7))) (n - k) (c - k)) W := fun W => run_slice_from (sz := 7) (by kernel_rfl) (by kernel_rfl) hk W
        have hsF := Sl.dropG HS.out hk
        obtain ⟨AF, hAF⟩ : ∃ AF : Option Addr, (if c = k then some ⟨b0, off, none⟩ else (some ⟨b0, off, none⟩ : Option Addr).map (·.add (k * 7))) = AF := ⟨_, rfl⟩
        have hAF' : (if c = k then some ⟨b0, off, none⟩ else (some ⟨b0, off, none⟩ : Option Addr).map (·.add (k * Flat.sz Ev))) = AF := hAF
        have hnilF : AF = none → c - k = 0 := fun e => by
          have hcc := HNIL.out
          rw [← hAF] at e
          split at e
          · omega
          · cases e
        rw [hAF] at hslF
        rw [hAF'] at hsF
        have HSF := Lib.hid hsF
        have HNF := Lib.hid hnilF
        have htl : (l.take k).length ≤ 900 := by rw [List.length_take]; omega
        have htl2 : (l.take k ++ [e]).length ≤ 901 := by simp; omega
        obtain ⟨nf, hnf⟩ : ∃ nf, n - k = nf := ⟨_, rfl⟩
        obtain ⟨cf, hcf⟩ : ∃ cf, c - k = cf := ⟨_, rfl⟩
        rw [hnf, hcf] at hslF
        replace HSF := Lib.hid (show Sl w AF nf cf (l.drop k) by have := HSF.out; rw [hnf, hcf] at this; exact this)
        replace HNF := Lib.hid (show AF = none → cf = 0 by have := HNF.out; rw [hcf] at this; exact this)
        have hnfl : nf ≤ 900 := by omega
        clear hAF hAF' hsF hnilF hnf hcf
        obtain ⟨y0, hy0⟩ : ∃ x, (chkL (insL l e)).1 = x := ⟨_, rfl⟩
        have HY0 := Lib.hid hy0
        clear hy0
        have hbD : Below w.heap.size w (wq.alloc (.cells #[] 36)) := hbq.alloc hbq.size _
        go_upto_region 5 with (at_builtin; go_must (
          refine wpl_appendS _ rfl (.tmp 26) (.tmp 29) 22 rfl w.heap.size 36 _ 72 Try.underlying22 infoEv rfl (.slice (some ⟨wq.heap.size, 0, none⟩) 0 0) ([] : List Ev) rfl (lit0 wq _ hbq.size) (some ⟨b0, off, none⟩) k c (l.take k) rfl HNIL.out (HST.out.below hbD) (by simp; omega) (by omega) hbD.size ?_
          intro v5 w5 ho5 hu5
          rw [List.nil_append] at ho5
          have HB5 := Lib.hid (hu5.belowBase (lit0 (α := Ev) wq _ hbq.size) hbD hbD.size)
          have hw5 := (hu5.belowBase (lit0 (α := Ev) wq _ (Nat.le_refl _)) (((Below.refl _ _).alloc (Nat.le_refl _) _ : Below wq.heap.size wq (wq.alloc (.cells #[] 36)))) (by rw [World.size_alloc]; omega))
          replace qr0 := (hw5.cell (p := ⟨w.heap.size, 0, none⟩) hgq2).trans qr0; replace qr1 := (hw5.cell (p := ⟨w.heap.size, 1, none⟩) hgq2).trans qr1; replace qr2 := (hw5.cell (p := ⟨w.heap.size, 2, none⟩) hgq2).trans qr2; replace qr3 := (hw5.cell (p := ⟨w.heap.size, 3, none⟩) hgq2).trans qr3; replace qr4 := (hw5.cell (p := ⟨w.heap.size, 4, none⟩) hgq2).trans qr4; replace qr5 := (hw5.cell (p := ⟨w.heap.size, 5, none⟩) hgq2).trans qr5; replace qr6 := (hw5.cell (p := ⟨w.heap.size, 6, none⟩) hgq2).trans qr6
          have hg5 : w.heap.size < w5.heap.size := Nat.lt_of_lt_of_le hgq2 hw5.size
          have HO5 := Lib.hid ho5
          clear ho5 hu5 hw5))
        go_upto_region 6 with (at_builtin; go_must (
          refine wpl_append1 _ rfl (.tmp 31) (.tmp 33) 22 rfl w.heap.size 36 _ 72 Try.underlying22 infoEv rfl _ (l.take k) rfl (HO5.out.alloc _) _ e rfl (fun j u hu => cells_new _ _ _ _ _ (by simp) u hu) (by omega) (by omega) (by rw [World.size_alloc]; have := HB5.out.size; omega) ?_
          intro v6 w6 ho6 hu6
          have hb6 := hu6.belowBase (HO5.out.alloc _) (HB5.out.alloc HB5.out.size _) (by rw [World.size_alloc]; have := HB5.out.size; omega)
          have HO6 := Lib.hid ho6
          have HB6 := Lib.hid hb6
          clear ho6 hu6 hb6))
        go_upto_region 7 with (at_builtin; go_must (
          refine wpl_appendS _ rfl (.tmp 35) (.tmp 38) 22 rfl w.heap.size 36 _ 72 Try.underlying22 infoEv rfl _ (l.take k ++ [e]) rfl HO6.out AF nf cf (l.drop k) rfl HNF.out (HSF.out.below HB6.out) (by omega) (by omega) HB6.out.size ?_
          intro v8 w8 ho8 hu8
          have HB8 := Lib.hid (hu8.belowBase HO6.out HB6.out HB6.out.size)
          rw [← HI.out] at ho8
          obtain ⟨A8, c8, hv8, hn8, hs8⟩ := ho8.slN
          have HN8 := Lib.hid hn8
          have HS8 := Lib.hid hs8
          subst hv8
          clear ho8 hu8 hn8 hs8))
        obtain ⟨n8, hn8⟩ : ∃ n8, (insL l e).length = n8 := ⟨_, rfl⟩
        have hn8b : n8 ≤ 901 := by rw [← hn8, insL_len]; omega
        rw [hn8] at HS8 ⊢
        clear hn8 hslT hslF
        by_cases hx0 : x = 0
        · subst hx0
          go_wp2_with (go_at_call 24; go_must (refine (rCheck_any A8 n8 c8 (insL l e) _ HS8.out HZI.out (by omega)).mono ?_; rintro r w9 ⟨rfl, hb9⟩; rw [HX.out, HY0.out]))
          go_ret2
          exact ⟨⟨A8, n8, c8, rfl, HN8.out, HS8.out.below hb9⟩, HB8.out.trans (hb9.mono HB8.out.size)⟩
        · have hxb : (x != 0) = true := by simpa using hx0
          go_wp2_with (go_at_call 24; go_must (refine (rCheck_any A8 n8 c8 (insL l e) _ HS8.out HZI.out (by omega)).mono ?_; rintro r w9 ⟨rfl, hb9⟩; rw [HX.out, HY0.out]))
          go_ret2
          exact ⟨⟨none, 0, 0, rfl, fun _ => rfl, by rw [insR_ne hx0]; exact Sl.nil_ _⟩, HB8.out.trans (hb9.mono HB8.out.size)⟩
    · obtain rfl : n = k := by omega
      have hkn : ¬ ((n : Int) < (n : Int)) := by omega
      have HCUT := Lib.hid (cutN_eq (t := e.at_) (k := n) (by omega) HN.out (fun z hz => by have := (List.getElem?_eq_some_iff.1 hz).1; omega))
      go_upto_region 2 with (fail)
      ((with_reducible refine wp_region_quiet_lit ?_ ?_ ?_); kernel_rfl; kernel_rfl; (repeat (any_goals (first | go_big_quiet_step (fail) | (refine wpQuiet_step (fun K hK => ?_); go_simp; (first | (refine hK _ ?_; clear hK K) | (split <;> rename_i hg <;> (refine hK _ ?_; clear hK K) <;> (try simp only [Bool.not_eq_true] at hg) <;> (first | simp only [Int.not_lt.2 hg, decide_false] | simp only [Int.not_le.1 hg, decide_true] | simp only [hg, decide_true, decide_false] | skip))))))); all_goals (refine wpQuiet_nil ?_; intro _ hw'; obtain ⟨nq, hw''⟩ := hw'; subst hw''))
      obtain ⟨wq, hwq⟩ : ∃ wq, wq = wr.drewN nq := ⟨_, rfl⟩
      rw [← hwq]
      have hgq : Below wr.heap.size wr wq := by rw [hwq]; exact below_drewN (Below.refl _ _) _
      clear hwq
      have hbq := hbw.trans (hgq.mono hbw.size)
      have hgq2 : w.heap.size < wq.heap.size := Nat.lt_of_lt_of_le hgr hgq.size
      replace qr0 := (hgq.cell (p := ⟨w.heap.size, 0, none⟩) hgr).trans qr0
      replace qr1 := (hgq.cell (p := ⟨w.heap.size, 1, none⟩) hgr).trans qr1
      replace qr2 := (hgq.cell (p := ⟨w.heap.size, 2, none⟩) hgr).trans qr2
      replace qr3 := (hgq.cell (p := ⟨w.heap.size, 3, none⟩) hgr).trans qr3
      replace qr4 := (hgq.cell (p := ⟨w.heap.size, 4, none⟩) hgr).trans qr4
      replace qr5 := (hgq.cell (p := ⟨w.heap.size, 5, none⟩) hgr).trans qr5
      replace qr6 := (hgq.cell (p := ⟨w.heap.size, 6, none⟩) hgr).trans qr6
      have HI := Lib.hid (show insL l e = l.take n ++ [e] ++ l.drop n by unfold insL; rw [HCUT.out])
      have hslT : ∀ W, (Instr.slice 22 (.slice A n c) none (some (.int .i64 (n : Int))) none).run Try.prog W = .ok (.slice A n c) W := fun W => run_slice_to (sz := 7) (by kernel_rfl) (by kernel_rfl) (by have := HS.out.le; omega) W
      have HST := Lib.hid (Sl.takeK HS.out hk)
      have hslF : ∀ W, (Instr.slice 22 (.slice A n c) (some (.int .i64 (n : Int))) none none).run Try.prog W = .ok (.slice (if c = n then A else A.map (·.add (n * 7))) (n - n) (c - n)) W := fun W => run_slice_from (sz := 7) (by kernel_rfl) (by kernel_rfl) hk W
      have hsF := Sl.dropG HS.out hk
      obtain ⟨AF, hAF⟩ : ∃ AF : Option Addr, (if c = n then A else A.map (·.add (n * 7))) = AF := ⟨_, rfl⟩
      have hAF' : (if c = n then A else A.map (·.add (n * Flat.sz Ev))) = AF := hAF
      have hnilF : AF = none → c - n = 0 := fun e => by
        have hcc := HNIL.out
        rw [← hAF] at e
        split at e
        · omega
        · cases A with
          | none => have := hcc rfl; omega
          | some a => cases e
      rw [hAF] at hslF
      rw [hAF'] at hsF
      have HSF := Lib.hid hsF
      have HNF := Lib.hid hnilF
      have htl : (l.take n).length ≤ 900 := by rw [List.length_take]; omega
      have htl2 : (l.take n ++ [e]).length ≤ 901 := by simp; omega
      obtain ⟨nf, hnf⟩ : ∃ nf, n - n = nf := ⟨_, rfl⟩
      obtain ⟨cf, hcf⟩ : ∃ cf, c - n = cf := ⟨_, rfl⟩
      rw [hnf, hcf] at hslF
      replace HSF := Lib.hid (show Sl w AF nf cf (l.drop n) by have := HSF.out; rw [hnf, hcf] at this; exact this)
      replace HNF := Lib.hid (show AF = none → cf = 0 by have := HNF.out; rw [hcf] at this; exact this)
      have hnfl : nf ≤ 900 := by omega
      clear hAF hAF' hsF hnilF hnf hcf
      obtain ⟨y0, hy0⟩ : ∃ x, (chkL (insL l e)).1 = x := ⟨_, rfl⟩
      have HY0 := Lib.hid hy0
      clear hy0
      have hbD : Below w.heap.size w (wq.alloc (.cells #[] 36)) := hbq.alloc hbq.size _
      go_upto_region 5 with (at_builtin; go_must (
        refine wpl_appendS _ rfl (.tmp 26) (.tmp 29) 22 rfl w.heap.size 36 _ 72 Try.underlying22 infoEv rfl (.slice (some ⟨wq.heap.size, 0, none⟩) 0 0) ([] : List Ev) rfl (lit0 wq _ hbq.size) A n c (l.take n) rfl HNIL.out (HST.out.below hbD) (by simp; omega) (by omega) hbD.size ?_
        intro v5 w5 ho5 hu5
        rw [List.nil_append] at ho5
        have HB5 := Lib.hid (hu5.belowBase (lit0 (α := Ev) wq _ hbq.size) hbD hbD.size)
        have hw5 := (hu5.belowBase (lit0 (α := Ev) wq _ (Nat.le_refl _)) (((Below.refl _ _).alloc (Nat.le_refl _) _ : Below wq.heap.size wq (wq.alloc (.cells #[] 36)))) (by rw [World.size_alloc]; omega))
        replace qr0 := (hw5.cell (p := ⟨w.heap.size, 0, none⟩) hgq2).trans qr0; replace qr1 := (hw5.cell (p := ⟨w.heap.size, 1, none⟩) hgq2).trans qr1; replace qr2 := (hw5.cell (p := ⟨w.heap.size, 2, none⟩) hgq2).trans qr2; replace qr3 := (hw5.cell (p := ⟨w.heap.size, 3, none⟩) hgq2).trans qr3; replace qr4 := (hw5.cell (p := ⟨w.heap.size, 4, none⟩) hgq2).trans qr4; replace qr5 := (hw5.cell (p := ⟨w.heap.size, 5, none⟩) hgq2).trans qr5; replace qr6 := (hw5.cell (p := ⟨w.heap.size, 6, none⟩) hgq2).trans qr6
        have hg5 : w.heap.size < w5.heap.size := Nat.lt_of_lt_of_le hgq2 hw5.size
        have HO5 := Lib.hid ho5
        clear ho5 hu5 hw5))
      go_upto_region 6 with (at_builtin; go_must (
        refine wpl_append1 _ rfl (.tmp 31) (.tmp 33) 22 rfl w.heap.size 36 _ 72 Try.underlying22 infoEv rfl _ (l.take n) rfl (HO5.out.alloc _) _ e rfl (fun j u hu => cells_new _ _ _ _ _ (by simp) u hu) (by omega) (by omega) (by rw [World.size_alloc]; have := HB5.out.size; omega) ?_
        intro v6 w6 ho6 hu6
        have hb6 := hu6.belowBase (HO5.out.alloc _) (HB5.out.alloc HB5.out.size _) (by rw [World.size_alloc]; have := HB5.out.size; omega)
        have HO6 := Lib.hid ho6
        have HB6 := Lib.hid hb6
        clear ho6 hu6 hb6))
      go_upto_region 7 with (at_builtin; go_must (
        refine wpl_appendS _ rfl (.tmp 35) (.tmp 38) 22 rfl w.heap.size 36 _ 72 Try.underlying22 infoEv rfl _ (l.take n ++ [e]) rfl HO6.out AF nf cf (l.drop n) rfl HNF.out (HSF.out.below HB6.out) (by omega) (by omega) HB6.out.size ?_
        intro v8 w8 ho8 hu8
        have HB8 := Lib.hid (hu8.belowBase HO6.out HB6.out HB6.out.size)
        rw [← HI.out] at ho8
        obtain ⟨A8, c8, hv8, hn8, hs8⟩ := ho8.slN
        have HN8 := Lib.hid hn8
        have HS8 := Lib.hid hs8
        subst hv8
        clear ho8 hu8 hn8 hs8))
      obtain ⟨n8, hn8⟩ : ∃ n8, (insL l e).length = n8 := ⟨_, rfl⟩
      have hn8b : n8 ≤ 901 := by rw [← hn8, insL_len]; omega
      rw [hn8] at HS8 ⊢
      clear hn8 hslT hslF
      by_cases hx0 : x = 0
      · subst hx0
        go_wp2_with (go_at_call 24; go_must (refine (rCheck_any A8 n8 c8 (insL l e) _ HS8.out HZI.out (by omega)).mono ?_; rintro r w9 ⟨rfl, hb9⟩; rw [HX.out, HY0.out]))
        go_ret2
        exact ⟨⟨A8, n8, c8, rfl, HN8.out, HS8.out.below hb9⟩, HB8.out.trans (hb9.mono HB8.out.size)⟩
      · have hxb : (x != 0) = true := by simpa using hx0
        go_wp2_with (go_at_call 24; go_must (refine (rCheck_any A8 n8 c8 (insL l e) _ HS8.out HZI.out (by omega)).mono ?_; rintro r w9 ⟨rfl, hb9⟩; rw [HX.out, HY0.out]))
        go_ret2
        exact ⟨⟨none, 0, 0, rfl, fun _ => rfl, by rw [insR_ne hx0]; exact Sl.nil_ _⟩, HB8.out.trans (hb9.mono HB8.out.size)⟩
theorem rInsert_any (A : Option Addr) (n c : Nat) (l : List Ev) (e : Ev) (w : World) (hs : Sl w A n c l) (hA : A = none → c = 0) (hz : SzOk l) (hez : e.num.size ≤ maxLen ∧ e.name.size ≤ maxLen) (hn : n ≤ 900) :
    Calls Try.prog 30 #[.slice A n c, .agg #[.int .i64 e.at_, .int .i64 e.kind, .int .i64 e.acc, .int .i64 e.sub, .string e.num, .string e.name, .int .i64 e.val]] w fun r w' => (∃ A' n' c', r = .returned (.tuple #[.slice A' n' c', .int .i64 (chkL (insL l e)).2]) ∧ (A' = none → c' = 0) ∧ Sl w' A' n' c' (insR (chkL (insL l e)).2 (insL l e))) ∧ Below w.heap.size w w' := rInsert_any_x A n c l e _ w rfl hs hA hz hez hn
end Cu
end Go.Proofs.Yteaanngagcflhaa
