/-
  Disputes: the reference's Open; law Opens. No condition.
-/
import Derived.Test.YthidlakkpdbeaaaDpK
import Derived.BigQuiet
import Derived.StillTailTactics
import Derived.Lib.Overlaps
import Derived.Deep.DeepCutAuto
import Derived.Deep.RegionWith
import Derived.Laws.Rows
set_option maxRecDepth 100000
set_option linter.unusedVariables false
set_option linter.unusedSimpArgs false
namespace Go.Proofs.Ythidlakkpdbeaaa
open Go.RowKit

namespace Dp
set_option maxHeartbeats 8000000 in
theorem refopen_any (ds : List Dsp) (d : Dsp) (A : Option Addr) (n c : Nat) (w : World) (h : Sl w A n c ds) (hA : NilOk A c) (hn1 : n ≤ 1000000) :
    Calls Try.prog 11 #[.slice A n c, d.val] w fun r w' => ∃ u, r = .returned (.tuple #[u, .int .i64 (openP ds d).2]) ∧ Ow w' w.heap.size 24 u (openP ds d).1 ∧ Below w.heap.size w w' := by
  have hlen := Lib.hid h.len
  have hnc := h.le
  have H := Lib.hid h
  have HA := Lib.hid hA
  clear h hA
  obtain ⟨nb, hnb⟩ : ∃ nb, numB d = nb := ⟨_, rfl⟩
  have HNB := Lib.hid hnb
  obtain ⟨ib, hib⟩ : ∃ ib, insB d.at_ = ib := ⟨_, rfl⟩
  have HIB := Lib.hid hib
  unfold Dsp.val
  go_enter Try.func11, Try.ntmps11
  go_upto_region 1 with (fail)
  (obtain ⟨W, hWW, hbW, hzW, f1W, qfa⟩ := box1 w #[.int .i64 d.id, .int .i64 d.acc, .int .i64 d.use, .int .i64 d.amt, .int .i64 d.st, .int .i64 d.cr, .int .i64 d.at_] 24; rw [← hWW]; have qa0 : W.cell? ⟨w.heap.size, 0, none⟩ = some (.int .i64 d.id) := f1W 0 _ rfl; have qa1 : W.cell? ⟨w.heap.size, 1, none⟩ = some (.int .i64 d.acc) := f1W 1 _ rfl; have qa2 : W.cell? ⟨w.heap.size, 2, none⟩ = some (.int .i64 d.use) := f1W 2 _ rfl; have qa3 : W.cell? ⟨w.heap.size, 3, none⟩ = some (.int .i64 d.amt) := f1W 3 _ rfl; have qa4 : W.cell? ⟨w.heap.size, 4, none⟩ = some (.int .i64 d.st) := f1W 4 _ rfl; have qa5 : W.cell? ⟨w.heap.size, 5, none⟩ = some (.int .i64 d.cr) := f1W 5 _ rfl; have qa6 : W.cell? ⟨w.heap.size, 6, none⟩ = some (.int .i64 d.at_) := f1W 6 _ rfl; clear hWW f1W)
  have hT := hbW
  have hg0 : w.heap.size < W.heap.size := hzW
  replace H := Lib.hid (H.out.below hbW)
  clear hbW
  go_wp2_with fail
  refine (numbers_any d _).mono ?_
  rintro r w1 ⟨rfl, hb1⟩
  (have hzhb1 := hb1.size; replace qa0 := (hb1.cell (p := ⟨_, _, none⟩) (by (try dsimp only) <;> omega)).trans qa0; replace qa1 := (hb1.cell (p := ⟨_, _, none⟩) (by (try dsimp only) <;> omega)).trans qa1; replace qa2 := (hb1.cell (p := ⟨_, _, none⟩) (by (try dsimp only) <;> omega)).trans qa2; replace qa3 := (hb1.cell (p := ⟨_, _, none⟩) (by (try dsimp only) <;> omega)).trans qa3; replace qa4 := (hb1.cell (p := ⟨_, _, none⟩) (by (try dsimp only) <;> omega)).trans qa4; replace qa5 := (hb1.cell (p := ⟨_, _, none⟩) (by (try dsimp only) <;> omega)).trans qa5; replace qa6 := (hb1.cell (p := ⟨_, _, none⟩) (by (try dsimp only) <;> omega)).trans qa6; replace qfa := fun j => (hb1.frozen (p := ⟨_, j, none⟩) (by (try dsimp only) <;> omega)).trans (qfa j); replace hT := Below.trans hT (Below.mono hb1 (by omega)))
  replace H := Lib.hid (H.out.below hb1)
  have hg1 : w.heap.size < w1.heap.size := by omega
  clear hb1
  rw [HNB.out]
  cases nb
  · have HE := Lib.hid (show openP ds d = ([], 6) by unfold openP; rw [if_pos hnb])
    clear hnb hib
    go_wp2_with fail
    go_ret2
    rw [HE.out]
    exact ⟨_, rfl, Ow.nil_ _ _ _, hT⟩
  · have HX0 : openP ds d = if d.st ≠ 1 ∨ d.cr ≠ 0 then ([], 22) else if insB d.at_ = false then ([], 15) else if hasB ds d.id = true then ([], 10) else if ds.any (pendB d.use) = true then ([], 22) else if 4096 ≤ ds.length then ([], 5) else (insP ds d, 0) := by unfold openP; rw [if_neg (by rw [hnb]; decide)]
    clear hnb
    by_cases s1 : d.st = 1
    · have q1 : (d.st == 1) = true := by simpa using s1
      have q1' : (d.st != 1) = false := by simpa using s1
      by_cases s2 : d.cr = 0
      · have q2 : (d.cr == 0) = true := by simpa using s2
        have q2' : (d.cr != 0) = false := by simpa using s2
        have HX1 := HX0.trans (if_neg (by rw [s1, s2]; decide))
        clear HX0 s1 s2
        go_wp2_with fail
        refine (instant_any d.at_ _).mono ?_
        rintro r w' ⟨rfl, rfl⟩
        rw [HIB.out]
        clear q1 q2 q1' q2'
        cases ib
        · have HE := Lib.hid (HX1.trans (if_pos hib))
          clear HX1 hib
          go_wp2_with fail
          go_ret2
          rw [HE.out]
          exact ⟨_, rfl, Ow.nil_ _ _ _, hT⟩
        · have HX2 := HX1.trans (if_neg (by rw [hib]; decide))
          have HX := Lib.hid HX2
          clear HX1 HX2 hib
          go_wp2_with fail
          refine (reffind_any d.id A n c ds _ H.out).mono ?_
          rintro r w2 ⟨k, rfl, hk, hb2⟩
          (have hzhb2 := hb2.size; replace qa0 := (hb2.cell (p := ⟨_, _, none⟩) (by (try dsimp only) <;> omega)).trans qa0; replace qa1 := (hb2.cell (p := ⟨_, _, none⟩) (by (try dsimp only) <;> omega)).trans qa1; replace qa2 := (hb2.cell (p := ⟨_, _, none⟩) (by (try dsimp only) <;> omega)).trans qa2; replace qa3 := (hb2.cell (p := ⟨_, _, none⟩) (by (try dsimp only) <;> omega)).trans qa3; replace qa4 := (hb2.cell (p := ⟨_, _, none⟩) (by (try dsimp only) <;> omega)).trans qa4; replace qa5 := (hb2.cell (p := ⟨_, _, none⟩) (by (try dsimp only) <;> omega)).trans qa5; replace qa6 := (hb2.cell (p := ⟨_, _, none⟩) (by (try dsimp only) <;> omega)).trans qa6; replace qfa := fun j => (hb2.frozen (p := ⟨_, j, none⟩) (by (try dsimp only) <;> omega)).trans (qfa j); replace hT := Below.trans hT (Below.mono hb2 (by omega)))
          replace H := Lib.hid (H.out.below hb2)
          have hg2 : w.heap.size < w2.heap.size := by omega
          clear hb2
          rcases hk with ⟨rfl, hno⟩ | ⟨j, rfl, e, he, hx⟩
          · have HX3 := Lib.hid (HX.out.trans (if_neg (by rw [hno]; decide)))
            clear hno
            go_wp2_with fail
            refine (disputed_any d.use A n c ds _ H.out).mono ?_
            rintro r w3 ⟨rfl, hb3⟩
            (have hzhb3 := hb3.size; replace qa0 := (hb3.cell (p := ⟨_, _, none⟩) (by (try dsimp only) <;> omega)).trans qa0; replace qa1 := (hb3.cell (p := ⟨_, _, none⟩) (by (try dsimp only) <;> omega)).trans qa1; replace qa2 := (hb3.cell (p := ⟨_, _, none⟩) (by (try dsimp only) <;> omega)).trans qa2; replace qa3 := (hb3.cell (p := ⟨_, _, none⟩) (by (try dsimp only) <;> omega)).trans qa3; replace qa4 := (hb3.cell (p := ⟨_, _, none⟩) (by (try dsimp only) <;> omega)).trans qa4; replace qa5 := (hb3.cell (p := ⟨_, _, none⟩) (by (try dsimp only) <;> omega)).trans qa5; replace qa6 := (hb3.cell (p := ⟨_, _, none⟩) (by (try dsimp only) <;> omega)).trans qa6; replace qfa := fun j => (hb3.frozen (p := ⟨_, j, none⟩) (by (try dsimp only) <;> omega)).trans (qfa j); replace hT := Below.trans hT (Below.mono hb3 (by omega)))
            replace H := Lib.hid (H.out.below hb3)
            have hg3 : w.heap.size < w3.heap.size := by omega
            clear hb3
            obtain ⟨bb, hbb⟩ : ∃ bb, ds.any (pendB d.use) = bb := ⟨_, rfl⟩
            rw [hbb]
            cases bb
            · have HX4 := Lib.hid (HX3.out.trans (if_neg (by rw [hbb]; decide)))
              clear hbb
              by_cases h4096 : 4096 ≤ n
              · have HE := Lib.hid (HX4.out.trans (if_pos (by rw [hlen.out]; exact h4096)))
                have hi4 : (4096 : Int) ≤ (n : Int) := by omega
                go_wp2_with fail
                go_ret2
                rw [HE.out]
                exact ⟨_, rfl, Ow.nil_ _ _ _, hT⟩
              · have HE := Lib.hid (HX4.out.trans (if_neg (by rw [hlen.out]; exact h4096)))
                have hi4 : ¬ (4096 : Int) ≤ (n : Int) := by omega
                go_wp2_with fail
                go_loopw [6] (fun i wr => ∃ k : Nat, k ≤ n ∧ i = .int .i64 k ∧ Below w3.heap.size w3 wr ∧ ∀ (j : Nat) (e : Dsp), j < k → ds[j]? = some e → e.id < d.id) (fun i _ => n - (intOf i).toNat)
                case atStart => exact ⟨0, Nat.zero_le _, rfl, Below.refl _ _, fun j e hj => absurd hj (by omega)⟩
                case round =>
                  obtain ⟨k, hk, rfl, hb, hL⟩ := hrel
                  have HL := Lib.hid hL
                  clear hL
                  have hzb := hb.size
                  (have sqa0 := (hb.cell (p := ⟨_, _, none⟩) (by (try dsimp only) <;> omega)).trans qa0; have sqa1 := (hb.cell (p := ⟨_, _, none⟩) (by (try dsimp only) <;> omega)).trans qa1; have sqa2 := (hb.cell (p := ⟨_, _, none⟩) (by (try dsimp only) <;> omega)).trans qa2; have sqa3 := (hb.cell (p := ⟨_, _, none⟩) (by (try dsimp only) <;> omega)).trans qa3; have sqa4 := (hb.cell (p := ⟨_, _, none⟩) (by (try dsimp only) <;> omega)).trans qa4; have sqa5 := (hb.cell (p := ⟨_, _, none⟩) (by (try dsimp only) <;> omega)).trans qa5; have sqa6 := (hb.cell (p := ⟨_, _, none⟩) (by (try dsimp only) <;> omega)).trans qa6)
                  by_cases hlt : k < n
                  · obtain ⟨b, off, rfl, hbw, hc⟩ := H.out.baseIn hb (by omega)
                    obtain ⟨e, hr⟩ := H.out.get (k := k) (by omega)
                    have c0 : wr.cell? ⟨b, off + k * 7, none⟩ = some (.int .i64 e.id) := Sl.at_ hc hr 0 rfl
                    have HR := Lib.hid hr
                    clear hr hc
                    by_cases hid : e.id < d.id
                    · have HST := Lib.hid (show ∀ (j : Nat) (e : Dsp), j < k + 1 → ds[j]? = some e → e.id < d.id from fun j e' hj he' => by
                        by_cases hjk : j = k
                        · subst hjk
                          have := HR.out.symm.trans he'
                          injection this with this
                          subst this
                          exact hid
                        · exact HL.out j e' (by omega) he')
                      go_upto_region 14 with (fail)
                      ((with_reducible refine wp_region_quiet_lit ?_ ?_ ?_); kernel_rfl; kernel_rfl; (repeat (any_goals (first | go_big_quiet_step (fail) | (refine wpQuiet_step (fun K hK => ?_); go_simp; (first | (refine hK _ ?_; clear hK K) | (split <;> rename_i hg <;> (refine hK _ ?_; clear hK K) <;> (try simp only [Bool.not_eq_true] at hg) <;> (first | simp only [Int.not_lt.2 hg, decide_false] | simp only [Int.not_le.1 hg, decide_true] | simp only [hg, decide_true, decide_false] | skip))))))); all_goals (refine wpQuiet_nil ?_; intro _ hw'; obtain ⟨nq, hw''⟩ := hw'; subst hw''))
                      have hbq : Below w3.heap.size w3 (wr.drewN nq) := below_drewN hb nq
                      go_wp2_with fail
                      go_roundw
                      case rel => exact ⟨k + 1, by omega, by go_num, hbq, HST.out⟩
                      case measure => simp [intOf]; omega
                    · go_upto_region 14 with (fail)
                      ((with_reducible refine wp_region_quiet_lit ?_ ?_ ?_); kernel_rfl; kernel_rfl; (repeat (any_goals (first | go_big_quiet_step (fail) | (refine wpQuiet_step (fun K hK => ?_); go_simp; (first | (refine hK _ ?_; clear hK K) | (split <;> rename_i hg <;> (refine hK _ ?_; clear hK K) <;> (try simp only [Bool.not_eq_true] at hg) <;> (first | simp only [Int.not_lt.2 hg, decide_false] | simp only [Int.not_le.1 hg, decide_true] | simp only [hg, decide_true, decide_false] | skip))))))); all_goals (refine wpQuiet_nil ?_; intro _ hw'; obtain ⟨nq, hw''⟩ := hw'; subst hw''))
                      have HTW := Lib.hid (tw_take (p := fun e : Dsp => decide (e.id < d.id)) (l := ds) (i := k) (fun j a hj ha => by simpa using HL.out j a hj ha) (fun a ha => by have := HR.out.symm.trans ha; injection this with this; subst this; simpa using hid) (by have := hlen.out; omega))
                      have hbq : Below w3.heap.size w3 (wr.drewN nq) := below_drewN hb nq
                      obtain ⟨w5, hw5⟩ : ∃ w5, w5 = wr.drewN nq := ⟨_, rfl⟩
                      rw [← hw5] at hbq ⊢
                      clear hw5 hid c0 sqa0 sqa1 sqa2 sqa3 sqa4 sqa5 sqa6
                      have hkn : k ≤ n := by omega
                      (have hzhbq := hbq.size; replace qa0 := (hbq.cell (p := ⟨_, _, none⟩) (by (try dsimp only) <;> omega)).trans qa0; replace qa1 := (hbq.cell (p := ⟨_, _, none⟩) (by (try dsimp only) <;> omega)).trans qa1; replace qa2 := (hbq.cell (p := ⟨_, _, none⟩) (by (try dsimp only) <;> omega)).trans qa2; replace qa3 := (hbq.cell (p := ⟨_, _, none⟩) (by (try dsimp only) <;> omega)).trans qa3; replace qa4 := (hbq.cell (p := ⟨_, _, none⟩) (by (try dsimp only) <;> omega)).trans qa4; replace qa5 := (hbq.cell (p := ⟨_, _, none⟩) (by (try dsimp only) <;> omega)).trans qa5; replace qa6 := (hbq.cell (p := ⟨_, _, none⟩) (by (try dsimp only) <;> omega)).trans qa6; replace qfa := fun j => (hbq.frozen (p := ⟨_, j, none⟩) (by (try dsimp only) <;> omega)).trans (qfa j); replace hT := Below.trans hT (Below.mono hbq (by omega)))
                      replace H := Lib.hid (H.out.below hbq)
                      have hg5 : w.heap.size < w5.heap.size := by omega
                      have HT5 := Lib.hid hT
                      clear hbq hb
                      have hslT := run_slice_to (P := Try.prog) (t := 22) (sz := 7) (A := (some ⟨b, off, none⟩ : Option Addr)) (n := n) (c := c) (k := k) (by kernel_rfl) (by kernel_rfl) (by omega)
                      have hslF := run_slice_from (P := Try.prog) (t := 22) (sz := 7) (A := (some ⟨b, off, none⟩ : Option Addr)) (n := n) (c := c) (k := k) (by kernel_rfl) (by kernel_rfl) hkn
                      have HT1 := Lib.hid (Sl.takeK H.out hkn)
                      have HD1 := Lib.hid (Sl.dropG H.out hkn)
                      obtain ⟨A', hA'⟩ : ∃ A' : Option Addr, (if c = k then (some ⟨b, off, none⟩ : Option Addr) else (some ⟨b, off, none⟩ : Option Addr).map (fun x : Addr => x.add (k * 7))) = A' := ⟨_, rfl⟩
                      rw [hA'] at hslF
                      have HD2 : Hid (Sl w5 A' (n - k) (c - k) (ds.drop k)) := Lib.hid (by have h := HD1.out; rw [show (if c = k then (some ⟨b, off, none⟩ : Option Addr) else (some ⟨b, off, none⟩ : Option Addr).map (fun x : Addr => x.add (k * Flat.sz Dsp))) = A' from hA'] at h; exact h)
                      have HN' : Hid (A' = none → c - k = 0) := Lib.hid (fun h => by
                        rw [← hA'] at h
                        by_cases hck : c = k
                        · omega
                        · rw [if_neg hck] at h
                          cases h)
                      clear hA' HD1
                      go_upto_region 17 with (first | (at_builtin; go_must (
                        refine wpl_appendS _ rfl (.tmp 57) (.tmp 60) 22 rfl w5.heap.size 24 _ 56 Try.underlying22 info_dsp rfl (.slice (some ⟨w5.heap.size, 0, none⟩) 0 0) ([] : List Dsp) rfl (World.ownsRow_lit w5 #[] 0 (Nat.le_refl _) (Nat.zero_le _) rfl) (some ⟨b, off, none⟩ : Option Addr) k c (ds.take k) rfl HA.out (HT1.out.below ((Below.refl _ _).alloc (Nat.le_refl _) _)) (by simp; omega) (by omega) (by simp) ?_
                        intro v6 w6 hown6 hu6
                        have hb6 : Below w5.heap.size w5 w6 := ((Below.refl _ _).alloc (Nat.le_refl _) _).grown hu6.grew (by simp) (by simp [Value.ownBlock])
                        rw [List.nil_append] at hown6
                        have HO6 := Lib.hid hown6
                        clear hu6 hown6)))
                      have hz6 := hb6.size
                      have HS6 := Lib.hid (HD2.out.below hb6)
                      (have hzhb6 := hb6.size; replace qa0 := (hb6.cell (p := ⟨_, _, none⟩) (by (try dsimp only) <;> omega)).trans qa0; replace qa1 := (hb6.cell (p := ⟨_, _, none⟩) (by (try dsimp only) <;> omega)).trans qa1; replace qa2 := (hb6.cell (p := ⟨_, _, none⟩) (by (try dsimp only) <;> omega)).trans qa2; replace qa3 := (hb6.cell (p := ⟨_, _, none⟩) (by (try dsimp only) <;> omega)).trans qa3; replace qa4 := (hb6.cell (p := ⟨_, _, none⟩) (by (try dsimp only) <;> omega)).trans qa4; replace qa5 := (hb6.cell (p := ⟨_, _, none⟩) (by (try dsimp only) <;> omega)).trans qa5; replace qa6 := (hb6.cell (p := ⟨_, _, none⟩) (by (try dsimp only) <;> omega)).trans qa6; replace qfa := fun j => (hb6.frozen (p := ⟨_, j, none⟩) (by (try dsimp only) <;> omega)).trans (qfa j); replace hT := Below.trans hT (Below.mono hb6 (by omega)))
                      have hg6 : w.heap.size < w6.heap.size := by omega
                      have htl : (ds.take k).length = k := by rw [List.length_take, hlen.out]; omega
                      go_upto_region 18 with (first | (at_builtin; go_must (
                        refine wpl_append1 _ rfl (.tmp 62) (.tmp 64) 22 rfl w5.heap.size 24 _ 56 Try.underlying22 info_dsp rfl v6 (ds.take k) rfl (HO6.out.alloc _) _ d rfl (fun j u hu => cells_new _ _ _ _ _ (by simp) u hu) (by omega) (by omega) (by rw [alloc_size2]; omega) ?_
                        intro v7 w7 hown7 hu7
                        have hb7 : Below w5.heap.size w5 w7 := hu7.belowBase (HO6.out.alloc _) (hb6.alloc (by omega) _) (by rw [alloc_size2]; omega)
                        have HO7 := Lib.hid hown7
                        clear hu7 hown7)))
                      have hz7 := hb7.size
                      have HS7 := Lib.hid (HD2.out.below hb7)
                      go_wp2_with (first | (at_builtin; go_must (
                        refine wpl_appendS _ rfl (.tmp 66) (.tmp 69) 22 rfl w5.heap.size 24 _ 56 Try.underlying22 info_dsp rfl v7 (ds.take k ++ [d]) rfl HO7.out A' (n - k) (c - k) (ds.drop k) rfl HN'.out HS7.out (by simp; omega) (by omega) (by omega) ?_
                        intro v8 w8 hown8 hu8
                        have hb8 : Below w5.heap.size w5 w8 := hu8.belowBase HO7.out hb7 (by omega)
                        have HO8 := Lib.hid hown8
                        clear hu8 hown8)))
                      go_ret2
                      rw [HE.out]
                      refine ⟨_, rfl, ?_, HT5.out.trans (hb8.mono (by omega))⟩
                      have hfin := HO8.out.lower (show w.heap.size ≤ w5.heap.size by omega)
                      rw [List.append_assoc] at hfin
                      show Ow w8 w.heap.size 24 v8 (insP ds d)
                      unfold insP
                      rw [HTW.out.1, HTW.out.2]
                      exact hfin
                  · obtain rfl : k = n := by omega
                    have hkn : ¬ ((k : Int) < (k : Int)) := by omega
                    go_upto_region 14 with (fail)
                    ((with_reducible refine wp_region_quiet_lit ?_ ?_ ?_); kernel_rfl; kernel_rfl; (repeat (any_goals (first | go_big_quiet_step (fail) | (refine wpQuiet_step (fun K hK => ?_); go_simp; (first | (refine hK _ ?_; clear hK K) | (split <;> rename_i hg <;> (refine hK _ ?_; clear hK K) <;> (try simp only [Bool.not_eq_true] at hg) <;> (first | simp only [Int.not_lt.2 hg, decide_false] | simp only [Int.not_le.1 hg, decide_true] | simp only [hg, decide_true, decide_false] | skip))))))); all_goals (refine wpQuiet_nil ?_; intro _ hw'; obtain ⟨nq, hw''⟩ := hw'; subst hw''))
                    have HTW := Lib.hid (tw_take (p := fun e : Dsp => decide (e.id < d.id)) (l := ds) (i := k) (fun j a hj ha => by simpa using HL.out j a hj ha) (fun a ha => by have := (List.getElem?_eq_some_iff.1 ha).1; have := hlen.out; omega) (by have := hlen.out; omega))
                    have hbq : Below w3.heap.size w3 (wr.drewN nq) := below_drewN hb nq
                    obtain ⟨w5, hw5⟩ : ∃ w5, w5 = wr.drewN nq := ⟨_, rfl⟩
                    rw [← hw5] at hbq ⊢
                    clear hw5 hkn sqa0 sqa1 sqa2 sqa3 sqa4 sqa5 sqa6
                    have hkn : k ≤ k := Nat.le_refl _
                    (have hzhbq := hbq.size; replace qa0 := (hbq.cell (p := ⟨_, _, none⟩) (by (try dsimp only) <;> omega)).trans qa0; replace qa1 := (hbq.cell (p := ⟨_, _, none⟩) (by (try dsimp only) <;> omega)).trans qa1; replace qa2 := (hbq.cell (p := ⟨_, _, none⟩) (by (try dsimp only) <;> omega)).trans qa2; replace qa3 := (hbq.cell (p := ⟨_, _, none⟩) (by (try dsimp only) <;> omega)).trans qa3; replace qa4 := (hbq.cell (p := ⟨_, _, none⟩) (by (try dsimp only) <;> omega)).trans qa4; replace qa5 := (hbq.cell (p := ⟨_, _, none⟩) (by (try dsimp only) <;> omega)).trans qa5; replace qa6 := (hbq.cell (p := ⟨_, _, none⟩) (by (try dsimp only) <;> omega)).trans qa6; replace qfa := fun j => (hbq.frozen (p := ⟨_, j, none⟩) (by (try dsimp only) <;> omega)).trans (qfa j); replace hT := Below.trans hT (Below.mono hbq (by omega)))
                    replace H := Lib.hid (H.out.below hbq)
                    have hg5 : w.heap.size < w5.heap.size := by omega
                    have HT5 := Lib.hid hT
                    clear hbq hb
                    have hslT := run_slice_to (P := Try.prog) (t := 22) (sz := 7) (A := A) (n := k) (c := c) (k := k) (by kernel_rfl) (by kernel_rfl) (by omega)
                    have hslF := run_slice_from (P := Try.prog) (t := 22) (sz := 7) (A := A) (n := k) (c := c) (k := k) (by kernel_rfl) (by kernel_rfl) hkn
                    have HT1 := Lib.hid (Sl.takeK H.out hkn)
                    have HD1 := Lib.hid (Sl.dropG H.out hkn)
                    obtain ⟨A', hA'⟩ : ∃ A' : Option Addr, (if c = k then A else A.map (fun x : Addr => x.add (k * 7))) = A' := ⟨_, rfl⟩
                    rw [hA'] at hslF
                    have HD2 : Hid (Sl w5 A' 0 (c - k) (ds.drop k)) := Lib.hid (by have h := HD1.out; rw [Nat.sub_self] at h; rw [show (if c = k then A else A.map (fun x : Addr => x.add (k * Flat.sz Dsp))) = A' from hA'] at h; exact h)
                    have HN' : Hid (A' = none → c - k = 0) := Lib.hid (fun h => by
                      rw [← hA'] at h
                      by_cases hck : c = k
                      · omega
                      · rw [if_neg hck] at h
                        have h2 : A = none := by simpa using h
                        have := HA.out h2
                        omega)
                    clear hA' HD1
                    go_upto_region 17 with (first | (at_builtin; go_must (
                      refine wpl_appendS _ rfl (.tmp 57) (.tmp 60) 22 rfl w5.heap.size 24 _ 56 Try.underlying22 info_dsp rfl (.slice (some ⟨w5.heap.size, 0, none⟩) 0 0) ([] : List Dsp) rfl (World.ownsRow_lit w5 #[] 0 (Nat.le_refl _) (Nat.zero_le _) rfl) A k c (ds.take k) rfl HA.out (HT1.out.below ((Below.refl _ _).alloc (Nat.le_refl _) _)) (by simp; omega) (by omega) (by simp) ?_
                      intro v6 w6 hown6 hu6
                      have hb6 : Below w5.heap.size w5 w6 := ((Below.refl _ _).alloc (Nat.le_refl _) _).grown hu6.grew (by simp) (by simp [Value.ownBlock])
                      rw [List.nil_append] at hown6
                      have HO6 := Lib.hid hown6
                      clear hu6 hown6)))
                    have hz6 := hb6.size
                    have HS6 := Lib.hid (HD2.out.below hb6)
                    (have hzhb6 := hb6.size; replace qa0 := (hb6.cell (p := ⟨_, _, none⟩) (by (try dsimp only) <;> omega)).trans qa0; replace qa1 := (hb6.cell (p := ⟨_, _, none⟩) (by (try dsimp only) <;> omega)).trans qa1; replace qa2 := (hb6.cell (p := ⟨_, _, none⟩) (by (try dsimp only) <;> omega)).trans qa2; replace qa3 := (hb6.cell (p := ⟨_, _, none⟩) (by (try dsimp only) <;> omega)).trans qa3; replace qa4 := (hb6.cell (p := ⟨_, _, none⟩) (by (try dsimp only) <;> omega)).trans qa4; replace qa5 := (hb6.cell (p := ⟨_, _, none⟩) (by (try dsimp only) <;> omega)).trans qa5; replace qa6 := (hb6.cell (p := ⟨_, _, none⟩) (by (try dsimp only) <;> omega)).trans qa6; replace qfa := fun j => (hb6.frozen (p := ⟨_, j, none⟩) (by (try dsimp only) <;> omega)).trans (qfa j); replace hT := Below.trans hT (Below.mono hb6 (by omega)))
                    have hg6 : w.heap.size < w6.heap.size := by omega
                    have htl : (ds.take k).length = k := by rw [List.length_take, hlen.out]; omega
                    go_upto_region 18 with (first | (at_builtin; go_must (
                      refine wpl_append1 _ rfl (.tmp 62) (.tmp 64) 22 rfl w5.heap.size 24 _ 56 Try.underlying22 info_dsp rfl v6 (ds.take k) rfl (HO6.out.alloc _) _ d rfl (fun j u hu => cells_new _ _ _ _ _ (by simp) u hu) (by omega) (by omega) (by rw [alloc_size2]; omega) ?_
                      intro v7 w7 hown7 hu7
                      have hb7 : Below w5.heap.size w5 w7 := hu7.belowBase (HO6.out.alloc _) (hb6.alloc (by omega) _) (by rw [alloc_size2]; omega)
                      have HO7 := Lib.hid hown7
                      clear hu7 hown7)))
                    have hz7 := hb7.size
                    have HS7 := Lib.hid (HD2.out.below hb7)
                    go_wp2_with (first | (at_builtin; go_must (
                      refine wpl_appendS _ rfl (.tmp 66) (.tmp 69) 22 rfl w5.heap.size 24 _ 56 Try.underlying22 info_dsp rfl v7 (ds.take k ++ [d]) rfl HO7.out A' 0 (c - k) (ds.drop k) rfl HN'.out HS7.out (by simp; omega) (by omega) (by omega) ?_
                      intro v8 w8 hown8 hu8
                      have hb8 : Below w5.heap.size w5 w8 := hu8.belowBase HO7.out hb7 (by omega)
                      have HO8 := Lib.hid hown8
                      clear hu8 hown8)))
                    go_ret2
                    rw [HE.out]
                    refine ⟨_, rfl, ?_, HT5.out.trans (hb8.mono (by omega))⟩
                    have hfin := HO8.out.lower (show w.heap.size ≤ w5.heap.size by omega)
                    rw [List.append_assoc] at hfin
                    show Ow w8 w.heap.size 24 v8 (insP ds d)
                    unfold insP
                    rw [HTW.out.1, HTW.out.2]
                    exact hfin
            · have HE := Lib.hid (HX3.out.trans (if_pos hbb))
              clear hbb
              go_wp2_with fail
              go_ret2
              rw [HE.out]
              exact ⟨_, rfl, Ow.nil_ _ _ _, hT⟩
          · have HE := Lib.hid (HX.out.trans (if_pos (by unfold hasB; rw [List.any_eq_true]; exact ⟨e, List.mem_of_getElem? he, by simpa using hx⟩)))
            have hj0 : 0 ≤ (j : Int) := by omega
            clear he hx
            go_wp2_with fail
            go_ret2
            rw [HE.out]
            exact ⟨_, rfl, Ow.nil_ _ _ _, hT⟩
      · have q2 : (d.cr == 0) = false := by simpa using s2
        have q2' : (d.cr != 0) = true := by simpa using s2
        have HE := Lib.hid (HX0.trans (if_pos (.inr s2)))
        clear HX0 s1 s2 hib
        go_wp2_with fail
        go_ret2
        rw [HE.out]
        exact ⟨_, rfl, Ow.nil_ _ _ _, hT⟩
    · have q1 : (d.st == 1) = false := by simpa using s1
      have q1' : (d.st != 1) = true := by simpa using s1
      have HE := Lib.hid (HX0.trans (if_pos (.inl s1)))
      clear HX0 s1 hib
      go_wp2_with fail
      go_ret2
      rw [HE.out]
      exact ⟨_, rfl, Ow.nil_ _ _ _, hT⟩
set_option maxHeartbeats 8000000 in
theorem law_opens (d : Dsp) (A : Option Addr) (n c : Nat) (ds : List Dsp) (w : World) (h : Sl w A n c ds) (hA : NilOk A c) :
    Calls Try.prog 3 #[.slice A n c, d.val] w fun r w' => r = .returned (.bool true) ∧ Below w.heap.size w w' := by
  have H := Lib.hid h
  have HA := Lib.hid hA
  clear h hA
  unfold Dsp.val
  go_enter Try.func3, Try.ntmps3
  go_upto_region 1 with (fail)
  (obtain ⟨W, hWW, hbW, hzW, f1W, qfa⟩ := box1 w #[.int .i64 d.id, .int .i64 d.acc, .int .i64 d.use, .int .i64 d.amt, .int .i64 d.st, .int .i64 d.cr, .int .i64 d.at_] 24; rw [← hWW]; have qa0 : W.cell? ⟨w.heap.size, 0, none⟩ = some (.int .i64 d.id) := f1W 0 _ rfl; have qa1 : W.cell? ⟨w.heap.size, 1, none⟩ = some (.int .i64 d.acc) := f1W 1 _ rfl; have qa2 : W.cell? ⟨w.heap.size, 2, none⟩ = some (.int .i64 d.use) := f1W 2 _ rfl; have qa3 : W.cell? ⟨w.heap.size, 3, none⟩ = some (.int .i64 d.amt) := f1W 3 _ rfl; have qa4 : W.cell? ⟨w.heap.size, 4, none⟩ = some (.int .i64 d.st) := f1W 4 _ rfl; have qa5 : W.cell? ⟨w.heap.size, 5, none⟩ = some (.int .i64 d.cr) := f1W 5 _ rfl; have qa6 : W.cell? ⟨w.heap.size, 6, none⟩ = some (.int .i64 d.at_) := f1W 6 _ rfl; clear hWW f1W)
  have hT := hbW
  have hg0 : w.heap.size < W.heap.size := hzW
  replace H := Lib.hid (H.out.below hbW)
  clear hbW
  go_wp2_with fail
  refine (few_any A n c ds _ H.out).mono ?_
  rintro r w1 ⟨b, rfl, hb, hb1⟩
  (have hzhb1 := hb1.size; replace qa0 := (hb1.cell (p := ⟨_, _, none⟩) (by (try dsimp only) <;> omega)).trans qa0; replace qa1 := (hb1.cell (p := ⟨_, _, none⟩) (by (try dsimp only) <;> omega)).trans qa1; replace qa2 := (hb1.cell (p := ⟨_, _, none⟩) (by (try dsimp only) <;> omega)).trans qa2; replace qa3 := (hb1.cell (p := ⟨_, _, none⟩) (by (try dsimp only) <;> omega)).trans qa3; replace qa4 := (hb1.cell (p := ⟨_, _, none⟩) (by (try dsimp only) <;> omega)).trans qa4; replace qa5 := (hb1.cell (p := ⟨_, _, none⟩) (by (try dsimp only) <;> omega)).trans qa5; replace qa6 := (hb1.cell (p := ⟨_, _, none⟩) (by (try dsimp only) <;> omega)).trans qa6; replace hT := Below.trans hT (Below.mono hb1 (by omega)))
  replace H := Lib.hid (H.out.below hb1)
  have hg1 : w.heap.size < w1.heap.size := by omega
  have HB := Lib.hid hb
  clear hb1 hb
  cases b
  · go_wp2_with fail
    refine (alive_any _).mono ?_
    rintro r wz ⟨rfl, hbz⟩
    replace hT := hT.trans (hbz.mono (by omega))
    go_wp2_with fail
    go_ret
    exact ⟨rfl, hT⟩
  · obtain ⟨hn30, hvd⟩ := HB.out rfl
    have HV := Lib.hid hvd
    clear hvd HB
    obtain ⟨R, hR⟩ : ∃ R, openP ds d = R := ⟨_, rfl⟩
    have HR := Lib.hid hR
    clear hR
    obtain ⟨xs, e⟩ := R
    have q : (e == e) = true := by simp
    go_wp2_with fail
    refine (open_any ds d A n c _ H.out HA.out (by omega) (Vd.srt HV.out)).mono ?_
    rintro r w2 ⟨u2, rfl, ho2, hb2⟩
    rw [HR.out] at ho2 ⊢
    (have hzhb2 := hb2.size; replace qa0 := (hb2.cell (p := ⟨_, _, none⟩) (by (try dsimp only) <;> omega)).trans qa0; replace qa1 := (hb2.cell (p := ⟨_, _, none⟩) (by (try dsimp only) <;> omega)).trans qa1; replace qa2 := (hb2.cell (p := ⟨_, _, none⟩) (by (try dsimp only) <;> omega)).trans qa2; replace qa3 := (hb2.cell (p := ⟨_, _, none⟩) (by (try dsimp only) <;> omega)).trans qa3; replace qa4 := (hb2.cell (p := ⟨_, _, none⟩) (by (try dsimp only) <;> omega)).trans qa4; replace qa5 := (hb2.cell (p := ⟨_, _, none⟩) (by (try dsimp only) <;> omega)).trans qa5; replace qa6 := (hb2.cell (p := ⟨_, _, none⟩) (by (try dsimp only) <;> omega)).trans qa6; replace hT := Below.trans hT (Below.mono hb2 (by omega)))
    replace H := Lib.hid (H.out.below hb2)
    have hg2 : w.heap.size < w2.heap.size := by omega
    obtain ⟨A2, c2, rfl, hs2⟩ := ho2.sl
    have HS2 := Lib.hid hs2
    clear hb2 ho2 hs2
    go_wp2_with fail
    refine (refopen_any ds d A n c _ H.out HA.out (by omega)).mono ?_
    rintro r w3 ⟨u3, rfl, ho3, hb3⟩
    rw [HR.out] at ho3 ⊢
    replace hT := hT.trans (hb3.mono (by omega))
    replace HS2 := Lib.hid (HS2.out.below hb3)
    have hz3 := hb3.size
    obtain ⟨A3, c3, rfl, hs3⟩ := ho3.sl
    have HS3 := Lib.hid hs3
    clear hb3 ho3 hs3
    go_wp2_with fail
    refine (same_any xs A2 A3 xs.length c2 c3 _ HS2.out HS3.out).mono ?_
    rintro r w4 ⟨rfl, hb4⟩
    replace hT := hT.trans (hb4.mono (by omega))
    have hz4 := hb4.size
    clear hb4
    go_wp2_with fail
    refine (alive_any _).mono ?_
    rintro r wz ⟨rfl, hbz⟩
    replace hT := hT.trans (hbz.mono (by omega))
    go_wp2_with fail
    go_ret
    exact ⟨rfl, hT⟩
end Dp
end Go.Proofs.Ythidlakkpdbeaaa
