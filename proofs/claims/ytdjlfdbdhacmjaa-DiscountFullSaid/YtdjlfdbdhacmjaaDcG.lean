/-
  Discounts of the reference: Apply, Same. No condition.
-/
import Derived.Test.YtdjlfdbdhacmjaaDcC
import Derived.Test.YtdjlfdbdhacmjaaDcF
import Derived.BigQuiet
import Derived.StillTailTactics
import Derived.Lib.Overlaps
import Derived.Deep.DeepCutAuto
import Derived.Deep.RegionWith
set_option maxRecDepth 100000
set_option linter.unusedVariables false
set_option linter.unusedSimpArgs false
namespace Go.Proofs.Ytdjlfdbdhacmjaa
open Go.RowKit

namespace Dc
open Xp
set_option maxHeartbeats 8000000 in
theorem refapply_any (v : Env) (g : Int) (ds : List Dsc) (A : Option Addr) (n c : Nat) (items : List Dit) (w : World) (hn1 : n ≤ 1000) (h : Sl w A n c items) (hd : Dl w ds items) :
    Calls Try.prog 14 #[.slice A n c, v.val, .int .i64 g] w fun r w' => ∃ u, r = .returned (.tuple #[u, .int .i64 (applyE v g ds).2.1, .int .i64 (applyE v g ds).2.2]) ∧ Ow w' w.heap.size 42 u (applyE v g ds).1 ∧ Below w.heap.size w w' := by
  have hn := h.nmax
  have hlen := h.len
  have H := Lib.hid h
  have HD := Lib.hid hd
  clear h hd
  unfold Env.val
  by_cases hg : g < 0 ∨ 1125899906842624 < g
  · have HE := Lib.hid (show applyE v g ds = ([], 0, 6) by unfold applyE; rw [if_pos hg])
    rcases (show g < 0 ∨ (¬ g < 0 ∧ 1125899906842624 < g) by omega) with h1 | ⟨h1, h2⟩
    all_goals
      go_enter Try.func14, Try.ntmps14
      go_upto_region 1 with (fail)
      (obtain ⟨W, hWW, hbW, hzW, f1W, qfa⟩ := box1 w #[.int .i64 v.kind, .int .i64 v.units, .int .i64 v.weekday, .int .i64 v.minute, .int .i64 v.total, .int .i64 v.spent, .string v.zone, .string v.band, .bool v.family] 29; rw [← hWW]; have qa0 : W.cell? ⟨w.heap.size, 0, none⟩ = some (.int .i64 v.kind) := f1W 0 _ rfl; have qa1 : W.cell? ⟨w.heap.size, 1, none⟩ = some (.int .i64 v.units) := f1W 1 _ rfl; have qa2 : W.cell? ⟨w.heap.size, 2, none⟩ = some (.int .i64 v.weekday) := f1W 2 _ rfl; have qa3 : W.cell? ⟨w.heap.size, 3, none⟩ = some (.int .i64 v.minute) := f1W 3 _ rfl; have qa4 : W.cell? ⟨w.heap.size, 4, none⟩ = some (.int .i64 v.total) := f1W 4 _ rfl; have qa5 : W.cell? ⟨w.heap.size, 5, none⟩ = some (.int .i64 v.spent) := f1W 5 _ rfl; have qa6 : W.cell? ⟨w.heap.size, 6, none⟩ = some (.string v.zone) := f1W 6 _ rfl; have qa7 : W.cell? ⟨w.heap.size, 7, none⟩ = some (.string v.band) := f1W 7 _ rfl; have qa8 : W.cell? ⟨w.heap.size, 8, none⟩ = some (.bool v.family) := f1W 8 _ rfl; clear hWW f1W)
      go_wp2_with fail
      go_ret3
      rw [HE.out]
      exact ⟨_, rfl, Ow.nil_ _ _ _, hbW⟩
  · have HE := Lib.hid (show applyE v g ds = applyF v [] g ds by unfold applyE; rw [if_neg hg])
    have h1 : ¬ g < 0 := by omega
    have h2 : ¬ 1125899906842624 < g := by omega
    go_enter Try.func14, Try.ntmps14
    go_upto_region 1 with (fail)
    (obtain ⟨W, hWW, hbW, hzW, f1W, qfa⟩ := box1 w #[.int .i64 v.kind, .int .i64 v.units, .int .i64 v.weekday, .int .i64 v.minute, .int .i64 v.total, .int .i64 v.spent, .string v.zone, .string v.band, .bool v.family] 29; rw [← hWW]; have qa0 : W.cell? ⟨w.heap.size, 0, none⟩ = some (.int .i64 v.kind) := f1W 0 _ rfl; have qa1 : W.cell? ⟨w.heap.size, 1, none⟩ = some (.int .i64 v.units) := f1W 1 _ rfl; have qa2 : W.cell? ⟨w.heap.size, 2, none⟩ = some (.int .i64 v.weekday) := f1W 2 _ rfl; have qa3 : W.cell? ⟨w.heap.size, 3, none⟩ = some (.int .i64 v.minute) := f1W 3 _ rfl; have qa4 : W.cell? ⟨w.heap.size, 4, none⟩ = some (.int .i64 v.total) := f1W 4 _ rfl; have qa5 : W.cell? ⟨w.heap.size, 5, none⟩ = some (.int .i64 v.spent) := f1W 5 _ rfl; have qa6 : W.cell? ⟨w.heap.size, 6, none⟩ = some (.string v.zone) := f1W 6 _ rfl; have qa7 : W.cell? ⟨w.heap.size, 7, none⟩ = some (.string v.band) := f1W 7 _ rfl; have qa8 : W.cell? ⟨w.heap.size, 8, none⟩ = some (.bool v.family) := f1W 8 _ rfl; clear hWW f1W)
    have hgW : w.heap.size < W.heap.size := hzW
    go_wp2_with fail
    go_loopw [9, 10, 11] (fun u t i wr => ∃ (k : Nat) (out : List Giv) (rest : Int), k ≤ n ∧ i = .int .i64 k ∧ t = .int .i64 rest ∧ Ow wr W.heap.size 42 u out ∧ out.length ≤ k ∧ Below W.heap.size W wr ∧ 0 ≤ rest ∧ rest ≤ 1125899906842624 ∧ applyF v [] g ds = applyF v out rest (ds.drop k)) (fun _ _ i _ => n - (intOf i).toNat)
    case atStart => exact ⟨0, [], g, Nat.zero_le _, rfl, rfl, Ow.nil_ _ _ _, Nat.le_refl _, Below.refl _ _, by omega, by omega, rfl⟩
    case round =>
      obtain ⟨k, out, rest, hk, rfl, rfl, hown, hol, hb, hr1, hr2, hF⟩ := hrel
      have HF := Lib.hid hF
      have HOW := Lib.hid hown
      clear hF hown
      have hzb := hb.size
      have hgr : w.heap.size < wr.heap.size := by omega
      by_cases hlt : k < n
      · have hbw := hbW.trans (hb.mono hbW.size)
        obtain ⟨b, off, rfl, hbl, hcells⟩ := H.out.baseIn hbw (by omega)
        obtain ⟨x, hx⟩ := H.out.get hlt
        obtain ⟨d, hdk⟩ : ∃ d, ds[k]? = some d := ⟨ds[k]'(by have := HD.out.1; omega), List.getElem?_eq_getElem _⟩
        obtain ⟨hnm, hpt, hrp⟩ := HD.out.2 k x d hx hdk
        obtain ⟨name, it, pts⟩ := x
        obtain ⟨dn, de, dp⟩ := d
        dsimp only at hnm hpt hrp
        subst hnm hpt
        have HRP := Lib.hid (hrp.on hbw)
        have ma0 : wr.cell? ⟨b, off + k * 6, none⟩ = some (.string name) := Sl.at_ hcells hx 0 rfl
        have ma1 : wr.cell? ⟨b, off + k * 6 + 1, none⟩ = some (.int .i64 it.op) := Sl.at_ hcells hx 1 rfl
        have ma2 : wr.cell? ⟨b, off + k * 6 + 2, none⟩ = some (.int .i64 it.num) := Sl.at_ hcells hx 2 rfl
        have ma3 : wr.cell? ⟨b, off + k * 6 + 3, none⟩ = some (.string it.text) := Sl.at_ hcells hx 3 rfl
        have ma4 : wr.cell? ⟨b, off + k * 6 + 4, none⟩ = some (.slice it.A it.n it.c) := Sl.at_ hcells hx 4 rfl
        have ma5 : wr.cell? ⟨b, off + k * 6 + 5, none⟩ = some (.int .i64 pts) := Sl.at_ hcells hx 5 rfl
        have HDR := Lib.hid (HF.out.trans (by rw [dropc hdk, applyF]))
        have hkl : k < n := hlt
        have hbr : b < wr.heap.size := by omega
        clear hcells hx hdk hrp HF
        (have eqa0 := (hb.cell (p := ⟨_, _, none⟩) (by (try dsimp only) <;> omega)).trans qa0; have eqa1 := (hb.cell (p := ⟨_, _, none⟩) (by (try dsimp only) <;> omega)).trans qa1; have eqa2 := (hb.cell (p := ⟨_, _, none⟩) (by (try dsimp only) <;> omega)).trans qa2; have eqa3 := (hb.cell (p := ⟨_, _, none⟩) (by (try dsimp only) <;> omega)).trans qa3; have eqa4 := (hb.cell (p := ⟨_, _, none⟩) (by (try dsimp only) <;> omega)).trans qa4; have eqa5 := (hb.cell (p := ⟨_, _, none⟩) (by (try dsimp only) <;> omega)).trans qa5; have eqa6 := (hb.cell (p := ⟨_, _, none⟩) (by (try dsimp only) <;> omega)).trans qa6; have eqa7 := (hb.cell (p := ⟨_, _, none⟩) (by (try dsimp only) <;> omega)).trans qa7; have eqa8 := (hb.cell (p := ⟨_, _, none⟩) (by (try dsimp only) <;> omega)).trans qa8)
        obtain ⟨ht, hHt⟩ : ∃ ht, topH v de = ht := ⟨_, rfl⟩
        have HTOP := Lib.hid hHt
        rw [hHt] at HDR
        clear hHt
        go_upto_region 8 with (fail)
        have hcr : ∀ z : Wd (Below wr.heap.size wr), ∀ b o, b < wr.heap.size → z.w.cell? ⟨b, o, none⟩ = wr.cell? ⟨b, o, none⟩ := fun z => z.cells
        ((with_reducible refine wp_region_class (Below wr.heap.size wr) ?_ ?_ ?_ ?_); kernel_rfl; kernel_rfl; (exact (Below.refl _ _).drew); (intro hnonemp); skip; (repeat (any_goals (first | go_big_quiet_step (((go_at_call 22; (refine (refHolds_top v de it _ (HRP.out.on (Wd.h _))).mono ?_); rw [HTOP.out]; rintro e w' ⟨rfl, hb⟩; exact ⟨rfl, ⟨w', below_wd _ hb⟩, rfl⟩))) | (refine wpQuiet_step (fun K hK => ?_); go_simp; (first | (refine hK _ ?_; clear hK K) | (split <;> rename_i hg <;> (refine hK _ ?_; clear hK K) <;> (try simp only [Bool.not_eq_true] at hg) <;> (first | simp only [Int.not_lt.2 hg, decide_false] | simp only [Int.not_le.1 hg, decide_true] | simp only [hg, decide_true, decide_false] | skip)))))));  all_goals (refine wpQuiet_nil ?_; intro wq hgq))
        clear hcr eqa0 eqa1 eqa2 eqa3 eqa4 eqa5 eqa6 eqa7 eqa8
        obtain ⟨w1, rfl⟩ : ∃ w1, w1 = wq := ⟨_, rfl⟩
        replace HOW := Lib.hid (HOW.out.below hgq)
        (have hzhgq := hgq.size; replace ma0 := (hgq.cell (p := ⟨_, _, none⟩) (by (try dsimp only) <;> omega)).trans ma0; replace ma1 := (hgq.cell (p := ⟨_, _, none⟩) (by (try dsimp only) <;> omega)).trans ma1; replace ma2 := (hgq.cell (p := ⟨_, _, none⟩) (by (try dsimp only) <;> omega)).trans ma2; replace ma3 := (hgq.cell (p := ⟨_, _, none⟩) (by (try dsimp only) <;> omega)).trans ma3; replace ma4 := (hgq.cell (p := ⟨_, _, none⟩) (by (try dsimp only) <;> omega)).trans ma4; replace ma5 := (hgq.cell (p := ⟨_, _, none⟩) (by (try dsimp only) <;> omega)).trans ma5; replace hb := Below.trans hb (Below.mono hgq (by omega)))
        have hg1 : b < w1.heap.size := by omega
        have hg2 : W.heap.size ≤ w1.heap.size := by omega
        cases ht
        · have HN := Lib.hid (HDR.out.trans (if_pos rfl))
          clear HDR
          go_wp2_with fail
          go_roundw
          case rel => exact ⟨k + 1, out, rest, by omega, by go_num, rfl, HOW.out, by omega, hb, hr1, hr2, HN.out⟩
          case measure => simp [intOf]; omega
        · have HN := HDR.out.trans (if_neg (by decide))
          replace HN := Lib.hid HN
          clear HDR
          by_cases hp : pts < 0 ∨ 10000 < pts
          · have HG := Lib.hid (HE.out.trans (HN.out.trans (if_pos hp)))
            go_wp2_with fail
            refine (refpercent_bad rest pts _ hp).mono ?_
            rintro r w2 ⟨rfl, rfl⟩
            go_wp2_with fail
            go_ret3
            rw [HG.out]
            exact ⟨_, rfl, Ow.nil_ _ _ _, hbW.trans (hb.mono hbW.size)⟩
          · have hN := HN.out.trans (if_neg hp)
            have hpb := pct_bd (a := rest) (p := pts) hr1 ⟨by omega, by omega⟩
            obtain ⟨a, ha⟩ : ∃ a, pct rest pts = a := ⟨_, rfl⟩
            rw [ha] at hpb hN
            have HA := Lib.hid ha
            have HM := Lib.hid hN
            obtain ⟨hp1, hp2⟩ := hpb
            have hpp : 0 ≤ pts ∧ pts ≤ 10000 := by omega
            clear hN ha HN hp
            have hws : IntKind.i64.wrap (rest - a) = rest - a := IntWalk.i64_in _ (by omega)
            go_wp2_with fail
            refine (refpercent_ok rest pts _ ⟨hr1, hr2⟩ hpp).mono ?_
            rintro r w2 ⟨rfl, hb2⟩
            rw [HA.out]
            replace HOW := Lib.hid (HOW.out.below hb2)
            (have hzhb2 := hb2.size; replace ma0 := (hb2.cell (p := ⟨_, _, none⟩) (by (try dsimp only) <;> omega)).trans ma0; replace ma1 := (hb2.cell (p := ⟨_, _, none⟩) (by (try dsimp only) <;> omega)).trans ma1; replace ma2 := (hb2.cell (p := ⟨_, _, none⟩) (by (try dsimp only) <;> omega)).trans ma2; replace ma3 := (hb2.cell (p := ⟨_, _, none⟩) (by (try dsimp only) <;> omega)).trans ma3; replace ma4 := (hb2.cell (p := ⟨_, _, none⟩) (by (try dsimp only) <;> omega)).trans ma4; replace ma5 := (hb2.cell (p := ⟨_, _, none⟩) (by (try dsimp only) <;> omega)).trans ma5; replace hb := Below.trans hb (Below.mono hb2 (by omega)))
            have hg3 : b < w2.heap.size := by omega
            have hg4 : W.heap.size ≤ w2.heap.size := by omega
            by_cases ha0 : a = 0
            · subst ha0
              have HL := HM.out
              rw [if_pos rfl, Int.sub_zero] at HL
              replace HL := Lib.hid HL
              clear HM hws
              go_wp2_with fail
              go_roundw
              case rel => exact ⟨k + 1, out, rest, by omega, by go_num, by first | rfl | simp, HOW.out, by omega, hb, hr1, hr2, HL.out⟩
              case measure => simp [intOf]; omega
            · have HL := HM.out
              rw [if_neg ha0] at HL
              replace HL := Lib.hid HL
              have ha1 : (a == 0) = false := by simpa using ha0
              have ha2 : (a != 0) = true := by simpa using ha0
              clear HM
              go_wp2_with (at_builtin; go_must (
                refine wpl_append1 _ rfl (.tmp 53) (.tmp 61) 35 rfl W.heap.size 42 _ 24 Try.underlying35 info_giv rfl u9 out rfl (HOW.out.alloc _) _ ⟨name, a⟩ rfl (fun j u hu => cells_new _ _ _ _ _ (by simp) u hu) (by omega) (by omega) (by rw [alloc_size]; omega) ?_
                intro v2 w3 hown2 hu2
                have hbv2 := hu2.belowBase (HOW.out.alloc _) (hb.alloc hg4 _) (by rw [alloc_size]; omega)
                have HO2 := Lib.hid hown2
                clear hu2 hown2))
              go_roundw
              case rel => exact ⟨k + 1, out ++ [⟨name, a⟩], rest - a, by omega, by go_num, rfl, HO2.out, by simp; omega, hbv2, by omega, by omega, HL.out⟩
              case measure => simp [intOf]; omega
      · obtain rfl : k = n := by omega
        have hkn : ¬ ((k : Int) < (k : Int)) := by omega
        have hdl : ds.length = k := by rw [← HD.out.1]; exact H.out.len
        have HG := Lib.hid (HE.out.trans (HF.out.trans (by rw [List.drop_of_length_le (by omega), applyF])))
        clear hdl
        go_wp2_with fail
        go_ret3
        rw [HG.out]
        exact ⟨_, rfl, HOW.out.lower (by omega), hbW.trans (hb.mono hbW.size)⟩
theorem ne_tl {a b : ByteArray} (h : a ≠ b) : (a.toList == b.toList) = false := by
  rw [beq_eq_false_iff_ne]
  intro e
  apply h
  rw [Lib.toList_data, Lib.toList_data] at e
  obtain ⟨⟨x⟩⟩ := a
  obtain ⟨⟨y⟩⟩ := b
  cases e
  rfl
instance : DecidableEq Giv := fun a b => if h : a.name = b.name ∧ a.amt = b.amt then .isTrue (by cases a; cases b; cases h.1; cases h.2; rfl) else .isFalse (fun e => h (by rw [e]; exact ⟨rfl, rfl⟩))
set_option maxHeartbeats 4000000 in
theorem same_any (xs ys : List Giv) (A B : Option Addr) (n c m d : Nat) (w : World) (h : Sl w A n c xs) (h2 : Sl w B m d ys) :
    Calls Try.prog 15 #[.slice A n c, .slice B m d] w fun r w' => r = .returned (.bool (decide (xs = ys))) ∧ Below w.heap.size w w' := by
  have hn := h.nmax
  have hl1 := h.len
  have hl2 := h2.len
  have H := Lib.hid h
  have H2 := Lib.hid h2
  clear h h2
  by_cases he : n = m
  · subst he
    go_enter Try.func15, Try.ntmps15
    go_wp2_with fail
    go_loopw [5] (fun i wr => ∃ (k : Nat), k ≤ n ∧ i = .int .i64 k ∧ xs.take k = ys.take k ∧ Below w.heap.size w wr) (fun i _ => n - (intOf i).toNat)
    case atStart => exact ⟨0, Nat.zero_le _, rfl, rfl, Below.refl _ _⟩
    case round =>
      obtain ⟨k, hk, rfl, hT, hb⟩ := hrel
      have HT := Lib.hid hT
      clear hT
      by_cases hlt : k < n
      · obtain ⟨b, off, rfl, hbl, hcells⟩ := H.out.baseIn hb (by omega)
        obtain ⟨b2, off2, rfl, hbl2, hcells2⟩ := H2.out.baseIn hb (by omega)
        obtain ⟨x, hx⟩ := H.out.get hlt
        obtain ⟨y, hy⟩ := H2.out.get hlt
        have c0 : wr.cell? ⟨b, off + k * 2, none⟩ = some (.string x.name) := Sl.at_ hcells hx 0 rfl
        have c1 : wr.cell? ⟨b, off + k * 2 + 1, none⟩ = some (.int .i64 x.amt) := Sl.at_ hcells hx 1 rfl
        have e0 : wr.cell? ⟨b2, off2 + k * 2, none⟩ = some (.string y.name) := Sl.at_ hcells2 hy 0 rfl
        have e1 : wr.cell? ⟨b2, off2 + k * 2 + 1, none⟩ = some (.int .i64 y.amt) := Sl.at_ hcells2 hy 1 rfl
        have HX := Lib.hid hx
        have HY := Lib.hid hy
        clear hcells hcells2 hx hy
        by_cases hxy : x = y
        · subst hxy
          have HN := Lib.hid (show xs.take (k + 1) = ys.take (k + 1) by rw [List.take_add_one, List.take_add_one, HT.out, HX.out, HY.out])
          have b0 : (x.name.toList == x.name.toList) = true := by simp
          have b1 : (x.amt == x.amt) = true := by simp
          go_upto_region 6 with (fail)
          go_still_tail 8, (by kernel_rfl)
          change wpList _ _ _ _ _ wr.drew
          go_wp2_with fail
          all_goals first | (exfalso; contradiction; done) | (exfalso; simp_all; done) | skip
          go_roundw
          case rel => exact ⟨k + 1, by omega, by go_num, HN.out, hb.trans ((Below.refl _ _).drew.mono (by exact hb.size))⟩
          case measure => simp [intOf]; omega
        · have hne : xs ≠ ys := by
            intro e
            subst e
            have := HX.out.symm.trans HY.out
            exact hxy (Option.some.inj this)
          have HNE := Lib.hid hne
          have hor : x.name ≠ y.name ∨ (x.name = y.name ∧ x.amt ≠ y.amt) := by
            by_cases h1 : x.name = y.name
            · exact .inr ⟨h1, fun h2 => hxy (by cases x; cases y; cases h1; cases h2; rfl)⟩
            · exact .inl h1
          clear hne hxy
          rcases hor with h1 | ⟨h1, h2⟩
          · have b0 : (x.name.toList == y.name.toList) = false := ne_tl h1
            go_upto_region 6 with (fail)
            go_still_tail 8, (by kernel_rfl)
            change wpList _ _ _ _ _ wr.drew
            go_wp2_with fail
            go_ret
            exact ⟨ret_bool (decide_eq_false HNE.out).symm, hb.trans ((Below.refl _ _).drew.mono (by exact hb.size))⟩
          · have b0 : (x.amt == y.amt) = false := by simpa using h2
            rw [h1] at c0
            go_upto_region 6 with (fail)
            go_still_tail 8, (by kernel_rfl)
            change wpList _ _ _ _ _ wr.drew
            go_wp2_with fail
            go_ret
            exact ⟨ret_bool (decide_eq_false HNE.out).symm, hb.trans ((Below.refl _ _).drew.mono (by exact hb.size))⟩
      · obtain rfl : k = n := by omega
        have HE := Lib.hid (show xs = ys by have := HT.out; rw [List.take_of_length_le (by omega), List.take_of_length_le (by omega)] at this; exact this)
        have hkn : ¬ ((k : Int) < (k : Int)) := by omega
        go_wp2_with fail
        go_ret
        exact ⟨ret_bool (decide_eq_true HE.out).symm, hb⟩
  · have HNE := Lib.hid (show xs ≠ ys by intro e; subst e; omega)
    have hne2 : ((n : Int) != (m : Int)) = true := by simpa using (show ¬ ((n : Int) = (m : Int)) by omega)
    go_enter Try.func15, Try.ntmps15
    go_wp2_with fail
    go_ret
    exact ⟨ret_bool (decide_eq_false HNE.out).symm, Below.refl _ _⟩
end Dc
end Go.Proofs.Ytdjlfdbdhacmjaa
