/-
  Dedup: Filter. No condition.
-/
import Derived.Test.YtdcekckghlpamaaDedS
import Derived.BigQuiet
import Derived.StillTailTactics
import Derived.Lib.Overlaps
import Derived.Deep.DeepCutAuto
import Derived.Deep.RegionWith
import Derived.Laws.RangeAny
set_option maxRecDepth 100000
set_option linter.unusedVariables false
set_option linter.unusedSimpArgs false
namespace Go.Proofs.Ytdcekckghlpamaa
open Go.RowKit

namespace Dd
def FilPost (w : World) (F : Fst) (e : Ending) (w' : World) : Prop :=
  ∃ v1 v2 v3, e = .returned (.tuple #[v1, v2, v3]) ∧ Ow w' w.heap.size 30 v1 F.1 ∧ Ow w' w.heap.size 44 v2 F.2.1 ∧ Ow w' w.heap.size 52 v3 F.2.2 ∧ Below w.heap.size w w'
theorem FilPost.mk_ {w w' : World} {F : Fst} {K : List Nat} {v1 v2 v3 : Value} (h : FS w.heap.size w w' K v1 v2 v3 F) : FilPost w F (.returned (.tuple #[v1, v2, v3])) w' :=
  ⟨v1, v2, v3, rfl, h.a1, h.a2, h.a3, h.hb⟩
theorem FS.start {w w' : World} {v1 : Value} {xs : List Rng} (hb : Below w.heap.size w w') (h : Ow w' w.heap.size 30 v1 xs) : FS w.heap.size w w' [] v1 (.slice none 0 0) (.slice none 0 0) (xs, [], []) :=
  ⟨h, Ow.nil_ _ _ _, Ow.nil_ _ _ _, hb, hb.size, Sep.symm (.inl rfl), Sep.symm (.inl rfl), .inl rfl, fun b hb => by simp at hb⟩
set_option maxHeartbeats 16000000 in
theorem filter_any (A1 : Option Addr) (m1 c1 : Nat) (xs : List Rng) (A : Option Addr) (n c : Nat) (l : List Rec) (w : World) (h1 : Sl w A1 m1 c1 xs) (hN : NilOk A1 c1) (hcan : Can xs) (hm : m1 ≤ 1000) (h : Sl w A n c l) (hn : n ≤ 200) :
    Calls Try.prog 23 #[.slice A1 m1 c1, .slice A n c] w (FilPost w (filt xs l)) := by
  have hlen := h.len
  have hlen1 := h1.len
  have H := Lib.hid h
  have H1 := Lib.hid h1
  have HN := Lib.hid hN
  have HC := Lib.hid hcan
  have HLEN := Lib.hid hlen
  clear h h1 hN hcan
  go_enter Try.func23, Try.ntmps23
  go_upto_region 1 with (fail)
  (obtain ⟨W, hWW, hbW, hzW, f1W, qfa⟩ := box1 w #[.slice A n c] 36; rw [← hWW]; have qa0 : W.cell? ⟨w.heap.size, 0, none⟩ = some (.slice A n c) := f1W 0 _ rfl; clear hWW f1W)
  have hgr1 : w.heap.size < W.heap.size := hzW
  go_wp2_with fail
  refine (clone_any A1 m1 c1 xs _ (H1.out.below hbW) HN.out (by omega)).mono ?_
  rintro e w2 ⟨v0, rfl, ho2, hb2⟩
  have hF0 : FS w.heap.size w w2 [] v0 (.slice none 0 0) (.slice none 0 0) (xs, [], []) := FS.start (hbW.trans (hb2.mono hbW.size)) (ho2.lower hbW.size)
  have hF1 : FS w.heap.size w w2 [w.heap.size] v0 (.slice none 0 0) (.slice none 0 0) (xs, [], []) :=
    ⟨hF0.a1, hF0.a2, hF0.a3, hF0.hb, hF0.bs, hF0.s12, hF0.s13, hF0.s23, fun b hb => by
      simp at hb; subst hb
      exact ⟨Nat.lt_of_lt_of_le hgr1 hb2.size, fun e => by have := (ho2.lt _ e).1; omega, by simp [Value.ownBlock], by simp [Value.ownBlock]⟩⟩
  have hgr2 := Nat.lt_of_lt_of_le hgr1 hb2.size
  replace qa0 := (hb2.cell (p := ⟨w.heap.size, 0, none⟩) hgr1).trans qa0
  have HF1 := Lib.hid hF1
  clear hF0 hF1 ho2 hb2 hbW qfa hzW
  go_upto_region 4 with (fail)
  (obtain ⟨X, hWX, hbX, hzX, f1X, pfa⟩ := box1 w2 #[.slice none 0 0] 37; rw [← hWX]; have pa0 : X.cell? ⟨w2.heap.size, 0, none⟩ = some (.slice none 0 0) := f1X 0 _ rfl; clear hWX f1X)
  have HF2 := Lib.hid (HF1.out.push hbX hzX)
  replace qa0 := (hbX.cell (p := ⟨w.heap.size, 0, none⟩) hgr2).trans qa0
  have HCL0 : Hid (Cl X w2.heap.size w.heap.size (.slice none 0 0) (.slice A n c)) := Lib.hid ⟨pa0, pfa 0, qa0⟩
  have hgg : w2.heap.size ≠ w.heap.size := by omega
  have hwg : w.heap.size ≤ w2.heap.size := by omega
  replace HF2 : Hid (FS w.heap.size w X [w.heap.size, w2.heap.size] v0 (.slice none 0 0) (.slice none 0 0) (xs, [], [])) := Lib.hid (HF2.out.sub (by intro b hb; simp at hb ⊢; omega))
  clear HF1 hbX hzX pfa
  go_wp2_with fail
  go_loopw [7, 8, 18] (fun s7 s8 i wr => ∃ (k : Nat) (v1 v2 v3 : Value), k ≤ n ∧ i = .int .i64 k ∧ v1 = s7 ∧ v2 = s8 ∧ FS w.heap.size w wr [w.heap.size, w2.heap.size] v1 v2 v3 (filtK xs l k) ∧ Cl wr w2.heap.size w.heap.size v3 (.slice A n c)) (fun _ _ i _ => n - (intOf i).toNat)
  case atStart => exact ⟨0, _, _, _, Nat.zero_le _, rfl, rfl, rfl, HF2.out.sub (by simp), HCL0.out⟩
  case round =>
    clear HF2 HCL0 qa0 pa0
    obtain ⟨k, v1, v2, v3, hk, rfl, rfl, rfl, hf, hcl⟩ := hrel
    have hinv := filtK_inv HC.out k (l := l) (by omega)
    have hgl := (hf.ap w2.heap.size (by simp)).1
    have hgrl := (hf.ap w.heap.size (by simp)).1
    have hbs := hf.bs
    obtain ⟨F, hF⟩ : ∃ F, filtK xs l k = F := ⟨_, rfl⟩
    rw [hF] at hf hinv
    have HFK := Lib.hid hF
    have HF := Lib.hid hf
    have HCL := Lib.hid hcl
    obtain ⟨hcan, hl1, hl2⟩ := hinv
    have HCAN := Lib.hid hcan
    clear hf hcl hcan hF
    by_cases hlt : k < n
    · obtain ⟨b, off, rfl, hbl, hcells⟩ := H.out.baseIn HF.out.hb (by omega)
      obtain ⟨r, hx⟩ := H.out.get hlt
      have HX := Lib.hid hx
      have c0 : wr.cell? ⟨b, off + k * 12, none⟩ = some (.int .i64 r.src) := Sl.at_ hcells hx 0 rfl
      have c1 : wr.cell? ⟨b, off + k * 12 + 1, none⟩ = some (.int .i64 r.ser) := Sl.at_ hcells hx 1 rfl
      have c2 : wr.cell? ⟨b, off + k * 12 + 2, none⟩ = some (.int .i64 r.kind) := Sl.at_ hcells hx 2 rfl
      have c3 : wr.cell? ⟨b, off + k * 12 + 3, none⟩ = some (.string r.a) := Sl.at_ hcells hx 3 rfl
      have c4 : wr.cell? ⟨b, off + k * 12 + 4, none⟩ = some (.string r.b) := Sl.at_ hcells hx 4 rfl
      have c5 : wr.cell? ⟨b, off + k * 12 + 5, none⟩ = some (.int .i64 r.start) := Sl.at_ hcells hx 5 rfl
      have c6 : wr.cell? ⟨b, off + k * 12 + 6, none⟩ = some (.int .i64 r.units) := Sl.at_ hcells hx 6 rfl
      have c7 : wr.cell? ⟨b, off + k * 12 + 7, none⟩ = some (.int .i64 r.call) := Sl.at_ hcells hx 7 rfl
      have c8 : wr.cell? ⟨b, off + k * 12 + 8, none⟩ = some (.int .i64 r.part) := Sl.at_ hcells hx 8 rfl
      have c9 : wr.cell? ⟨b, off + k * 12 + 9, none⟩ = some (.bool r.last) := Sl.at_ hcells hx 9 rfl
      have c10 : wr.cell? ⟨b, off + k * 12 + 10, none⟩ = some (.int .i64 r.trunk) := Sl.at_ hcells hx 10 rfl
      have c11 : wr.cell? ⟨b, off + k * 12 + 11, none⟩ = some (.bool r.inb) := Sl.at_ hcells hx 11 rfl
      have hcr := HCL.out.2.2
      clear hcells hx
      go_upto_region 11 with (fail)
      (obtain ⟨V, hWV, hbV, hzV, f1V, mfa⟩ := box1 wr #[.int .i64 r.src, .int .i64 r.ser, .int .i64 r.kind, .string r.a, .string r.b, .int .i64 r.start, .int .i64 r.units, .int .i64 r.call, .int .i64 r.part, .bool r.last, .int .i64 r.trunk, .bool r.inb] 44; rw [← hWV]; have ma0 : V.cell? ⟨wr.heap.size, 0, none⟩ = some (.int .i64 r.src) := f1V 0 _ rfl; have ma1 : V.cell? ⟨wr.heap.size, 1, none⟩ = some (.int .i64 r.ser) := f1V 1 _ rfl; have ma2 : V.cell? ⟨wr.heap.size, 2, none⟩ = some (.int .i64 r.kind) := f1V 2 _ rfl; have ma3 : V.cell? ⟨wr.heap.size, 3, none⟩ = some (.string r.a) := f1V 3 _ rfl; have ma4 : V.cell? ⟨wr.heap.size, 4, none⟩ = some (.string r.b) := f1V 4 _ rfl; have ma5 : V.cell? ⟨wr.heap.size, 5, none⟩ = some (.int .i64 r.start) := f1V 5 _ rfl; have ma6 : V.cell? ⟨wr.heap.size, 6, none⟩ = some (.int .i64 r.units) := f1V 6 _ rfl; have ma7 : V.cell? ⟨wr.heap.size, 7, none⟩ = some (.int .i64 r.call) := f1V 7 _ rfl; have ma8 : V.cell? ⟨wr.heap.size, 8, none⟩ = some (.int .i64 r.part) := f1V 8 _ rfl; have ma9 : V.cell? ⟨wr.heap.size, 9, none⟩ = some (.bool r.last) := f1V 9 _ rfl; have ma10 : V.cell? ⟨wr.heap.size, 10, none⟩ = some (.int .i64 r.trunk) := f1V 10 _ rfl; have ma11 : V.cell? ⟨wr.heap.size, 11, none⟩ = some (.bool r.inb) := f1V 11 _ rfl; clear hWV f1V)
      have hd0 := (hbV.cell (p := ⟨b, off + k * 12, none⟩) (show b < wr.heap.size by omega)).trans c0
      have hd1 := (hbV.cell (p := ⟨b, off + k * 12 + 1, none⟩) (show b < wr.heap.size by omega)).trans c1
      replace HCL := Lib.hid (HCL.out.below hbV hgl hgrl)
      replace HF := Lib.hid (HF.out.push hbV hzV)
      obtain ⟨q, hq⟩ : ∃ q, wr.heap.size = q := ⟨_, rfl⟩
      rw [hq] at HF ma0 ma1 ma2 ma3 ma4 ma5 ma6 ma7 ma8 ma9 ma10 ma11 ⊢
      replace hgl : w2.heap.size < V.heap.size := by omega
      replace hgrl : w.heap.size < V.heap.size := by omega
      have hql : q < V.heap.size := by omega
      have hbs2 : w.heap.size ≤ V.heap.size := by omega
      clear c0 c1 c2 c3 c4 c5 c6 c7 c8 c9 c10 c11 hbV mfa hcr
      cases hid : ident r.src r.ser
      · go_wp2_with fail
        refine (identity_any _ _ _).mono ?_
        rintro e w' ⟨rfl, rfl⟩
        rw [hid]
        have HID := Lib.hid hid
        clear hid ma0 ma1 ma2 ma3 ma4 ma5 ma6 ma7 ma8 ma9 ma10 ma11
        go_wp2_with (go_at_call 32; go_must (
          refine (refuse_any w2.heap.size w.heap.size b off n c k r 6 w.heap.size w V [q, w.heap.size, w2.heap.size] v1 v2 v3 F HF.out (by omega) hlt (by omega) (by simp) (by simp) hgg hwg hbl HCL.out hd0 hd1).mono ?_
          rintro e w5 ⟨u, rfl, hf5, hc5⟩))
        have HF5 := Lib.hid hf5
        have HC5 := Lib.hid hc5
        clear hf5 hc5
        go_roundw
        case rel => exact ⟨k + 1, v1, v2, u, by omega, by go_num, rfl, rfl, by rw [filtK_succ HX.out, HFK.out, fstep_range HID.out]; exact HF5.out.sub (by simp), HC5.out⟩
        case measure => simp [intOf]; omega
      · go_wp2_with fail
        refine (identity_any _ _ _).mono ?_
        rintro e w' ⟨rfl, rfl⟩
        rw [hid]
        have HID := Lib.hid hid
        clear hid
        obtain ⟨A3, c3, hv3, _, hs3⟩ := HF.out.a1.slN
        obtain ⟨m3, hm3⟩ : ∃ m3, F.1.length = m3 := ⟨_, rfl⟩
        rw [hm3] at hv3 hs3
        subst hv3
        have HS3 := Lib.hid hs3
        clear hs3
        go_wp2_with fail
        refine (has_any A3 m3 c3 F.1 r.src r.ser _ HS3.out HCAN.out (by omega)).mono ?_
        rintro e w4 ⟨rfl, hb4⟩
        replace HCL := Lib.hid (HCL.out.below hb4 hgl hgrl)
        replace HF := Lib.hid (HF.out.below hb4)
        have hz4 := hb4.size
        cases hh : hasL F.1 r.src r.ser
        · have HH := Lib.hid hh
          clear hh
          (have hzhb4 := hb4.size; replace ma0 := (hb4.cell (p := ⟨_, _, none⟩) (by (try dsimp only) <;> omega)).trans ma0; replace ma1 := (hb4.cell (p := ⟨_, _, none⟩) (by (try dsimp only) <;> omega)).trans ma1; replace ma2 := (hb4.cell (p := ⟨_, _, none⟩) (by (try dsimp only) <;> omega)).trans ma2; replace ma3 := (hb4.cell (p := ⟨_, _, none⟩) (by (try dsimp only) <;> omega)).trans ma3; replace ma4 := (hb4.cell (p := ⟨_, _, none⟩) (by (try dsimp only) <;> omega)).trans ma4; replace ma5 := (hb4.cell (p := ⟨_, _, none⟩) (by (try dsimp only) <;> omega)).trans ma5; replace ma6 := (hb4.cell (p := ⟨_, _, none⟩) (by (try dsimp only) <;> omega)).trans ma6; replace ma7 := (hb4.cell (p := ⟨_, _, none⟩) (by (try dsimp only) <;> omega)).trans ma7; replace ma8 := (hb4.cell (p := ⟨_, _, none⟩) (by (try dsimp only) <;> omega)).trans ma8; replace ma9 := (hb4.cell (p := ⟨_, _, none⟩) (by (try dsimp only) <;> omega)).trans ma9; replace ma10 := (hb4.cell (p := ⟨_, _, none⟩) (by (try dsimp only) <;> omega)).trans ma10; replace ma11 := (hb4.cell (p := ⟨_, _, none⟩) (by (try dsimp only) <;> omega)).trans ma11)
          have hadd : addOk F.1 r.src r.ser = true := by rw [addOk, HID.out, HH.out]; rfl
          have HADD := Lib.hid hadd
          have hid2 := ident_iff.1 HID.out
          obtain ⟨i1, i2, i3, i4⟩ := hid2
          clear hadd hb4 HS3 hd0 hd1
          go_wp2_with fail
          refine (ins_any w.heap.size (.slice A3 m3 c3) F.1 r.src r.ser _ HF.out.a1 HCAN.out.bh (by omega) (by omega) HF.out.bs).mono ?_
          rintro e w5 ⟨i, hi1, hi2, hi3, v5, rfl, ho5, hu5⟩
          rw [ins_eq HCAN.out HID.out HH.out hi1 hi2 hi3] at ho5
          clear hi1 hi2 hi3
          have hqn := (HF.out.ap q (by simp)).2.1
          have hq4 : q < w4.heap.size := by omega
          replace HCL := Lib.hid (HCL.out.upd hu5 (by omega) (by omega) (HF.out.ap w2.heap.size (by simp)).2.1 (HF.out.ap w.heap.size (by simp)).2.1)
          replace HF := Lib.hid (HF.out.up1 hu5 ho5)
          replace ma0 := upd_cell hu5 hq4 hqn ma0
          replace ma1 := upd_cell hu5 hq4 hqn ma1
          replace ma2 := upd_cell hu5 hq4 hqn ma2
          replace ma3 := upd_cell hu5 hq4 hqn ma3
          replace ma4 := upd_cell hu5 hq4 hqn ma4
          replace ma5 := upd_cell hu5 hq4 hqn ma5
          replace ma6 := upd_cell hu5 hq4 hqn ma6
          replace ma7 := upd_cell hu5 hq4 hqn ma7
          replace ma8 := upd_cell hu5 hq4 hqn ma8
          replace ma9 := upd_cell hu5 hq4 hqn ma9
          replace ma10 := upd_cell hu5 hq4 hqn ma10
          replace ma11 := upd_cell hu5 hq4 hqn ma11
          have hz5 := hu5.size
          clear ho5 hu5
          have hba := (Below.refl w5.heap.size w5).alloc (Nat.le_refl _) (.cells #[.int .i64 r.src, .int .i64 r.ser, .int .i64 r.kind, .string r.a, .string r.b, .int .i64 r.start, .int .i64 r.units, .int .i64 r.call, .int .i64 r.part, .bool r.last, .int .i64 r.trunk, .bool r.inb] 44)
          have HFA := Lib.hid (HF.out.below hba)
          have HCA := Lib.hid (HCL.out.below hba (by omega) (by omega))
          have hgA := (HFA.out.ap w2.heap.size (by simp))
          have hgrA := (HFA.out.ap w.heap.size (by simp))
          clear hba
          go_upto_region 15 with (at_builtin; go_must (
            refine wpl_append1 _ rfl (.tmp 31) (.tmp 33) 36 rfl w.heap.size 44 _ 112 Try.underlying36 info_rec rfl v2 F.2.1 rfl HFA.out.a2 _ r rfl (fun j u hu => cells_new _ _ _ _ _ (by simp) u hu) (by omega) (by omega) HFA.out.bs ?_
            intro v6 w6 ho6 hu6))
          have HF6 := Lib.hid (HFA.out.up2 hu6 ho6)
          have HC6 := Lib.hid (HCA.out.upd hu6 hgA.1 hgrA.1 hgA.2.2.1 hgrA.2.2.1)
          clear ho6 hu6 hgA hgrA
          go_wp2_with fail
          go_roundw
          case rel => exact ⟨k + 1, v5, v6, v3, by omega, by go_num, rfl, rfl, by rw [filtK_succ HX.out, HFK.out, fstep_yes HADD.out]; exact HF6.out.sub (by simp), HC6.out⟩
          case measure => simp [intOf]; omega
        · have HH := Lib.hid hh
          clear hh
          replace hd0 := (hb4.cell (p := ⟨b, off + k * 12, none⟩) (show b < V.heap.size by omega)).trans hd0
          replace hd1 := (hb4.cell (p := ⟨b, off + k * 12 + 1, none⟩) (show b < V.heap.size by omega)).trans hd1
          clear hb4 HS3 ma0 ma1 ma2 ma3 ma4 ma5 ma6 ma7 ma8 ma9 ma10 ma11
          go_wp2_with (go_at_call 32; go_must (
            refine (refuse_any w2.heap.size w.heap.size b off n c k r 13 w.heap.size w w4 [q, w.heap.size, w2.heap.size] (.slice A3 m3 c3) v2 v3 F HF.out (by omega) hlt (by omega) (by simp) (by simp) hgg hwg hbl HCL.out hd0 hd1).mono ?_
            rintro e w5 ⟨u, rfl, hf5, hc5⟩))
          have HF5 := Lib.hid hf5
          have HC5 := Lib.hid hc5
          clear hf5 hc5
          go_roundw
          case rel => exact ⟨k + 1, _, v2, u, by omega, by go_num, rfl, rfl, by rw [filtK_succ HX.out, HFK.out, fstep_dup HID.out HH.out]; exact HF5.out.sub (by simp), HC5.out⟩
          case measure => simp [intOf]; omega
    · obtain rfl : n = k := by omega
      have hkn : ¬ ((n : Int) < (n : Int)) := by omega
      have hc0 := HCL.out.1
      go_wp2_with fail
      ((with_reducible refine wp_region_quiet_lit ?_ ?_ ?_); kernel_rfl; kernel_rfl; (repeat (any_goals (first | go_big_quiet_step (fail) | (refine wpQuiet_step (fun K hK => ?_); go_simp; (first | (refine hK _ ?_; clear hK K) | (split <;> rename_i hg <;> (refine hK _ ?_; clear hK K) <;> (try simp only [Bool.not_eq_true] at hg) <;> (first | simp only [Int.not_lt.2 hg, decide_false] | simp only [Int.not_le.1 hg, decide_true] | simp only [hg, decide_true, decide_false] | skip))))))); all_goals (refine wpQuiet_nil ?_; intro _ hw'; obtain ⟨nq, hw''⟩ := hw'; subst hw''))
      go_wp2_with fail
      go_ret3
      have hff : filt xs l = F := by rw [filt, HLEN.out, HFK.out]
      rw [hff]
      exact FilPost.mk_ (HF.out.below (below_drewN (Below.refl _ _) _))
end Dd
end Go.Proofs.Ytdcekckghlpamaa
