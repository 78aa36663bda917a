/-
  Dedup: the reference's Filter. No condition.
-/
import Derived.Test.YtdcekckghlpamaaDedT
import Derived.BigQuiet
import Derived.StillTailTactics
import Derived.Lib.Overlaps
import Derived.Deep.DeepCutAuto
import Derived.Deep.RegionWith
import Derived.Laws.RangeAny
set_option maxRecDepth 100000
set_option linter.unusedVariables false
set_option linter.unusedSimpArgs false
namespace Go.Proofs.Ytdcekckghlpamaa
open Go.RowKit

namespace Dd
theorem addOk_no {xs : List Rng} {s n : Int} (h : addOk xs s n = false) (hi : ident s n = true) : hasL xs s n = true := by
  rw [addOk, hi] at h; simpa using h
set_option maxHeartbeats 16000000 in
theorem reffilter_any (A1 : Option Addr) (m1 c1 : Nat) (xs : List Rng) (A : Option Addr) (n c : Nat) (l : List Rec) (w : World) (h1 : Sl w A1 m1 c1 xs) (hN : NilOk A1 c1) (hcan : Can xs) (hm : m1 ≤ 1000) (h : Sl w A n c l) (hn : n ≤ 200) :
    Calls Try.prog 24 #[.slice A1 m1 c1, .slice A n c] w (FilPost w (filt xs l)) := by
  have hlen := h.len
  have hlen1 := h1.len
  have H := Lib.hid h
  have H1 := Lib.hid h1
  have HN := Lib.hid hN
  have HC := Lib.hid hcan
  have HLEN := Lib.hid hlen
  have hm0 : (([] : List Rng)).length + m1 ≤ 2000000 := by simp; omega
  have HOW0 : Hid (Ow (w.alloc (.cells #[] 30)) w.heap.size 30 (.slice (some ⟨w.heap.size, 0, none⟩) 0 0) ([] : List Rng)) := Lib.hid (World.ownsRow_lit w #[] 0 (Nat.le_refl _) (Nat.zero_le _) rfl)
  clear h h1 hN hcan
  go_enter Try.func24, Try.ntmps24
  go_upto_region 2 with (at_builtin; go_must (
    refine wpl_appendS _ rfl (.tmp 15) (.tmp 16) 22 rfl w.heap.size 30 _ 24 Try.underlying22 info_rng rfl (.slice (some ⟨w.heap.size, 0, none⟩) 0 0) ([] : List Rng) rfl (World.ownsRow_lit w #[] 0 (Nat.le_refl _) (Nat.zero_le _) rfl) A1 m1 c1 xs rfl HN.out (H1.out.below ((Below.refl _ _).alloc (Nat.le_refl _) _)) hm0 (by omega) (by simp) ?_
    intro v0 w2 ho2 hu2))
  rw [List.nil_append] at ho2
  have hb2 : Below w.heap.size w w2 := hu2.belowBase HOW0.out ((Below.refl _ _).alloc (Nat.le_refl _) _) (by simp)
  have HF2 := Lib.hid (FS.start hb2 ho2)
  clear ho2 hu2 hb2
  go_wp2_with fail
  go_loopw [7, 8, 9, 10] (fun s7 s8 s9 i wr => ∃ (k : Nat) (v1 v2 v3 : Value), k ≤ n ∧ i = .int .i64 k ∧ v1 = s7 ∧ v2 = s8 ∧ v3 = s9 ∧ FS w.heap.size w wr [] v1 v2 v3 (filtK xs l k)) (fun _ _ _ i _ => n - (intOf i).toNat)
  case atStart => exact ⟨0, _, _, _, Nat.zero_le _, rfl, rfl, rfl, rfl, HF2.out⟩
  case round =>
    clear HF2
    obtain ⟨k, v1, v2, v3, hk, rfl, rfl, rfl, rfl, hf⟩ := hrel
    have hinv := filtK_inv HC.out k (l := l) (by omega)
    have hbs := hf.bs
    obtain ⟨F, hF⟩ : ∃ F, filtK xs l k = F := ⟨_, rfl⟩
    rw [hF] at hf hinv
    have HFK := Lib.hid hF
    have HF := Lib.hid hf
    obtain ⟨hcan, hl1, hl2⟩ := hinv
    have HCAN := Lib.hid hcan
    clear hf hcan hF
    by_cases hlt : k < n
    · obtain ⟨b, off, rfl, hbl, hcells⟩ := H.out.baseIn HF.out.hb (by omega)
      obtain ⟨r, hx⟩ := H.out.get hlt
      have HX := Lib.hid hx
      have c0 : wr.cell? ⟨b, off + k * 12, none⟩ = some (.int .i64 r.src) := Sl.at_ hcells hx 0 rfl
      have c1 : wr.cell? ⟨b, off + k * 12 + 1, none⟩ = some (.int .i64 r.ser) := Sl.at_ hcells hx 1 rfl
      have c2 : wr.cell? ⟨b, off + k * 12 + 2, none⟩ = some (.int .i64 r.kind) := Sl.at_ hcells hx 2 rfl
      have c3 : wr.cell? ⟨b, off + k * 12 + 3, none⟩ = some (.string r.a) := Sl.at_ hcells hx 3 rfl
      have c4 : wr.cell? ⟨b, off + k * 12 + 4, none⟩ = some (.string r.b) := Sl.at_ hcells hx 4 rfl
      have c5 : wr.cell? ⟨b, off + k * 12 + 5, none⟩ = some (.int .i64 r.start) := Sl.at_ hcells hx 5 rfl
      have c6 : wr.cell? ⟨b, off + k * 12 + 6, none⟩ = some (.int .i64 r.units) := Sl.at_ hcells hx 6 rfl
      have c7 : wr.cell? ⟨b, off + k * 12 + 7, none⟩ = some (.int .i64 r.call) := Sl.at_ hcells hx 7 rfl
      have c8 : wr.cell? ⟨b, off + k * 12 + 8, none⟩ = some (.int .i64 r.part) := Sl.at_ hcells hx 8 rfl
      have c9 : wr.cell? ⟨b, off + k * 12 + 9, none⟩ = some (.bool r.last) := Sl.at_ hcells hx 9 rfl
      have c10 : wr.cell? ⟨b, off + k * 12 + 10, none⟩ = some (.int .i64 r.trunk) := Sl.at_ hcells hx 10 rfl
      have c11 : wr.cell? ⟨b, off + k * 12 + 11, none⟩ = some (.bool r.inb) := Sl.at_ hcells hx 11 rfl
      clear hcells hx
      go_upto_region 8 with (fail)
      (obtain ⟨V, hWV, hbV, hzV, f1V, mfa⟩ := box1 wr #[.int .i64 r.src, .int .i64 r.ser, .int .i64 r.kind, .string r.a, .string r.b, .int .i64 r.start, .int .i64 r.units, .int .i64 r.call, .int .i64 r.part, .bool r.last, .int .i64 r.trunk, .bool r.inb] 44; rw [← hWV]; have ma0 : V.cell? ⟨wr.heap.size, 0, none⟩ = some (.int .i64 r.src) := f1V 0 _ rfl; have ma1 : V.cell? ⟨wr.heap.size, 1, none⟩ = some (.int .i64 r.ser) := f1V 1 _ rfl; have ma2 : V.cell? ⟨wr.heap.size, 2, none⟩ = some (.int .i64 r.kind) := f1V 2 _ rfl; have ma3 : V.cell? ⟨wr.heap.size, 3, none⟩ = some (.string r.a) := f1V 3 _ rfl; have ma4 : V.cell? ⟨wr.heap.size, 4, none⟩ = some (.string r.b) := f1V 4 _ rfl; have ma5 : V.cell? ⟨wr.heap.size, 5, none⟩ = some (.int .i64 r.start) := f1V 5 _ rfl; have ma6 : V.cell? ⟨wr.heap.size, 6, none⟩ = some (.int .i64 r.units) := f1V 6 _ rfl; have ma7 : V.cell? ⟨wr.heap.size, 7, none⟩ = some (.int .i64 r.call) := f1V 7 _ rfl; have ma8 : V.cell? ⟨wr.heap.size, 8, none⟩ = some (.int .i64 r.part) := f1V 8 _ rfl; have ma9 : V.cell? ⟨wr.heap.size, 9, none⟩ = some (.bool r.last) := f1V 9 _ rfl; have ma10 : V.cell? ⟨wr.heap.size, 10, none⟩ = some (.int .i64 r.trunk) := f1V 10 _ rfl; have ma11 : V.cell? ⟨wr.heap.size, 11, none⟩ = some (.bool r.inb) := f1V 11 _ rfl; clear hWV f1V)
      replace HF := Lib.hid (HF.out.push hbV hzV)
      have hbs2 : w.heap.size ≤ V.heap.size := by omega
      clear c0 c1 c2 c3 c4 c5 c6 c7 c8 c9 c10 c11 hbV mfa
      obtain ⟨A3, c3, hv3, _, hs3⟩ := HF.out.a1.slN
      obtain ⟨m3, hm3⟩ : ∃ m3, F.1.length = m3 := ⟨_, rfl⟩
      rw [hm3] at hv3 hs3
      subst hv3
      have HS3 := Lib.hid hs3
      clear hs3
      go_wp2_with fail
      refine (refadd_any A3 m3 c3 F.1 r.src r.ser _ HS3.out HCAN.out (by omega)).mono ?_
      rintro e w4 ⟨v4, rfl, ho4, hb4⟩
      have hz4 := hb4.size
      (have hzhb4 := hb4.size; replace ma0 := (hb4.cell (p := ⟨_, _, none⟩) (by (try dsimp only) <;> omega)).trans ma0; replace ma1 := (hb4.cell (p := ⟨_, _, none⟩) (by (try dsimp only) <;> omega)).trans ma1; replace ma2 := (hb4.cell (p := ⟨_, _, none⟩) (by (try dsimp only) <;> omega)).trans ma2; replace ma3 := (hb4.cell (p := ⟨_, _, none⟩) (by (try dsimp only) <;> omega)).trans ma3; replace ma4 := (hb4.cell (p := ⟨_, _, none⟩) (by (try dsimp only) <;> omega)).trans ma4; replace ma5 := (hb4.cell (p := ⟨_, _, none⟩) (by (try dsimp only) <;> omega)).trans ma5; replace ma6 := (hb4.cell (p := ⟨_, _, none⟩) (by (try dsimp only) <;> omega)).trans ma6; replace ma7 := (hb4.cell (p := ⟨_, _, none⟩) (by (try dsimp only) <;> omega)).trans ma7; replace ma8 := (hb4.cell (p := ⟨_, _, none⟩) (by (try dsimp only) <;> omega)).trans ma8; replace ma9 := (hb4.cell (p := ⟨_, _, none⟩) (by (try dsimp only) <;> omega)).trans ma9; replace ma10 := (hb4.cell (p := ⟨_, _, none⟩) (by (try dsimp only) <;> omega)).trans ma10; replace ma11 := (hb4.cell (p := ⟨_, _, none⟩) (by (try dsimp only) <;> omega)).trans ma11)
      clear HS3
      cases hadd : addOk F.1 r.src r.ser
      · have HADD := Lib.hid hadd
        replace HF := Lib.hid (HF.out.below hb4)
        clear hadd ho4 hb4
        cases hid : ident r.src r.ser
        · go_wp2_with fail
          refine (refidentity_any _ _ _).mono ?_
          rintro e w' ⟨rfl, rfl⟩
          rw [hid]
          have HID := Lib.hid hid
          clear hid
          have hba := (Below.refl w4.heap.size w4).alloc (Nat.le_refl _) (.cells #[.int .i64 r.src, .int .i64 r.ser, .int .i64 k, .int .i64 6] 52)
          have HFA := Lib.hid (HF.out.below hba)
          clear hba
          go_upto_region 6 with (at_builtin; go_must (
            refine wpl_append1 _ rfl (.tmp 49) (.tmp 57) 37 rfl w.heap.size 52 _ 32 Try.underlying37 info_rej rfl v3 F.2.2 rfl HFA.out.a3 _ ⟨r.src, r.ser, k, 6⟩ rfl (fun j u hu => cells_new _ _ _ _ _ (by simp) u hu) (by omega) (by omega) HFA.out.bs ?_
            intro v6 w6 ho6 hu6))
          have HF6 := Lib.hid (HFA.out.up3 hu6 ho6)
          clear ho6 hu6
          go_wp2_with fail
          go_roundw
          case rel => exact ⟨k + 1, _, v2, v6, by omega, by go_num, rfl, rfl, rfl, by rw [filtK_succ HX.out, HFK.out, fstep_range HID.out]; exact HF6.out.sub (by simp)⟩
          case measure => simp [intOf]; omega
        · go_wp2_with fail
          refine (refidentity_any _ _ _).mono ?_
          rintro e w' ⟨rfl, rfl⟩
          rw [hid]
          have HID := Lib.hid hid
          clear hid
          have hba := (Below.refl w4.heap.size w4).alloc (Nat.le_refl _) (.cells #[.int .i64 r.src, .int .i64 r.ser, .int .i64 k, .int .i64 13] 52)
          have HFA := Lib.hid (HF.out.below hba)
          clear hba
          go_upto_region 6 with (at_builtin; go_must (
            refine wpl_append1 _ rfl (.tmp 49) (.tmp 57) 37 rfl w.heap.size 52 _ 32 Try.underlying37 info_rej rfl v3 F.2.2 rfl HFA.out.a3 _ ⟨r.src, r.ser, k, 13⟩ rfl (fun j u hu => cells_new _ _ _ _ _ (by simp) u hu) (by omega) (by omega) HFA.out.bs ?_
            intro v6 w6 ho6 hu6))
          have HF6 := Lib.hid (HFA.out.up3 hu6 ho6)
          clear ho6 hu6
          go_wp2_with fail
          go_roundw
          case rel => exact ⟨k + 1, _, v2, v6, by omega, by go_num, rfl, rfl, rfl, by rw [filtK_succ HX.out, HFK.out, fstep_dup HID.out (addOk_no HADD.out HID.out)]; exact HF6.out.sub (by simp)⟩
          case measure => simp [intOf]; omega
      · have HADD := Lib.hid hadd
        rw [addL, if_pos hadd] at ho4
        replace HF := Lib.hid (HF.out.new1 hb4 ho4)
        clear hadd ho4 hb4
        have hba := (Below.refl w4.heap.size w4).alloc (Nat.le_refl _) (.cells #[.int .i64 r.src, .int .i64 r.ser, .int .i64 r.kind, .string r.a, .string r.b, .int .i64 r.start, .int .i64 r.units, .int .i64 r.call, .int .i64 r.part, .bool r.last, .int .i64 r.trunk, .bool r.inb] 44)
        have HFA := Lib.hid (HF.out.below hba)
        clear hba
        go_upto_region 6 with (at_builtin; go_must (
          refine wpl_append1 _ rfl (.tmp 39) (.tmp 41) 36 rfl w.heap.size 44 _ 112 Try.underlying36 info_rec rfl v2 F.2.1 rfl HFA.out.a2 _ r rfl (fun j u hu => cells_new _ _ _ _ _ (by simp) u hu) (by omega) (by omega) HFA.out.bs ?_
          intro v6 w6 ho6 hu6))
        have HF6 := Lib.hid (HFA.out.up2 hu6 ho6)
        clear ho6 hu6
        go_wp2_with fail
        go_roundw
        case rel => exact ⟨k + 1, v4, v6, v3, by omega, by go_num, rfl, rfl, rfl, by rw [filtK_succ HX.out, HFK.out, fstep_yes HADD.out]; exact HF6.out.sub (by simp)⟩
        case measure => simp [intOf]; omega
    · obtain rfl : n = k := by omega
      have hkn : ¬ ((n : Int) < (n : Int)) := by omega
      go_wp2_with fail
      go_ret3
      have hff : filt xs l = F := by rw [filt, HLEN.out, HFK.out]
      rw [hff]
      exact FilPost.mk_ HF.out
end Dd
end Go.Proofs.Ytdcekckghlpamaa
