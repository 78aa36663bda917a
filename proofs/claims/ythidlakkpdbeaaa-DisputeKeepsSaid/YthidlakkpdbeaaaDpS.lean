/-
  Disputes: law Keeps. No condition.
-/
import Derived.Test.YthidlakkpdbeaaaDpR
import Derived.Test.YthidlakkpdbeaaaLawN
import Derived.BigQuiet
import Derived.StillTailTactics
import Derived.Lib.Overlaps
import Derived.Deep.DeepCutAuto
import Derived.Deep.RegionWith
import Derived.Laws.Rows
set_option maxRecDepth 100000
set_option linter.unusedVariables false
set_option linter.unusedSimpArgs false
namespace Go.Proofs.Ythidlakkpdbeaaa
open Go.RowKit

namespace Dp
structure Opn where
  call : Int
  d : Dsp
  x : Int
  cr : Int
  t : Int
instance : Flat Opn where
  sz := 11
  pos := by decide
  cells o := [.int .i64 o.call, .int .i64 o.d.id, .int .i64 o.d.acc, .int .i64 o.d.use, .int .i64 o.d.amt, .int .i64 o.d.st, .int .i64 o.d.cr, .int .i64 o.d.at_, .int .i64 o.x, .int .i64 o.cr, .int .i64 o.t]
  len _ := rfl
  one _ := by simp [Value.oneCell']
theorem Good.same {ds : List Dsp} (h : Vd ds) : Good ds ds := ⟨h, Nat.le_refl _, Nat.le_succ _, fun _ he _ => he⟩
set_option maxHeartbeats 16000000 in
theorem law_keeps (A : Option Addr) (n c : Nat) (os : List Opn) (w : World) (h : Sl w A n c os) :
    Calls Try.prog 7 #[.slice A n c] w fun r w' => r = .returned (.bool true) ∧ Below w.heap.size w w' := by
  have hn := h.nmax
  have H := Lib.hid h
  clear h
  have hT := Below.refl w.heap.size w
  by_cases h30 : 30 < n
  · have hi30 : (30 : Int) < (n : Int) := by omega
    go_enter Try.func7, Try.ntmps7
    go_wp2_with fail
    refine (alive_any _).mono ?_
    rintro r wz ⟨rfl, hbz⟩
    replace hT := hT.trans (hbz.mono (by omega))
    go_wp2_with fail
    go_ret
    exact ⟨rfl, hT⟩
  · have hi30 : ¬ (30 : Int) < (n : Int) := by omega
    go_enter Try.func7, Try.ntmps7
    go_wp2_with fail
    go_loopw [3, 4] (fun u i wr => ∃ (k : Nat) (ds : List Dsp) (AL : Option Addr) (m cl : Nat), k ≤ n ∧ i = .int .i64 k ∧ u = .slice AL m cl ∧ Sl wr AL m cl ds ∧ NilOk AL cl ∧ Vd ds ∧ m ≤ k ∧ Below w.heap.size w wr) (fun _ i _ => n - (intOf i).toNat)
    case atStart => exact ⟨0, [], none, 0, 0, Nat.zero_le _, rfl, rfl, Sl.nil_ _, fun _ => rfl, fun i d hd => by simp at hd, Nat.le_refl _, Below.refl _ _⟩
    case round =>
      clear hT
      obtain ⟨k, ds, AL, m, cl, hk, rfl, rfl, hsl, hnl, hvd, hmk, hT⟩ := hrel
      have HSL := Lib.hid hsl
      have HNL := Lib.hid hnl
      have HVD := Lib.hid hvd
      have HLL := Lib.hid hsl.len
      clear hsl hnl hvd
      by_cases hlt : k < n
      · obtain ⟨b, off, rfl, hbw, hc⟩ := H.out.baseIn hT (by omega)
        obtain ⟨o, hr⟩ := H.out.get (k := k) (by omega)
        (have c0 : wr.cell? ⟨b, off + k * 11, none⟩ = some (.int .i64 o.call) := Sl.at_ hc hr 0 rfl; have c1 : wr.cell? ⟨b, off + k * 11 + 1, none⟩ = some (.int .i64 o.d.id) := Sl.at_ hc hr 1 rfl; have c2 : wr.cell? ⟨b, off + k * 11 + 2, none⟩ = some (.int .i64 o.d.acc) := Sl.at_ hc hr 2 rfl; have c3 : wr.cell? ⟨b, off + k * 11 + 3, none⟩ = some (.int .i64 o.d.use) := Sl.at_ hc hr 3 rfl; have c4 : wr.cell? ⟨b, off + k * 11 + 4, none⟩ = some (.int .i64 o.d.amt) := Sl.at_ hc hr 4 rfl; have c5 : wr.cell? ⟨b, off + k * 11 + 5, none⟩ = some (.int .i64 o.d.st) := Sl.at_ hc hr 5 rfl; have c6 : wr.cell? ⟨b, off + k * 11 + 6, none⟩ = some (.int .i64 o.d.cr) := Sl.at_ hc hr 6 rfl; have c7 : wr.cell? ⟨b, off + k * 11 + 7, none⟩ = some (.int .i64 o.d.at_) := Sl.at_ hc hr 7 rfl; have c8 : wr.cell? ⟨b, off + k * 11 + 8, none⟩ = some (.int .i64 o.x) := Sl.at_ hc hr 8 rfl; have c9 : wr.cell? ⟨b, off + k * 11 + 9, none⟩ = some (.int .i64 o.cr) := Sl.at_ hc hr 9 rfl; have c10 : wr.cell? ⟨b, off + k * 11 + 10, none⟩ = some (.int .i64 o.t) := Sl.at_ hc hr 10 rfl)
        have hszT := hT.size
        have hbr : b < wr.heap.size := by omega
        clear hc hr
        go_upto_region 9 with (fail)
        (obtain ⟨V, hWV, hbV, hzV, f1V, zfa⟩ := box1 wr #[.int .i64 o.x, .int .i64 o.cr, .int .i64 o.t] 46; rw [← hWV]; have za0 : V.cell? ⟨wr.heap.size, 0, none⟩ = some (.int .i64 o.x) := f1V 0 _ rfl; have za1 : V.cell? ⟨wr.heap.size, 1, none⟩ = some (.int .i64 o.cr) := f1V 1 _ rfl; have za2 : V.cell? ⟨wr.heap.size, 2, none⟩ = some (.int .i64 o.t) := f1V 2 _ rfl; clear hWV f1V)
        replace HSL := Lib.hid (HSL.out.below hbV)
        (have hzhbV := hbV.size; replace c0 := (hbV.cell (p := ⟨_, _, none⟩) (by (try dsimp only) <;> omega)).trans c0; replace c1 := (hbV.cell (p := ⟨_, _, none⟩) (by (try dsimp only) <;> omega)).trans c1; replace c2 := (hbV.cell (p := ⟨_, _, none⟩) (by (try dsimp only) <;> omega)).trans c2; replace c3 := (hbV.cell (p := ⟨_, _, none⟩) (by (try dsimp only) <;> omega)).trans c3; replace c4 := (hbV.cell (p := ⟨_, _, none⟩) (by (try dsimp only) <;> omega)).trans c4; replace c5 := (hbV.cell (p := ⟨_, _, none⟩) (by (try dsimp only) <;> omega)).trans c5; replace c6 := (hbV.cell (p := ⟨_, _, none⟩) (by (try dsimp only) <;> omega)).trans c6; replace c7 := (hbV.cell (p := ⟨_, _, none⟩) (by (try dsimp only) <;> omega)).trans c7; replace hT := Below.trans hT (Below.mono hbV (by omega)))
        clear hbV c8 c9 c10
        by_cases h0 : o.call = 0
        · have p0 : (o.call == 0) = true := by simpa using h0
          clear h0
          go_wp2_with fail
          refine (open_any ds o.d AL m cl _ HSL.out HNL.out (by omega) (Vd.srt HVD.out)).mono ?_
          rintro r wn ⟨un, rfl, hon, hbn⟩
          obtain ⟨A5, c5, rfl, hn5, hs5⟩ := Ow.slN hon
          have HS5 := Lib.hid hs5
          have HN5 : Hid (NilOk A5 c5) := Lib.hid hn5
          have hgd := open_good (d := o.d) HVD.out
          obtain ⟨⟨xs, ec⟩, hR⟩ : ∃ R, openP ds o.d = R := ⟨_, rfl⟩
          rw [hR] at HS5 hgd ⊢
          clear hon hs5 hn5 hR
          dsimp only at HS5 hgd ⊢
          replace HSL := Lib.hid (HSL.out.below hbn)
          replace hT := hT.trans (hbn.mono (by have := hT.size; omega))
          clear hbn
          rcases hgd with ⟨he, hx⟩ | ⟨he, hx⟩
          · subst hx
            have q5 : (ec != 0) = true := by simpa using he
            have q6 : (ec == 0) = false := by simpa using he
            clear he
            go_wp2_with fail
            go_roundw
            case rel => exact ⟨k + 1, ds, AL, m, cl, by omega, by go_num, rfl, HSL.out, HNL.out, HVD.out, by omega, hT⟩
            case measure => simp [intOf]; omega
          · subst he
            have HG := Lib.hid hx
            have hzl := hx.lo
            have hzh := hx.hi
            rw [HLL.out] at hzl hzh
            obtain ⟨z, hz⟩ : ∃ z, xs.length = z := ⟨_, rfl⟩
            rw [hz] at hzl hzh HS5 ⊢
            clear hz hx
            go_wp2_with fail
            refine (valid_any A5 z c5 xs _ HS5.out).mono ?_
            rintro r wv ⟨bv, rfl, hbv, hbx⟩
            obtain rfl : bv = true := hbv.2 HG.out.vd
            clear hbv
            replace HSL := Lib.hid (HSL.out.below hbx)
            replace HS5 := Lib.hid (HS5.out.below hbx)
            replace hT := hT.trans (hbx.mono (by have := hT.size; omega))
            clear hbx
            have hzv := hT.size
            have hz1 : ¬ ((z : Int) < (m : Int)) := by omega
            have hz2 : ¬ ((m : Int) + 1 < (z : Int)) := by omega
            have hd1 : decide (z < m) = false := decide_eq_false (by omega)
            have hd2 : decide ((m : Int) + 1 < (z : Int)) = false := decide_eq_false (by omega)
            have hwm : IntKind.i64.wrap ((m : Int) + 1) = (m : Int) + 1 := IntWalk.i64_in _ (by omega)
            go_wp2_with fail
            go_loopw [8] (fun i wr => ∃ kk : Nat, kk ≤ m ∧ i = .int .i64 kk ∧ Below wv.heap.size wv wr) (fun i _ => m - (intOf i).toNat)
            case atStart => exact ⟨0, Nat.zero_le _, rfl, Below.refl _ _⟩
            case round =>
              obtain ⟨kk, hkk, rfl, hb2⟩ := hrel
              by_cases hlt2 : kk < m
              · obtain ⟨b3, off3, rfl, hbw3, hc3⟩ := HSL.out.baseIn hb2 (by omega)
                obtain ⟨e3, hr3⟩ := HSL.out.get (k := kk) (by omega)
                have y0 : wr.cell? ⟨b3, off3 + kk * 7, none⟩ = some (.int .i64 e3.id) := Sl.at_ hc3 hr3 0 rfl
                have y1 : wr.cell? ⟨b3, off3 + kk * 7 + 1, none⟩ = some (.int .i64 e3.acc) := Sl.at_ hc3 hr3 1 rfl
                have y2 : wr.cell? ⟨b3, off3 + kk * 7 + 2, none⟩ = some (.int .i64 e3.use) := Sl.at_ hc3 hr3 2 rfl
                have y3 : wr.cell? ⟨b3, off3 + kk * 7 + 3, none⟩ = some (.int .i64 e3.amt) := Sl.at_ hc3 hr3 3 rfl
                have y4 : wr.cell? ⟨b3, off3 + kk * 7 + 4, none⟩ = some (.int .i64 e3.st) := Sl.at_ hc3 hr3 4 rfl
                have y5 : wr.cell? ⟨b3, off3 + kk * 7 + 5, none⟩ = some (.int .i64 e3.cr) := Sl.at_ hc3 hr3 5 rfl
                have y6 : wr.cell? ⟨b3, off3 + kk * 7 + 6, none⟩ = some (.int .i64 e3.at_) := Sl.at_ hc3 hr3 6 rfl
                have hm3 := List.mem_of_getElem? hr3
                clear hc3 hr3
                by_cases hst : e3.st = 1
                · have q1 : (e3.st == 1) = true := by simpa using hst
                  have q2 : (e3.st != 1) = false := by simpa using hst
                  clear hst
                  go_wp2_with fail
                  go_roundw
                  case rel => exact ⟨kk + 1, by omega, by go_num, hb2⟩
                  case measure => simp [intOf]; omega
                · have q1 : (e3.st == 1) = false := by simpa using hst
                  have q2 : (e3.st != 1) = true := by simpa using hst
                  have HM := Lib.hid (HG.out.kept e3 hm3 hst)
                  clear hst
                  go_wp2_with fail
                  refine (among_any e3 A5 z c5 xs _ (HS5.out.below hb2) HM.out).mono ?_
                  rintro r w9 ⟨rfl, hb9⟩
                  have hb29 := hb2.trans (hb9.mono hb2.size)
                  go_wp2_with fail
                  go_roundw
                  case rel => exact ⟨kk + 1, by omega, by go_num, hb29⟩
                  case measure => simp [intOf]; omega
              · obtain rfl : kk = m := by omega
                have hkkn : ¬ ((kk : Int) < (kk : Int)) := by omega
                go_wp2_with fail
                go_roundw
                case rel => exact ⟨k + 1, xs, A5, z, c5, by omega, by go_num, rfl, HS5.out.below hb2, HN5.out, HG.out.vd, by omega, hT.trans (hb2.mono hzv)⟩
                case measure => simp [intOf]; omega
        · have p0 : (o.call == 0) = false := by simpa using h0
          by_cases h1 : o.call = 1
          · have p1 : (o.call == 1) = true := by simpa using h1
            clear h0 h1
            go_wp2_with fail
            refine (accept_any o.x o.cr o.t AL m cl ds _ HSL.out HNL.out (by omega) (Vd.srt HVD.out)).mono ?_
            rintro r wn ⟨un, rfl, hon, hbn⟩
            obtain ⟨A5, c5, rfl, hn5, hs5⟩ := Ow.slN hon
            have HS5 := Lib.hid hs5
            have HN5 : Hid (NilOk A5 c5) := Lib.hid hn5
            have hgd := dec_good (x := o.x) (c := o.cr) (t := o.t) HVD.out (.inl rfl : (2 : Int) = 2 ∨ ((2 : Int) = 3 ∧ o.cr = 0))
            obtain ⟨⟨xs, ec⟩, hR⟩ : ∃ R, decP ds o.x 2 o.cr o.t = R := ⟨_, rfl⟩
            rw [hR] at HS5 hgd ⊢
            clear hon hs5 hn5 hR
            dsimp only at HS5 hgd ⊢
            replace HSL := Lib.hid (HSL.out.below hbn)
            replace hT := hT.trans (hbn.mono (by have := hT.size; omega))
            clear hbn
            rcases hgd with ⟨he, hx⟩ | ⟨he, hx⟩
            · subst hx
              have q5 : (ec != 0) = true := by simpa using he
              have q6 : (ec == 0) = false := by simpa using he
              clear he
              go_wp2_with fail
              go_roundw
              case rel => exact ⟨k + 1, ds, AL, m, cl, by omega, by go_num, rfl, HSL.out, HNL.out, HVD.out, by omega, hT⟩
              case measure => simp [intOf]; omega
            · subst he
              have HG := Lib.hid hx
              have hzl := hx.lo
              have hzh := hx.hi
              rw [HLL.out] at hzl hzh
              obtain ⟨z, hz⟩ : ∃ z, xs.length = z := ⟨_, rfl⟩
              rw [hz] at hzl hzh HS5 ⊢
              clear hz hx
              go_wp2_with fail
              refine (valid_any A5 z c5 xs _ HS5.out).mono ?_
              rintro r wv ⟨bv, rfl, hbv, hbx⟩
              obtain rfl : bv = true := hbv.2 HG.out.vd
              clear hbv
              replace HSL := Lib.hid (HSL.out.below hbx)
              replace HS5 := Lib.hid (HS5.out.below hbx)
              replace hT := hT.trans (hbx.mono (by have := hT.size; omega))
              clear hbx
              have hzv := hT.size
              have hz1 : ¬ ((z : Int) < (m : Int)) := by omega
              have hz2 : ¬ ((m : Int) + 1 < (z : Int)) := by omega
              have hd1 : decide (z < m) = false := decide_eq_false (by omega)
              have hd2 : decide ((m : Int) + 1 < (z : Int)) = false := decide_eq_false (by omega)
              have hwm : IntKind.i64.wrap ((m : Int) + 1) = (m : Int) + 1 := IntWalk.i64_in _ (by omega)
              go_wp2_with fail
              go_loopw [8] (fun i wr => ∃ kk : Nat, kk ≤ m ∧ i = .int .i64 kk ∧ Below wv.heap.size wv wr) (fun i _ => m - (intOf i).toNat)
              case atStart => exact ⟨0, Nat.zero_le _, rfl, Below.refl _ _⟩
              case round =>
                obtain ⟨kk, hkk, rfl, hb2⟩ := hrel
                by_cases hlt2 : kk < m
                · obtain ⟨b3, off3, rfl, hbw3, hc3⟩ := HSL.out.baseIn hb2 (by omega)
                  obtain ⟨e3, hr3⟩ := HSL.out.get (k := kk) (by omega)
                  have y0 : wr.cell? ⟨b3, off3 + kk * 7, none⟩ = some (.int .i64 e3.id) := Sl.at_ hc3 hr3 0 rfl
                  have y1 : wr.cell? ⟨b3, off3 + kk * 7 + 1, none⟩ = some (.int .i64 e3.acc) := Sl.at_ hc3 hr3 1 rfl
                  have y2 : wr.cell? ⟨b3, off3 + kk * 7 + 2, none⟩ = some (.int .i64 e3.use) := Sl.at_ hc3 hr3 2 rfl
                  have y3 : wr.cell? ⟨b3, off3 + kk * 7 + 3, none⟩ = some (.int .i64 e3.amt) := Sl.at_ hc3 hr3 3 rfl
                  have y4 : wr.cell? ⟨b3, off3 + kk * 7 + 4, none⟩ = some (.int .i64 e3.st) := Sl.at_ hc3 hr3 4 rfl
                  have y5 : wr.cell? ⟨b3, off3 + kk * 7 + 5, none⟩ = some (.int .i64 e3.cr) := Sl.at_ hc3 hr3 5 rfl
                  have y6 : wr.cell? ⟨b3, off3 + kk * 7 + 6, none⟩ = some (.int .i64 e3.at_) := Sl.at_ hc3 hr3 6 rfl
                  have hm3 := List.mem_of_getElem? hr3
                  clear hc3 hr3
                  by_cases hst : e3.st = 1
                  · have q1 : (e3.st == 1) = true := by simpa using hst
                    have q2 : (e3.st != 1) = false := by simpa using hst
                    clear hst
                    go_wp2_with fail
                    go_roundw
                    case rel => exact ⟨kk + 1, by omega, by go_num, hb2⟩
                    case measure => simp [intOf]; omega
                  · have q1 : (e3.st == 1) = false := by simpa using hst
                    have q2 : (e3.st != 1) = true := by simpa using hst
                    have HM := Lib.hid (HG.out.kept e3 hm3 hst)
                    clear hst
                    go_wp2_with fail
                    refine (among_any e3 A5 z c5 xs _ (HS5.out.below hb2) HM.out).mono ?_
                    rintro r w9 ⟨rfl, hb9⟩
                    have hb29 := hb2.trans (hb9.mono hb2.size)
                    go_wp2_with fail
                    go_roundw
                    case rel => exact ⟨kk + 1, by omega, by go_num, hb29⟩
                    case measure => simp [intOf]; omega
                · obtain rfl : kk = m := by omega
                  have hkkn : ¬ ((kk : Int) < (kk : Int)) := by omega
                  go_wp2_with fail
                  go_roundw
                  case rel => exact ⟨k + 1, xs, A5, z, c5, by omega, by go_num, rfl, HS5.out.below hb2, HN5.out, HG.out.vd, by omega, hT.trans (hb2.mono hzv)⟩
                  case measure => simp [intOf]; omega
          · have p1 : (o.call == 1) = false := by simpa using h1
            by_cases h2 : o.call = 2
            · have p2 : (o.call == 2) = true := by simpa using h2
              clear h0 h1 h2
              go_wp2_with fail
              refine (refuse_any o.x o.t AL m cl ds _ HSL.out HNL.out (by omega) (Vd.srt HVD.out)).mono ?_
              rintro r wn ⟨un, rfl, hon, hbn⟩
              obtain ⟨A5, c5, rfl, hn5, hs5⟩ := Ow.slN hon
              have HS5 := Lib.hid hs5
              have HN5 : Hid (NilOk A5 c5) := Lib.hid hn5
              have hgd := dec_good (x := o.x) (c := 0) (t := o.t) HVD.out (.inr ⟨rfl, rfl⟩ : (3 : Int) = 2 ∨ ((3 : Int) = 3 ∧ (0 : Int) = 0))
              obtain ⟨⟨xs, ec⟩, hR⟩ : ∃ R, decP ds o.x 3 0 o.t = R := ⟨_, rfl⟩
              rw [hR] at HS5 hgd ⊢
              clear hon hs5 hn5 hR
              dsimp only at HS5 hgd ⊢
              replace HSL := Lib.hid (HSL.out.below hbn)
              replace hT := hT.trans (hbn.mono (by have := hT.size; omega))
              clear hbn
              rcases hgd with ⟨he, hx⟩ | ⟨he, hx⟩
              · subst hx
                have q5 : (ec != 0) = true := by simpa using he
                have q6 : (ec == 0) = false := by simpa using he
                clear he
                go_wp2_with fail
                go_roundw
                case rel => exact ⟨k + 1, ds, AL, m, cl, by omega, by go_num, rfl, HSL.out, HNL.out, HVD.out, by omega, hT⟩
                case measure => simp [intOf]; omega
              · subst he
                have HG := Lib.hid hx
                have hzl := hx.lo
                have hzh := hx.hi
                rw [HLL.out] at hzl hzh
                obtain ⟨z, hz⟩ : ∃ z, xs.length = z := ⟨_, rfl⟩
                rw [hz] at hzl hzh HS5 ⊢
                clear hz hx
                go_wp2_with fail
                refine (valid_any A5 z c5 xs _ HS5.out).mono ?_
                rintro r wv ⟨bv, rfl, hbv, hbx⟩
                obtain rfl : bv = true := hbv.2 HG.out.vd
                clear hbv
                replace HSL := Lib.hid (HSL.out.below hbx)
                replace HS5 := Lib.hid (HS5.out.below hbx)
                replace hT := hT.trans (hbx.mono (by have := hT.size; omega))
                clear hbx
                have hzv := hT.size
                have hz1 : ¬ ((z : Int) < (m : Int)) := by omega
                have hz2 : ¬ ((m : Int) + 1 < (z : Int)) := by omega
                have hd1 : decide (z < m) = false := decide_eq_false (by omega)
                have hd2 : decide ((m : Int) + 1 < (z : Int)) = false := decide_eq_false (by omega)
                have hwm : IntKind.i64.wrap ((m : Int) + 1) = (m : Int) + 1 := IntWalk.i64_in _ (by omega)
                go_wp2_with fail
                go_loopw [8] (fun i wr => ∃ kk : Nat, kk ≤ m ∧ i = .int .i64 kk ∧ Below wv.heap.size wv wr) (fun i _ => m - (intOf i).toNat)
                case atStart => exact ⟨0, Nat.zero_le _, rfl, Below.refl _ _⟩
                case round =>
                  obtain ⟨kk, hkk, rfl, hb2⟩ := hrel
                  by_cases hlt2 : kk < m
                  · obtain ⟨b3, off3, rfl, hbw3, hc3⟩ := HSL.out.baseIn hb2 (by omega)
                    obtain ⟨e3, hr3⟩ := HSL.out.get (k := kk) (by omega)
                    have y0 : wr.cell? ⟨b3, off3 + kk * 7, none⟩ = some (.int .i64 e3.id) := Sl.at_ hc3 hr3 0 rfl
                    have y1 : wr.cell? ⟨b3, off3 + kk * 7 + 1, none⟩ = some (.int .i64 e3.acc) := Sl.at_ hc3 hr3 1 rfl
                    have y2 : wr.cell? ⟨b3, off3 + kk * 7 + 2, none⟩ = some (.int .i64 e3.use) := Sl.at_ hc3 hr3 2 rfl
                    have y3 : wr.cell? ⟨b3, off3 + kk * 7 + 3, none⟩ = some (.int .i64 e3.amt) := Sl.at_ hc3 hr3 3 rfl
                    have y4 : wr.cell? ⟨b3, off3 + kk * 7 + 4, none⟩ = some (.int .i64 e3.st) := Sl.at_ hc3 hr3 4 rfl
                    have y5 : wr.cell? ⟨b3, off3 + kk * 7 + 5, none⟩ = some (.int .i64 e3.cr) := Sl.at_ hc3 hr3 5 rfl
                    have y6 : wr.cell? ⟨b3, off3 + kk * 7 + 6, none⟩ = some (.int .i64 e3.at_) := Sl.at_ hc3 hr3 6 rfl
                    have hm3 := List.mem_of_getElem? hr3
                    clear hc3 hr3
                    by_cases hst : e3.st = 1
                    · have q1 : (e3.st == 1) = true := by simpa using hst
                      have q2 : (e3.st != 1) = false := by simpa using hst
                      clear hst
                      go_wp2_with fail
                      go_roundw
                      case rel => exact ⟨kk + 1, by omega, by go_num, hb2⟩
                      case measure => simp [intOf]; omega
                    · have q1 : (e3.st == 1) = false := by simpa using hst
                      have q2 : (e3.st != 1) = true := by simpa using hst
                      have HM := Lib.hid (HG.out.kept e3 hm3 hst)
                      clear hst
                      go_wp2_with fail
                      refine (among_any e3 A5 z c5 xs _ (HS5.out.below hb2) HM.out).mono ?_
                      rintro r w9 ⟨rfl, hb9⟩
                      have hb29 := hb2.trans (hb9.mono hb2.size)
                      go_wp2_with fail
                      go_roundw
                      case rel => exact ⟨kk + 1, by omega, by go_num, hb29⟩
                      case measure => simp [intOf]; omega
                  · obtain rfl : kk = m := by omega
                    have hkkn : ¬ ((kk : Int) < (kk : Int)) := by omega
                    go_wp2_with fail
                    go_roundw
                    case rel => exact ⟨k + 1, xs, A5, z, c5, by omega, by go_num, rfl, HS5.out.below hb2, HN5.out, HG.out.vd, by omega, hT.trans (hb2.mono hzv)⟩
                    case measure => simp [intOf]; omega
            · have p2 : (o.call == 2) = false := by simpa using h2
              clear h0 h1 h2
              have HG := Lib.hid (Good.same HVD.out)
              have HS5 := HSL
              have HN5 := HNL
              go_wp2_with fail
              refine (valid_any AL m cl ds _ HS5.out).mono ?_
              rintro r wv ⟨bv, rfl, hbv, hbx⟩
              obtain rfl : bv = true := hbv.2 HG.out.vd
              clear hbv
              replace HSL := Lib.hid (HSL.out.below hbx)
              replace HS5 := Lib.hid (HS5.out.below hbx)
              replace hT := hT.trans (hbx.mono (by have := hT.size; omega))
              clear hbx
              have hzv := hT.size
              have hz2 : ¬ ((m : Int) + 1 < (m : Int)) := by omega
              have hwm : IntKind.i64.wrap ((m : Int) + 1) = (m : Int) + 1 := IntWalk.i64_in _ (by omega)
              go_wp2_with fail
              go_loopw [8] (fun i wr => ∃ kk : Nat, kk ≤ m ∧ i = .int .i64 kk ∧ Below wv.heap.size wv wr) (fun i _ => m - (intOf i).toNat)
              case atStart => exact ⟨0, Nat.zero_le _, rfl, Below.refl _ _⟩
              case round =>
                obtain ⟨kk, hkk, rfl, hb2⟩ := hrel
                by_cases hlt2 : kk < m
                · obtain ⟨b3, off3, rfl, hbw3, hc3⟩ := HSL.out.baseIn hb2 (by omega)
                  obtain ⟨e3, hr3⟩ := HSL.out.get (k := kk) (by omega)
                  have y0 : wr.cell? ⟨b3, off3 + kk * 7, none⟩ = some (.int .i64 e3.id) := Sl.at_ hc3 hr3 0 rfl
                  have y1 : wr.cell? ⟨b3, off3 + kk * 7 + 1, none⟩ = some (.int .i64 e3.acc) := Sl.at_ hc3 hr3 1 rfl
                  have y2 : wr.cell? ⟨b3, off3 + kk * 7 + 2, none⟩ = some (.int .i64 e3.use) := Sl.at_ hc3 hr3 2 rfl
                  have y3 : wr.cell? ⟨b3, off3 + kk * 7 + 3, none⟩ = some (.int .i64 e3.amt) := Sl.at_ hc3 hr3 3 rfl
                  have y4 : wr.cell? ⟨b3, off3 + kk * 7 + 4, none⟩ = some (.int .i64 e3.st) := Sl.at_ hc3 hr3 4 rfl
                  have y5 : wr.cell? ⟨b3, off3 + kk * 7 + 5, none⟩ = some (.int .i64 e3.cr) := Sl.at_ hc3 hr3 5 rfl
                  have y6 : wr.cell? ⟨b3, off3 + kk * 7 + 6, none⟩ = some (.int .i64 e3.at_) := Sl.at_ hc3 hr3 6 rfl
                  have hm3 := List.mem_of_getElem? hr3
                  clear hc3 hr3
                  by_cases hst : e3.st = 1
                  · have q1 : (e3.st == 1) = true := by simpa using hst
                    have q2 : (e3.st != 1) = false := by simpa using hst
                    clear hst
                    go_wp2_with fail
                    go_roundw
                    case rel => exact ⟨kk + 1, by omega, by go_num, hb2⟩
                    case measure => simp [intOf]; omega
                  · have q1 : (e3.st == 1) = false := by simpa using hst
                    have q2 : (e3.st != 1) = true := by simpa using hst
                    have HM := Lib.hid (HG.out.kept e3 hm3 hst)
                    clear hst
                    go_wp2_with fail
                    refine (among_any e3 _ m cl ds _ (HS5.out.below hb2) HM.out).mono ?_
                    rintro r w9 ⟨rfl, hb9⟩
                    have hb29 := hb2.trans (hb9.mono hb2.size)
                    go_wp2_with fail
                    go_roundw
                    case rel => exact ⟨kk + 1, by omega, by go_num, hb29⟩
                    case measure => simp [intOf]; omega
                · obtain rfl : kk = m := by omega
                  have hkkn : ¬ ((kk : Int) < (kk : Int)) := by omega
                  go_wp2_with fail
                  go_roundw
                  case rel => exact ⟨k + 1, ds, AL, kk, cl, by omega, by go_num, rfl, HS5.out.below hb2, HN5.out, HG.out.vd, by omega, hT.trans (hb2.mono hzv)⟩
                  case measure => simp [intOf]; omega
      · obtain rfl : k = n := by omega
        have hkn : ¬ ((k : Int) < (k : Int)) := by omega
        have hzz := hT.size
        go_wp2_with fail
        refine (alive_any _).mono ?_
        rintro r wz ⟨rfl, hbz⟩
        replace hT := hT.trans (hbz.mono (by omega))
        go_wp2_with fail
        go_ret
        exact ⟨rfl, hT⟩
end Dp
end Go.Proofs.Ythidlakkpdbeaaa
