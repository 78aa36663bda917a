/-
  Discounts: small, awake. No condition.
-/
import Derived.Test.YtdjlfdbdhacmjaaDcG
import Derived.Test.YtdjlfdbdhacmjaaDcE
import Derived.Test.YtdjlfdbdhacmjaaExY
import Derived.BigQuiet
import Derived.StillTailTactics
import Derived.Lib.Overlaps
import Derived.Deep.DeepCutAuto
import Derived.Deep.RegionWith
import Derived.Laws.Rows
set_option maxRecDepth 100000
set_option linter.unusedVariables false
set_option linter.unusedSimpArgs false
namespace Go.Proofs.Ytdjlfdbdhacmjaa
open Go.RowKit

namespace Dc
open Xp
set_option maxHeartbeats 2000000 in
theorem dsmall_any (ds : List Dsc) (A : Option Addr) (n c : Nat) (items : List Dit) (w : World) (h : Sl w A n c items) (hd : Dl w ds items) :
    Calls Try.prog 12 #[.slice A n c] w fun r w' => ∃ m : Bool, r = .returned (.bool m) ∧ (m = true → n ≤ 20) ∧ Below w.heap.size w w' := by
  have hn := h.nmax
  have hlen := h.len
  have H := Lib.hid h
  have HD := Lib.hid hd
  clear h hd
  go_enter Try.func12, Try.ntmps12
  go_wp2_with fail
  go_loopw [3] (fun i wr => ∃ (k : Nat), k ≤ n ∧ i = .int .i64 k ∧ Below w.heap.size w wr) (fun i _ => n - (intOf i).toNat)
  case atStart => exact ⟨0, Nat.zero_le _, rfl, Below.refl _ _⟩
  case round =>
    obtain ⟨k, hk, rfl, hb⟩ := hrel
    by_cases hlt : k < n
    · obtain ⟨b, off, rfl, hbl, hcells⟩ := H.out.baseIn hb (by omega)
      obtain ⟨x, hx⟩ := H.out.get hlt
      obtain ⟨d, hdk⟩ : ∃ d, ds[k]? = some d := ⟨ds[k]'(by have := HD.out.1; omega), List.getElem?_eq_getElem _⟩
      obtain ⟨hnm, hpt, hrp⟩ := HD.out.2 k x d hx hdk
      obtain ⟨name, it, pts⟩ := x
      dsimp only at hnm hpt hrp
      have HRP := Lib.hid (hrp.on hb)
      have ma1 : wr.cell? ⟨b, off + k * 6 + 1, none⟩ = some (.int .i64 it.op) := Sl.at_ hcells hx 1 rfl
      have ma2 : wr.cell? ⟨b, off + k * 6 + 2, none⟩ = some (.int .i64 it.num) := Sl.at_ hcells hx 2 rfl
      have ma3 : wr.cell? ⟨b, off + k * 6 + 3, none⟩ = some (.string it.text) := Sl.at_ hcells hx 3 rfl
      have ma4 : wr.cell? ⟨b, off + k * 6 + 4, none⟩ = some (.slice it.A it.n it.c) := Sl.at_ hcells hx 4 rfl
      clear hcells hx hdk hrp hnm hpt
      go_wp2_with fail
      refine (small_any (e := d.e) (x := it) HRP.out).mono ?_
      rintro r w2 ⟨⟨m2, rfl⟩, hb2⟩
      have hbE := hb.trans (hb2.mono hb.size)
      cases m2
      · go_wp2_with fail
        go_ret
        exact ⟨_, rfl, fun h => (by cases h), hbE⟩
      · go_wp2_with fail
        go_roundw
        case rel => exact ⟨k + 1, by omega, by go_num, hbE⟩
        case measure => simp [intOf]; omega
    · obtain rfl : k = n := by omega
      have hkn : ¬ ((k : Int) < (k : Int)) := by omega
      by_cases h20 : (k : Int) ≤ 20
      all_goals
        go_wp2_with fail
        go_ret
        first | exact .inr ⟨rfl, by omega, hb⟩ | exact .inl ⟨rfl, hb⟩
def v0 : Env := ⟨0, 0, 0, 0, 0, 0, ⟨#[]⟩, ⟨#[]⟩, false⟩
theorem two_dit (W : World) (x y : Dit) (a b : Dsc) (t : TypeId) (h1 : x.name = a.name ∧ x.pts = a.pts ∧ Rp W a.e x.it) (h2 : y.name = b.name ∧ y.pts = b.pts ∧ Rp W b.e y.it) : Dl (W.alloc (.cells #[.string x.name, .int .i64 x.it.op, .int .i64 x.it.num, .string x.it.text, .slice x.it.A x.it.n x.it.c, .int .i64 x.pts, .string y.name, .int .i64 y.it.op, .int .i64 y.it.num, .string y.it.text, .slice y.it.A y.it.n y.it.c, .int .i64 y.pts] t)) [a, b] [x, y] := by
  refine ⟨rfl, fun i u d hu hd => ?_⟩
  match i with
  | 0 => cases hu; cases hd; exact ⟨h1.1, h1.2.1, h1.2.2.on ((Below.refl _ _).alloc (Nat.le_refl _) _)⟩
  | 1 => cases hu; cases hd; exact ⟨h2.1, h2.2.1, h2.2.2.on ((Below.refl _ _).alloc (Nat.le_refl _) _)⟩
  | i + 2 => simp at hu
theorem one_dit (W : World) (x : Dit) (a : Dsc) (t : TypeId) (h1 : x.name = a.name ∧ x.pts = a.pts ∧ Rp W a.e x.it) : Dl (W.alloc (.cells #[.string x.name, .int .i64 x.it.op, .int .i64 x.it.num, .string x.it.text, .slice x.it.A x.it.n x.it.c, .int .i64 x.pts] t)) [a] [x] := by
  refine ⟨rfl, fun i u d hu hd => ?_⟩
  match i with
  | 0 => cases hu; cases hd; exact ⟨h1.1, h1.2.1, h1.2.2.on ((Below.refl _ _).alloc (Nat.le_refl _) _)⟩
  | i + 1 => simp at hu
def ds1 : List Dsc := [⟨⟨#[97]⟩, alw, 1000⟩, ⟨⟨#[98]⟩, alw, 5000⟩]
def ds2 : List Dsc := [⟨⟨#[97]⟩, alw, 1⟩]
theorem apply_ds1 : applyE v0 45 ds1 = ([⟨⟨#[97]⟩, 5⟩, ⟨⟨#[98]⟩, 20⟩], 20, 0) := by rfl
theorem apply_ds2 : applyE v0 40 ds2 = ([], 40, 0) := by rfl
def us1 : Us := ⟨0, 0, 0, 0, ⟨#[]⟩, ⟨#[]⟩, 60, 7, 0, false, 0, 0⟩
def ct1 : Ct := ⟨0, 0, 0, 3, 4⟩
set_option maxHeartbeats 8000000 in
theorem awake_any (w : World) : Calls Try.prog 11 #[] w fun r w' => r = .returned (.bool true) ∧ Below w.heap.size w w' := by
  have hT := Below.refl w.heap.size w
  go_enter Try.func11, Try.ntmps11
  go_wp2_with fail
  refine (always_any _).mono ?_
  rintro r w1 ⟨x1, rfl, hb1, hx1⟩
  have HX1 := Lib.hid hx1
  clear hx1
  unfold It.val
  replace hT := hT.trans hb1
  have hz1 := hT.size
  go_wp2_with fail
  refine (always_any _).mono ?_
  rintro r w2 ⟨x2, rfl, hb2, hx2⟩
  have HX2 := Lib.hid hx2
  replace HX1 := Lib.hid (HX1.out.on hb2)
  clear hx2
  unfold It.val
  replace hT := hT.trans (hb2.mono (by omega))
  have hz2 := hT.size
  go_wp2_with fail
  refine (apply_any v0 45 ds1 _ 2 2 [⟨⟨#[97]⟩, x1, 1000⟩, ⟨⟨#[98]⟩, x2, 5000⟩] _ (by omega) (Sl.new w2 #[.string ⟨#[97]⟩, .int .i64 x1.op, .int .i64 x1.num, .string x1.text, .slice x1.A x1.n x1.c, .int .i64 1000, .string ⟨#[98]⟩, .int .i64 x2.op, .int .i64 x2.num, .string x2.text, .slice x2.A x2.n x2.c, .int .i64 5000] 47 w2.heap.size rfl ([⟨⟨#[97]⟩, x1, 1000⟩, ⟨⟨#[98]⟩, x2, 5000⟩] : List Dit) 2 rfl (by unfold maxLen; decide) rfl) (two_dit w2 ⟨⟨#[97]⟩, x1, 1000⟩ ⟨⟨#[98]⟩, x2, 5000⟩ ⟨⟨#[97]⟩, alw, 1000⟩ ⟨⟨#[98]⟩, alw, 5000⟩ _ ⟨rfl, rfl, HX1.out⟩ ⟨rfl, rfl, HX2.out⟩)).mono ?_
  rintro r w3 ⟨u1, rfl, hu1, hb3⟩
  rw [apply_ds1] at hu1 ⊢
  obtain ⟨A1, c1, rfl, hs1⟩ := hu1.sl
  replace hT := hT.trans (Below.mono (Below.trans ((Below.refl w2.heap.size w2).alloc (Nat.le_refl _) _) (hb3.mono (by rw [alloc_size]; omega))) (by omega))
  have hz3 := hT.size
  have HS := Lib.hid hs1
  clear hb1 hb2 hb3 HX1 HX2 hu1 hs1
  go_wp2_with fail
  refine (always_any _).mono ?_
  rintro r w4 ⟨x3, rfl, hb4, hx3⟩
  have HX3 := Lib.hid hx3
  replace HS := Lib.hid (HS.out.below hb4)
  clear hx3
  unfold It.val
  replace hT := hT.trans (hb4.mono (by omega))
  have hz4 := hT.size
  go_wp2_with fail
  refine (apply_any v0 40 ds2 _ 1 1 [⟨⟨#[97]⟩, x3, 1⟩] _ (by omega) (Sl.new w4 #[.string ⟨#[97]⟩, .int .i64 x3.op, .int .i64 x3.num, .string x3.text, .slice x3.A x3.n x3.c, .int .i64 1] 47 w4.heap.size rfl ([⟨⟨#[97]⟩, x3, 1⟩] : List Dit) 1 rfl (by unfold maxLen; decide) rfl) (one_dit w4 ⟨⟨#[97]⟩, x3, 1⟩ ⟨⟨#[97]⟩, alw, 1⟩ _ ⟨rfl, rfl, HX3.out⟩)).mono ?_
  rintro r w5 ⟨u2, rfl, hu2, hb5⟩
  rw [apply_ds2] at hu2 ⊢
  obtain ⟨A2, c2, rfl, hs2⟩ := hu2.sl
  replace hb5 := Below.trans ((Below.refl w4.heap.size w4).alloc (Nat.le_refl _) _) (hb5.mono (by rw [alloc_size]; omega))
  replace HS := Lib.hid (HS.out.below hb5)
  replace hT := hT.trans (hb5.mono (by omega))
  have hz5 := hT.size
  clear hb4 hb5 HX3 hu2 hs2
  go_wp2_with fail
  refine (env_any us1 ⟨#[104, 111, 109, 101]⟩ ⟨#[100, 97, 121]⟩ ct1 true _).mono ?_
  rintro r w6 ⟨rfl, hb6⟩
  rw [show envE us1 ⟨#[104, 111, 109, 101]⟩ ⟨#[100, 97, 121]⟩ ct1 true = ⟨0, 7, 5, 1, 3, 4, ⟨#[104, 111, 109, 101]⟩, ⟨#[100, 97, 121]⟩, true⟩ by rfl]
  unfold Env.val
  replace HS := Lib.hid (HS.out.below hb6)
  replace hT := hT.trans (hb6.mono (by omega))
  have hz6 := hT.size
  clear hb6
  go_upto_region 4 with (fail)
  (obtain ⟨W, hWW, hbW, hzW, f1W, ffa⟩ := box1 w6 #[.int .i64 0, .int .i64 7, .int .i64 5, .int .i64 1, .int .i64 3, .int .i64 4, .string ⟨#[104, 111, 109, 101]⟩, .string ⟨#[100, 97, 121]⟩, .bool true] 29; rw [← hWW]; have fa0 : W.cell? ⟨w6.heap.size, 0, none⟩ = some (.int .i64 0) := f1W 0 _ rfl; have fa1 : W.cell? ⟨w6.heap.size, 1, none⟩ = some (.int .i64 7) := f1W 1 _ rfl; have fa2 : W.cell? ⟨w6.heap.size, 2, none⟩ = some (.int .i64 5) := f1W 2 _ rfl; have fa3 : W.cell? ⟨w6.heap.size, 3, none⟩ = some (.int .i64 1) := f1W 3 _ rfl; have fa4 : W.cell? ⟨w6.heap.size, 4, none⟩ = some (.int .i64 3) := f1W 4 _ rfl; have fa5 : W.cell? ⟨w6.heap.size, 5, none⟩ = some (.int .i64 4) := f1W 5 _ rfl; have fa6 : W.cell? ⟨w6.heap.size, 6, none⟩ = some (.string ⟨#[104, 111, 109, 101]⟩) := f1W 6 _ rfl; have fa7 : W.cell? ⟨w6.heap.size, 7, none⟩ = some (.string ⟨#[100, 97, 121]⟩) := f1W 7 _ rfl; have fa8 : W.cell? ⟨w6.heap.size, 8, none⟩ = some (.bool true) := f1W 8 _ rfl; clear hWW f1W)
  replace HS := Lib.hid (HS.out.below hbW)
  replace hT := hT.trans (hbW.mono (by omega))
  clear hbW
  obtain ⟨b, off, hA1, hbl, hcells⟩ := HS.out.baseIn (Below.refl _ _) (by decide)
  subst hA1
  have e0 : W.cell? ⟨b, off, none⟩ = some (.string ⟨#[97]⟩) := Sl.at_ hcells (i := 0) rfl 0 rfl
  have e1 : W.cell? ⟨b, off + 1, none⟩ = some (.int .i64 5) := Sl.at_ hcells (i := 0) rfl 1 rfl
  have e2 : W.cell? ⟨b, off + 2, none⟩ = some (.string ⟨#[98]⟩) := Sl.at_ hcells (i := 1) rfl 0 rfl
  have e3 : W.cell? ⟨b, off + 2 + 1, none⟩ = some (.int .i64 20) := Sl.at_ hcells (i := 1) rfl 1 rfl
  clear hcells HS
  go_wp2_with fail
  go_ret
  exact ⟨rfl, hT⟩

end Dc
end Go.Proofs.Ytdjlfdbdhacmjaa
