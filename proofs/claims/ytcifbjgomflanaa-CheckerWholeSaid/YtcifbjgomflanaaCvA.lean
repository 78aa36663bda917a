/-
  Tariffs: the cells of a tariff; both rated. No condition.
-/
import Derived.Test.YtcifbjgomflanaaCkA
import Derived.Test.YtcifbjgomflanaaExD
import Derived.BigQuiet
import Derived.StillTailTactics
import Derived.Lib.Overlaps
import Derived.Deep.DeepCutAuto
import Derived.Deep.RegionWith
import Derived.Laws.RangeAny
set_option maxRecDepth 100000
set_option linter.unusedVariables false
set_option linter.unusedSimpArgs false
namespace Go.Proofs.Ytcifbjgomflanaa
open Go.RowKit

namespace Cv
open Xp Ck
structure Nm where
  name : ByteArray
  A : Option Addr
  n : Nat
  c : Nat
instance : Flat Nm where
  sz := 2
  pos := by decide
  cells x := [.string x.name, .slice x.A x.n x.c]
  len _ := rfl
  one _ := by simp [Value.oneCell']
structure Rt where
  kind : Int
  zone : ByteArray
  band : ByteArray
  setup : Int
  A : Option Addr
  n : Nat
  c : Nat
instance : Flat Rt where
  sz := 5
  pos := by decide
  cells r := [.int .i64 r.kind, .string r.zone, .string r.band, .int .i64 r.setup, .slice r.A r.n r.c]
  len _ := rfl
  one _ := by simp [Value.oneCell']
structure Dq where
  name : ByteArray
  it : It
  pts : Int
instance : Flat Dq where
  sz := 6
  pos := by decide
  cells d := [.string d.name, .int .i64 d.it.op, .int .i64 d.it.num, .string d.it.text, .slice d.it.A d.it.n d.it.c, .int .i64 d.pts]
  len _ := rfl
  one _ := by simp [Value.oneCell']
structure Slt where
  days : Int
  from_ : Int
  to_ : Int
instance : Flat Slt where
  sz := 3
  pos := by decide
  cells s := [.int .i64 s.days, .int .i64 s.from_, .int .i64 s.to_]
  len _ := rfl
  one _ := by simp [Value.oneCell']
structure Tv where
  name : ByteArray
  from_ : Int
  split : Bool
  Az : Option Addr
  nz : Nat
  cz : Nat
  Ab : Option Addr
  nb : Nat
  cb : Nat
  Ar : Option Addr
  nr : Nat
  cr : Nat
  Ad : Option Addr
  nd : Nat
  cd : Nat
def Tv.val (t : Tv) : Value := .agg #[.string t.name, .int .i64 t.from_, .bool t.split, .slice t.Az t.nz t.cz, .slice t.Ab t.nb t.cb, .slice t.Ar t.nr t.cr, .slice t.Ad t.nd t.cd]
structure Tok (w : World) (t : Tv) (zs bs : List Nm) (rs : List Rt) (ds : List Dq) : Prop where
  z : Sl w t.Az t.nz t.cz zs
  zk : ∀ x ∈ zs, ∃ ps : List ByteArray, Sl w x.A x.n x.c ps
  b : Sl w t.Ab t.nb t.cb bs
  bk : ∀ x ∈ bs, ∃ ps : List Slt, Sl w x.A x.n x.c ps
  r : Sl w t.Ar t.nr t.cr rs
  rk : ∀ x ∈ rs, ∃ ps : List Stp, Sl w x.A x.n x.c ps
  d : Sl w t.Ad t.nd t.cd ds
  dk : ∀ x ∈ ds, ∃ e : Ex, Rp w e x.it
theorem Tok.on {w w' : World} {t : Tv} {zs bs : List Nm} {rs : List Rt} {ds : List Dq} (h : Tok w t zs bs rs ds) (hb : Below w.heap.size w w') : Tok w' t zs bs rs ds :=
  ⟨h.z.below hb, fun x hx => (h.zk x hx).imp fun _ p => p.below hb, h.b.below hb, fun x hx => (h.bk x hx).imp fun _ p => p.below hb, h.r.below hb, fun x hx => (h.rk x hx).imp fun _ p => p.below hb, h.d.below hb, fun x hx => (h.dk x hx).imp fun _ p => p.on hb⟩
def seesB (kind : Int) (z b : ByteArray) (r : Rt) : Bool :=
  (r.kind == kind) && ((r.zone.toList == z.toList) || (r.zone.toList == [])) && ((r.band.toList == b.toList) || (r.band.toList == []))
def ratedB (rs : List Rt) (kind : Int) (z b : ByteArray) : Bool := rs.any (seesB kind z b)
set_option maxHeartbeats 8000000 in
theorem rated_any (t : Tv) (kind : Int) (z bd : ByteArray) (rs : List Rt) (w : World) (h : Sl w t.Ar t.nr t.cr rs) :
    Calls Try.prog 35 #[t.val, .int .i64 kind, .string z, .string bd] w fun e w' => e = .returned (.bool (ratedB rs kind z bd)) ∧ Below w.heap.size w w' := by
  have hn := h.nmax
  have H := Lib.hid h
  clear h
  obtain ⟨name, from_, split, Az, nz, cz, Ab, nb, cb, A, n, c, Ad, nd, cd⟩ := t
  unfold Tv.val
  dsimp only at hn H ⊢
  go_enter Try.func35, Try.ntmps35
  go_upto_region 1 with (fail)
  (obtain ⟨W, hWW, hbW, hzW, f1W, qfa⟩ := box1 w #[.string name, .int .i64 from_, .bool split, .slice Az nz cz, .slice Ab nb cb, .slice A n c, .slice Ad nd cd] 39; rw [← hWW]; have qa0 : W.cell? ⟨w.heap.size, 0, none⟩ = some (.string name) := f1W 0 _ rfl; have qa1 : W.cell? ⟨w.heap.size, 1, none⟩ = some (.int .i64 from_) := f1W 1 _ rfl; have qa2 : W.cell? ⟨w.heap.size, 2, none⟩ = some (.bool split) := f1W 2 _ rfl; have qa3 : W.cell? ⟨w.heap.size, 3, none⟩ = some (.slice Az nz cz) := f1W 3 _ rfl; have qa4 : W.cell? ⟨w.heap.size, 4, none⟩ = some (.slice Ab nb cb) := f1W 4 _ rfl; have qa5 : W.cell? ⟨w.heap.size, 5, none⟩ = some (.slice A n c) := f1W 5 _ rfl; have qa6 : W.cell? ⟨w.heap.size, 6, none⟩ = some (.slice Ad nd cd) := f1W 6 _ rfl; clear hWW f1W)
  go_wp2_with fail
  go_loopw [14] (fun i wr => ∃ k : Nat, k ≤ n ∧ i = .int .i64 k ∧ Below w.heap.size w wr ∧ W.heap.size ≤ wr.heap.size ∧ (rs.take k).any (seesB kind z bd) = false) (fun i _ => n - (intOf i).toNat)
  case atStart => exact ⟨0, Nat.zero_le _, rfl, hbW, Nat.le_refl _, by simp⟩
  case round =>
    obtain ⟨k, hk, rfl, hbr, hz, ha⟩ := hrel
    have HA := Lib.hid ha
    clear ha hbW
    by_cases hlt : k < n
    · obtain ⟨b, off, rfl, hbl, hcells⟩ := H.out.baseIn hbr (by omega)
      obtain ⟨r, hx⟩ := H.out.get hlt
      have c0 : wr.cell? ⟨b, off + k * 5, none⟩ = some (.int .i64 r.kind) := Sl.at_ hcells hx 0 rfl
      have c1 : wr.cell? ⟨b, off + k * 5 + 1, none⟩ = some (.string r.zone) := Sl.at_ hcells hx 1 rfl
      have c2 : wr.cell? ⟨b, off + k * 5 + 2, none⟩ = some (.string r.band) := Sl.at_ hcells hx 2 rfl
      have c3 : wr.cell? ⟨b, off + k * 5 + 3, none⟩ = some (.int .i64 r.setup) := Sl.at_ hcells hx 3 rfl
      have c4 : wr.cell? ⟨b, off + k * 5 + 4, none⟩ = some (.slice r.A r.n r.c) := Sl.at_ hcells hx 4 rfl
      have HX := Lib.hid hx
      clear hcells hx
      go_upto_region 4 with (fail)
      (obtain ⟨V, hWV, hbV, hzV, f1V, mfa⟩ := box1 wr #[.int .i64 r.kind, .string r.zone, .string r.band, .int .i64 r.setup, .slice r.A r.n r.c] 46; rw [← hWV]; have ma0 : V.cell? ⟨wr.heap.size, 0, none⟩ = some (.int .i64 r.kind) := f1V 0 _ rfl; have ma1 : V.cell? ⟨wr.heap.size, 1, none⟩ = some (.string r.zone) := f1V 1 _ rfl; have ma2 : V.cell? ⟨wr.heap.size, 2, none⟩ = some (.string r.band) := f1V 2 _ rfl; have ma3 : V.cell? ⟨wr.heap.size, 3, none⟩ = some (.int .i64 r.setup) := f1V 3 _ rfl; have ma4 : V.cell? ⟨wr.heap.size, 4, none⟩ = some (.slice r.A r.n r.c) := f1V 4 _ rfl; clear hWV f1V)
      replace hbr := hbr.trans (hbV.mono hbr.size)
      have hzV2 := hbV.size
      clear c0 c1 c2 c3 c4
      by_cases hk1 : (r.kind == kind) = true <;> by_cases hz1 : (r.zone.toList == z.toList) = true <;> by_cases hz2 : (r.zone.toList == []) = true <;> by_cases hb1 : (r.band.toList == bd.toList) = true <;> by_cases hb2 : (r.band.toList == []) = true
      all_goals
        (try rw [Bool.not_eq_true] at hk1); (try rw [Bool.not_eq_true] at hz1); (try rw [Bool.not_eq_true] at hb1); (try rw [Bool.not_eq_true] at hz2); (try rw [Bool.not_eq_true] at hb2)
        clear hbV
        go_wp2_with fail
        first
        | (go_ret
           refine ⟨ret_bool ?_, hbr⟩
           rw [eq_comm, ratedB, List.any_eq_true]
           exact ⟨r, List.mem_of_getElem? HX.out, by rw [seesB, hk1, hz1, hz2, hb1, hb2]; rfl⟩)
        | (go_roundw
           case rel =>
             refine ⟨k + 1, by omega, by go_num, hbr, by omega, ?_⟩
             rw [List.take_add_one, HX.out, List.any_append, HA.out]
             have hq : seesB kind z bd r = false := by rw [seesB, hk1, hz1, hz2, hb1, hb2]; rfl
             simp [hq]
           case measure => simp [intOf]; omega)
    · obtain rfl : n = k := by omega
      have ha := HA.out
      rw [List.take_of_length_le (by rw [H.out.len]; exact Nat.le_refl _)] at ha
      have HA2 := Lib.hid ha
      clear ha
      have hkn : ¬ ((n : Int) < (n : Int)) := by omega
      go_wp2_with fail
      go_ret
      exact ⟨ret_bool (by rw [ratedB, HA2.out]), hbr⟩
set_option maxHeartbeats 8000000 in
theorem refrate_any (t : Tv) (kind : Int) (z bd : ByteArray) (rs : List Rt) (w : World) (h : Sl w t.Ar t.nr t.cr rs) :
    Calls Try.prog 36 #[t.val, .int .i64 kind, .string z, .string bd] w fun e w' => e = .returned (.bool (ratedB rs kind z bd)) ∧ Below w.heap.size w w' := by
  have hn := h.nmax
  have H := Lib.hid h
  clear h
  obtain ⟨name, from_, split, Az, nz, cz, Ab, nb, cb, A, n, c, Ad, nd, cd⟩ := t
  unfold Tv.val
  dsimp only at hn H ⊢
  go_enter Try.func36, Try.ntmps36
  go_upto_region 1 with (fail)
  (obtain ⟨W, hWW, hbW, hzW, f1W, qfa⟩ := box1 w #[.string name, .int .i64 from_, .bool split, .slice Az nz cz, .slice Ab nb cb, .slice A n c, .slice Ad nd cd] 39; rw [← hWW]; have qa0 : W.cell? ⟨w.heap.size, 0, none⟩ = some (.string name) := f1W 0 _ rfl; have qa1 : W.cell? ⟨w.heap.size, 1, none⟩ = some (.int .i64 from_) := f1W 1 _ rfl; have qa2 : W.cell? ⟨w.heap.size, 2, none⟩ = some (.bool split) := f1W 2 _ rfl; have qa3 : W.cell? ⟨w.heap.size, 3, none⟩ = some (.slice Az nz cz) := f1W 3 _ rfl; have qa4 : W.cell? ⟨w.heap.size, 4, none⟩ = some (.slice Ab nb cb) := f1W 4 _ rfl; have qa5 : W.cell? ⟨w.heap.size, 5, none⟩ = some (.slice A n c) := f1W 5 _ rfl; have qa6 : W.cell? ⟨w.heap.size, 6, none⟩ = some (.slice Ad nd cd) := f1W 6 _ rfl; clear hWW f1W)
  go_wp2_with fail
  go_loopw [9] (fun i wr => ∃ k : Nat, k ≤ n ∧ i = .int .i64 k ∧ Below w.heap.size w wr ∧ W.heap.size ≤ wr.heap.size ∧ wr.cell? ⟨w.heap.size, 5, none⟩ = some (.slice A n c) ∧ (rs.take k).any (seesB kind z bd) = false) (fun i _ => n - (intOf i).toNat)
  case atStart => exact ⟨0, Nat.zero_le _, rfl, hbW, Nat.le_refl _, qa5, by simp⟩
  case round =>
    obtain ⟨k, hk, rfl, hbr, hz, qa5, ha⟩ := hrel
    have HA := Lib.hid ha
    clear ha hbW
    by_cases hlt : k < n
    · obtain ⟨b, off, rfl, hbl, hcells⟩ := H.out.baseIn hbr (by omega)
      obtain ⟨r, hx⟩ := H.out.get hlt
      have c0 : wr.cell? ⟨b, off + k * 5, none⟩ = some (.int .i64 r.kind) := Sl.at_ hcells hx 0 rfl
      have c1 : wr.cell? ⟨b, off + k * 5 + 1, none⟩ = some (.string r.zone) := Sl.at_ hcells hx 1 rfl
      have c2 : wr.cell? ⟨b, off + k * 5 + 2, none⟩ = some (.string r.band) := Sl.at_ hcells hx 2 rfl
      have c3 : wr.cell? ⟨b, off + k * 5 + 3, none⟩ = some (.int .i64 r.setup) := Sl.at_ hcells hx 3 rfl
      have c4 : wr.cell? ⟨b, off + k * 5 + 4, none⟩ = some (.slice r.A r.n r.c) := Sl.at_ hcells hx 4 rfl
      have HX := Lib.hid hx
      clear hcells hx
      go_upto_region 5 with (fail)
      (obtain ⟨V, hWV, hbV, hzV, f1V, mfa⟩ := box1 wr #[.int .i64 r.kind, .string r.zone, .string r.band, .int .i64 r.setup, .slice r.A r.n r.c] 46; rw [← hWV]; have ma0 : V.cell? ⟨wr.heap.size, 0, none⟩ = some (.int .i64 r.kind) := f1V 0 _ rfl; have ma1 : V.cell? ⟨wr.heap.size, 1, none⟩ = some (.string r.zone) := f1V 1 _ rfl; have ma2 : V.cell? ⟨wr.heap.size, 2, none⟩ = some (.string r.band) := f1V 2 _ rfl; have ma3 : V.cell? ⟨wr.heap.size, 3, none⟩ = some (.int .i64 r.setup) := f1V 3 _ rfl; have ma4 : V.cell? ⟨wr.heap.size, 4, none⟩ = some (.slice r.A r.n r.c) := f1V 4 _ rfl; clear hWV f1V)
      replace hbr := hbr.trans (hbV.mono hbr.size)
      have qa5V := (hbV.cell (p := ⟨_, _, none⟩) (by dsimp only; omega)).trans qa5
      have hzV2 := hbV.size
      clear c0 c1 c2 c3 c4
      by_cases hk1 : (r.kind == kind) = true <;> by_cases hz1 : (r.zone.toList == z.toList) = true <;> by_cases hz2 : (r.zone.toList == []) = true <;> by_cases hb1 : (r.band.toList == bd.toList) = true <;> by_cases hb2 : (r.band.toList == []) = true
      all_goals
        (try rw [Bool.not_eq_true] at hk1); (try rw [Bool.not_eq_true] at hz1); (try rw [Bool.not_eq_true] at hb1); (try rw [Bool.not_eq_true] at hz2); (try rw [Bool.not_eq_true] at hb2)
        clear hbV
        go_wp2_with fail
        first
        | (go_ret
           refine ⟨ret_bool ?_, hbr⟩
           rw [eq_comm, ratedB, List.any_eq_true]
           exact ⟨r, List.mem_of_getElem? HX.out, by rw [seesB, hk1, hz1, hz2, hb1, hb2]; rfl⟩)
        | (go_roundw
           case rel =>
             refine ⟨k + 1, by omega, by go_num, hbr, by omega, qa5V, ?_⟩
             rw [List.take_add_one, HX.out, List.any_append, HA.out]
             have hq : seesB kind z bd r = false := by rw [seesB, hk1, hz1, hz2, hb1, hb2]; rfl
             simp [hq]
           case measure => simp [intOf]; omega)
    · obtain rfl : n = k := by omega
      have ha := HA.out
      rw [List.take_of_length_le (by rw [H.out.len]; exact Nat.le_refl _)] at ha
      have HA2 := Lib.hid ha
      clear ha
      have hkn : ¬ ((n : Int) < (n : Int)) := by omega
      go_wp2_with fail
      go_ret
      exact ⟨ret_bool (by rw [ratedB, HA2.out]), hbr⟩
end Cv
end Go.Proofs.Ytcifbjgomflanaa
