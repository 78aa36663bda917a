/-
  Disputes: Lines. No condition.
-/
import Derived.Test.YthidlakkpdbeaaaDpE
import Derived.BigQuiet
import Derived.StillTailTactics
import Derived.Lib.Overlaps
import Derived.Deep.DeepCutAuto
import Derived.Deep.RegionWith
import Derived.Laws.Rows
set_option maxRecDepth 100000
set_option linter.unusedVariables false
set_option linter.unusedSimpArgs false
namespace Go.Proofs.Ythidlakkpdbeaaa
open Go.RowKit

namespace Dp
def perB (f t : Int) : Bool := decide (0 ≤ f) && decide (f < t) && decide (t ≤ 12622780800)
def conB (f t x : Int) : Bool := perB f t && decide (f ≤ x) && decide (x < t)
structure Ln where
  kind : Int
  sub : Int
  name : ByteArray
  cat : ByteArray
  cnt : Int
  units : Int
  amt : Int
  rnd : Int
instance : Flat Ln where
  sz := 8
  pos := by decide
  cells d := [.int .i64 d.kind, .int .i64 d.sub, .string d.name, .string d.cat, .int .i64 d.cnt, .int .i64 d.units, .int .i64 d.amt, .int .i64 d.rnd]
  len _ := rfl
  one _ := by simp [Value.oneCell']
theorem info_ln : (Try.prog.info? 55).map (fun i => (i.zero, i.size, i.bytes)) = some (some (.agg #[.int .i64 0, .int .i64 0, .string ⟨#[]⟩, .string ⟨#[]⟩, .int .i64 0, .int .i64 0, .int .i64 0, .int .i64 0]), 8, 80) := by kernel_rfl
abbrev nCredit : ByteArray := ⟨#[99, 114, 101, 100, 105, 116]⟩
def lineP (cat : ByteArray) (d : Dsp) : Ln := ⟨4, 0, nCredit, cat, 1, 0, -d.cr, 0⟩
def takes (a f t : Int) (d : Dsp) : Bool := decide (d.acc = a) && decide (d.st = 2) && conB f t d.at_
def linesP (a f t : Int) (cat : ByteArray) (ds : List Dsp) : List Ln := (ds.filter (takes a f t)).map (lineP cat)
theorem linesP_take {a f t : Int} {cat : ByteArray} {ds : List Dsp} {k : Nat} {d : Dsp} (h : ds[k]? = some d) : linesP a f t cat (ds.take (k + 1)) = linesP a f t cat (ds.take k) ++ if takes a f t d then [lineP cat d] else [] := by
  unfold linesP
  rw [List.take_add_one, List.filter_append, List.map_append, h]
  congr 1
  cases ht : takes a f t d <;> simp [ht]
theorem ivalid_any (f t : Int) (w : World) : Calls Try.prog 35 #[.agg #[.int .i64 f, .int .i64 t]] w fun r w' => r = .returned (.bool (perB f t)) ∧ Below w.heap.size w w' := by
  rcases (show ¬ 0 ≤ f ∨ (0 ≤ f ∧ ¬ f < t) ∨ (0 ≤ f ∧ f < t) by omega) with h | ⟨h, h2⟩ | ⟨h, h2⟩
  · have HP := Lib.hid (show perB f t = false by unfold perB; rw [decide_eq_false h]; rfl)
    go_enter Try.func35, Try.ntmps35
    go_upto_region 1 with (fail)
    (obtain ⟨W, hWW, hbW, hzW, f1W, qfa⟩ := box1 w #[.int .i64 f, .int .i64 t] 33; rw [← hWW]; have qa0 : W.cell? ⟨w.heap.size, 0, none⟩ = some (.int .i64 f) := f1W 0 _ rfl; have qa1 : W.cell? ⟨w.heap.size, 1, none⟩ = some (.int .i64 t) := f1W 1 _ rfl; clear hWW f1W)
    go_wp2_with fail
    go_ret
    exact ⟨ret_bool (by rw [HP.out]), hbW⟩
  · have HP := Lib.hid (show perB f t = false by unfold perB; rw [decide_eq_false h2, Bool.and_false]; rfl)
    go_enter Try.func35, Try.ntmps35
    go_upto_region 1 with (fail)
    (obtain ⟨W, hWW, hbW, hzW, f1W, qfa⟩ := box1 w #[.int .i64 f, .int .i64 t] 33; rw [← hWW]; have qa0 : W.cell? ⟨w.heap.size, 0, none⟩ = some (.int .i64 f) := f1W 0 _ rfl; have qa1 : W.cell? ⟨w.heap.size, 1, none⟩ = some (.int .i64 t) := f1W 1 _ rfl; clear hWW f1W)
    go_wp2_with fail
    go_ret
    exact ⟨ret_bool (by rw [HP.out]), hbW⟩
  · have HP := Lib.hid (show perB f t = decide (t ≤ 12622780800) by unfold perB; rw [decide_eq_true h, decide_eq_true h2]; rfl)
    go_enter Try.func35, Try.ntmps35
    go_upto_region 1 with (fail)
    (obtain ⟨W, hWW, hbW, hzW, f1W, qfa⟩ := box1 w #[.int .i64 f, .int .i64 t] 33; rw [← hWW]; have qa0 : W.cell? ⟨w.heap.size, 0, none⟩ = some (.int .i64 f) := f1W 0 _ rfl; have qa1 : W.cell? ⟨w.heap.size, 1, none⟩ = some (.int .i64 t) := f1W 1 _ rfl; clear hWW f1W)
    go_wp2_with fail
    go_ret
    exact ⟨ret_bool (by rw [HP.out]), hbW⟩
theorem rvalid_any (f t : Int) (w : World) : Calls Try.prog 18 #[.agg #[.int .i64 f, .int .i64 t]] w fun r w' => r = .returned (.bool (perB f t)) ∧ Below w.heap.size w w' := by
  rcases (show ¬ 0 ≤ f ∨ (0 ≤ f ∧ ¬ f < t) ∨ (0 ≤ f ∧ f < t) by omega) with h | ⟨h, h2⟩ | ⟨h, h2⟩
  · have HP := Lib.hid (show perB f t = false by unfold perB; rw [decide_eq_false h]; rfl)
    go_enter Try.func18, Try.ntmps18
    go_upto_region 1 with (fail)
    (obtain ⟨W, hWW, hbW, hzW, f1W, qfa⟩ := box1 w #[.int .i64 f, .int .i64 t] 33; rw [← hWW]; have qa0 : W.cell? ⟨w.heap.size, 0, none⟩ = some (.int .i64 f) := f1W 0 _ rfl; have qa1 : W.cell? ⟨w.heap.size, 1, none⟩ = some (.int .i64 t) := f1W 1 _ rfl; clear hWW f1W)
    go_wp2_with fail
    go_ret
    exact ⟨ret_bool (by rw [HP.out]), hbW⟩
  · have HP := Lib.hid (show perB f t = false by unfold perB; rw [decide_eq_false h2, Bool.and_false]; rfl)
    go_enter Try.func18, Try.ntmps18
    go_upto_region 1 with (fail)
    (obtain ⟨W, hWW, hbW, hzW, f1W, qfa⟩ := box1 w #[.int .i64 f, .int .i64 t] 33; rw [← hWW]; have qa0 : W.cell? ⟨w.heap.size, 0, none⟩ = some (.int .i64 f) := f1W 0 _ rfl; have qa1 : W.cell? ⟨w.heap.size, 1, none⟩ = some (.int .i64 t) := f1W 1 _ rfl; clear hWW f1W)
    go_wp2_with fail
    go_ret
    exact ⟨ret_bool (by rw [HP.out]), hbW⟩
  · have HP := Lib.hid (show perB f t = decide (t ≤ 12622780800) by unfold perB; rw [decide_eq_true h, decide_eq_true h2]; rfl)
    go_enter Try.func18, Try.ntmps18
    go_upto_region 1 with (fail)
    (obtain ⟨W, hWW, hbW, hzW, f1W, qfa⟩ := box1 w #[.int .i64 f, .int .i64 t] 33; rw [← hWW]; have qa0 : W.cell? ⟨w.heap.size, 0, none⟩ = some (.int .i64 f) := f1W 0 _ rfl; have qa1 : W.cell? ⟨w.heap.size, 1, none⟩ = some (.int .i64 t) := f1W 1 _ rfl; clear hWW f1W)
    go_wp2_with fail
    go_ret
    exact ⟨ret_bool (by rw [HP.out]), hbW⟩
theorem icontains_any (f t x : Int) (w : World) : Calls Try.prog 36 #[.agg #[.int .i64 f, .int .i64 t], .int .i64 x] w fun r w' => r = .returned (.bool (conB f t x)) ∧ Below w.heap.size w w' := by
  obtain ⟨pb, hpb⟩ : ∃ pb, perB f t = pb := ⟨_, rfl⟩
  have HPB := Lib.hid hpb
  cases pb
  · have HP := Lib.hid (show conB f t x = false by unfold conB; rw [hpb]; rfl)
    clear hpb
    go_enter Try.func36, Try.ntmps36
    go_upto_region 1 with (fail)
    (obtain ⟨W, hWW, hbW, hzW, f1W, qfa⟩ := box1 w #[.int .i64 f, .int .i64 t] 33; rw [← hWW]; have qa0 : W.cell? ⟨w.heap.size, 0, none⟩ = some (.int .i64 f) := f1W 0 _ rfl; have qa1 : W.cell? ⟨w.heap.size, 1, none⟩ = some (.int .i64 t) := f1W 1 _ rfl; clear hWW f1W)
    go_wp2_with fail
    refine (ivalid_any f t _).mono ?_
    rintro r w1 ⟨rfl, hb1⟩
    have hT := hbW.trans (hb1.mono (by omega))
    (have hzhb1 := hb1.size; replace qa0 := (hb1.cell (p := ⟨_, _, none⟩) (by (try dsimp only) <;> omega)).trans qa0; replace qa1 := (hb1.cell (p := ⟨_, _, none⟩) (by (try dsimp only) <;> omega)).trans qa1)
    clear hb1
    rw [HPB.out]
    go_wp2_with fail
    go_ret
    exact ⟨ret_bool (by rw [HP.out]), hT⟩
  · by_cases h : f ≤ x
    · have HP := Lib.hid (show conB f t x = decide (x < t) by unfold conB; rw [hpb, decide_eq_true h]; rfl)
      clear hpb
      go_enter Try.func36, Try.ntmps36
      go_upto_region 1 with (fail)
      (obtain ⟨W, hWW, hbW, hzW, f1W, qfa⟩ := box1 w #[.int .i64 f, .int .i64 t] 33; rw [← hWW]; have qa0 : W.cell? ⟨w.heap.size, 0, none⟩ = some (.int .i64 f) := f1W 0 _ rfl; have qa1 : W.cell? ⟨w.heap.size, 1, none⟩ = some (.int .i64 t) := f1W 1 _ rfl; clear hWW f1W)
      go_wp2_with fail
      refine (ivalid_any f t _).mono ?_
      rintro r w1 ⟨rfl, hb1⟩
      have hT := hbW.trans (hb1.mono (by omega))
      (have hzhb1 := hb1.size; replace qa0 := (hb1.cell (p := ⟨_, _, none⟩) (by (try dsimp only) <;> omega)).trans qa0; replace qa1 := (hb1.cell (p := ⟨_, _, none⟩) (by (try dsimp only) <;> omega)).trans qa1)
      clear hb1
      rw [HPB.out]
      go_wp2_with fail
      go_ret
      exact ⟨ret_bool (by rw [HP.out]), hT⟩
    · have HP := Lib.hid (show conB f t x = false by unfold conB; rw [decide_eq_false h, Bool.and_false]; rfl)
      clear hpb
      go_enter Try.func36, Try.ntmps36
      go_upto_region 1 with (fail)
      (obtain ⟨W, hWW, hbW, hzW, f1W, qfa⟩ := box1 w #[.int .i64 f, .int .i64 t] 33; rw [← hWW]; have qa0 : W.cell? ⟨w.heap.size, 0, none⟩ = some (.int .i64 f) := f1W 0 _ rfl; have qa1 : W.cell? ⟨w.heap.size, 1, none⟩ = some (.int .i64 t) := f1W 1 _ rfl; clear hWW f1W)
      go_wp2_with fail
      refine (ivalid_any f t _).mono ?_
      rintro r w1 ⟨rfl, hb1⟩
      have hT := hbW.trans (hb1.mono (by omega))
      (have hzhb1 := hb1.size; replace qa0 := (hb1.cell (p := ⟨_, _, none⟩) (by (try dsimp only) <;> omega)).trans qa0; replace qa1 := (hb1.cell (p := ⟨_, _, none⟩) (by (try dsimp only) <;> omega)).trans qa1)
      clear hb1
      rw [HPB.out]
      go_wp2_with fail
      go_ret
      exact ⟨ret_bool (by rw [HP.out]), hT⟩
theorem rcontains_any (f t x : Int) (w : World) : Calls Try.prog 37 #[.agg #[.int .i64 f, .int .i64 t], .int .i64 x] w fun r w' => r = .returned (.bool (conB f t x)) ∧ Below w.heap.size w w' := by
  obtain ⟨pb, hpb⟩ : ∃ pb, perB f t = pb := ⟨_, rfl⟩
  have HPB := Lib.hid hpb
  cases pb
  · have HP := Lib.hid (show conB f t x = false by unfold conB; rw [hpb]; rfl)
    clear hpb
    go_enter Try.func37, Try.ntmps37
    go_upto_region 1 with (fail)
    (obtain ⟨W, hWW, hbW, hzW, f1W, qfa⟩ := box1 w #[.int .i64 f, .int .i64 t] 33; rw [← hWW]; have qa0 : W.cell? ⟨w.heap.size, 0, none⟩ = some (.int .i64 f) := f1W 0 _ rfl; have qa1 : W.cell? ⟨w.heap.size, 1, none⟩ = some (.int .i64 t) := f1W 1 _ rfl; clear hWW f1W)
    go_wp2_with fail
    refine (rvalid_any f t _).mono ?_
    rintro r w1 ⟨rfl, hb1⟩
    have hT := hbW.trans (hb1.mono (by omega))
    (have hzhb1 := hb1.size; replace qa0 := (hb1.cell (p := ⟨_, _, none⟩) (by (try dsimp only) <;> omega)).trans qa0; replace qa1 := (hb1.cell (p := ⟨_, _, none⟩) (by (try dsimp only) <;> omega)).trans qa1)
    clear hb1
    rw [HPB.out]
    go_wp2_with fail
    go_ret
    exact ⟨ret_bool (by rw [HP.out]), hT⟩
  · by_cases h : f ≤ x
    · have HP := Lib.hid (show conB f t x = decide (x < t) by unfold conB; rw [hpb, decide_eq_true h]; rfl)
      clear hpb
      go_enter Try.func37, Try.ntmps37
      go_upto_region 1 with (fail)
      (obtain ⟨W, hWW, hbW, hzW, f1W, qfa⟩ := box1 w #[.int .i64 f, .int .i64 t] 33; rw [← hWW]; have qa0 : W.cell? ⟨w.heap.size, 0, none⟩ = some (.int .i64 f) := f1W 0 _ rfl; have qa1 : W.cell? ⟨w.heap.size, 1, none⟩ = some (.int .i64 t) := f1W 1 _ rfl; clear hWW f1W)
      go_wp2_with fail
      refine (rvalid_any f t _).mono ?_
      rintro r w1 ⟨rfl, hb1⟩
      have hT := hbW.trans (hb1.mono (by omega))
      (have hzhb1 := hb1.size; replace qa0 := (hb1.cell (p := ⟨_, _, none⟩) (by (try dsimp only) <;> omega)).trans qa0; replace qa1 := (hb1.cell (p := ⟨_, _, none⟩) (by (try dsimp only) <;> omega)).trans qa1)
      clear hb1
      rw [HPB.out]
      go_wp2_with fail
      go_ret
      exact ⟨ret_bool (by rw [HP.out]), hT⟩
    · have HP := Lib.hid (show conB f t x = false by unfold conB; rw [decide_eq_false h, Bool.and_false]; rfl)
      clear hpb
      go_enter Try.func37, Try.ntmps37
      go_upto_region 1 with (fail)
      (obtain ⟨W, hWW, hbW, hzW, f1W, qfa⟩ := box1 w #[.int .i64 f, .int .i64 t] 33; rw [← hWW]; have qa0 : W.cell? ⟨w.heap.size, 0, none⟩ = some (.int .i64 f) := f1W 0 _ rfl; have qa1 : W.cell? ⟨w.heap.size, 1, none⟩ = some (.int .i64 t) := f1W 1 _ rfl; clear hWW f1W)
      go_wp2_with fail
      refine (rvalid_any f t _).mono ?_
      rintro r w1 ⟨rfl, hb1⟩
      have hT := hbW.trans (hb1.mono (by omega))
      (have hzhb1 := hb1.size; replace qa0 := (hb1.cell (p := ⟨_, _, none⟩) (by (try dsimp only) <;> omega)).trans qa0; replace qa1 := (hb1.cell (p := ⟨_, _, none⟩) (by (try dsimp only) <;> omega)).trans qa1)
      clear hb1
      rw [HPB.out]
      go_wp2_with fail
      go_ret
      exact ⟨ret_bool (by rw [HP.out]), hT⟩
theorem alloc_size3 (W : World) (o : Obj) : (W.alloc o).heap.size = W.heap.size + 1 := by simp
set_option maxHeartbeats 8000000 in
theorem lines_any (a f t : Int) (cat : ByteArray) (A : Option Addr) (n c : Nat) (ds : List Dsp) (w : World) (h : Sl w A n c ds) (hn1 : n ≤ 1000) (hp : ∀ (i : Nat) (d : Dsp), ds[i]? = some d → propB d = true) :
    Calls Try.prog 16 #[.slice A n c, .int .i64 a, .agg #[.int .i64 f, .int .i64 t], .string cat] w fun r w' => ∃ u, r = .returned u ∧ Ow w' w.heap.size 55 u (linesP a f t cat ds) ∧ Below w.heap.size w w' := by
  have hlen := Lib.hid h.len
  have H := Lib.hid h
  have HP := Lib.hid hp
  clear h hp
  go_enter Try.func16, Try.ntmps16
  go_upto_region 1 with (fail)
  (obtain ⟨W, hWW, hbW, hzW, f1W, sfa⟩ := box1 w #[.int .i64 f, .int .i64 t] 33; rw [← hWW]; have sa0 : W.cell? ⟨w.heap.size, 0, none⟩ = some (.int .i64 f) := f1W 0 _ rfl; have sa1 : W.cell? ⟨w.heap.size, 1, none⟩ = some (.int .i64 t) := f1W 1 _ rfl; clear hWW f1W)
  have a0 := sa0
  have a1 := sa1
  clear sa0 sa1
  have hg0 : w.heap.size < W.heap.size := hzW
  go_wp2_with fail
  go_loopw [9, 14] (fun u i wr => ∃ (k : Nat) (out : List Ln), k ≤ n ∧ i = .int .i64 k ∧ Ow wr W.heap.size 55 u out ∧ out.length ≤ k ∧ Below W.heap.size W wr ∧ out = linesP a f t cat (ds.take k)) (fun _ i _ => n - (intOf i).toNat)
  case atStart => exact ⟨0, [], Nat.zero_le _, rfl, Ow.nil_ _ _ _, Nat.le_refl _, Below.refl _ _, rfl⟩
  case round =>
    obtain ⟨k, out, hk, rfl, hown, hol, hb, hout⟩ := hrel
    have HOW := Lib.hid hown
    clear hown
    have hsz := hb.size
    have hgr : w.heap.size < wr.heap.size := by omega
    by_cases hlt : k < n
    · obtain ⟨b, off, rfl, hbw, hc⟩ := H.out.baseIn (hbW.trans (hb.mono hbW.size)) (by omega)
      obtain ⟨d, hr⟩ := H.out.get (k := k) (by omega)
      (have c0 : wr.cell? ⟨b, off + k * 7, none⟩ = some (.int .i64 d.id) := Sl.at_ hc hr 0 rfl; have c1 : wr.cell? ⟨b, off + k * 7 + 1, none⟩ = some (.int .i64 d.acc) := Sl.at_ hc hr 1 rfl; have c2 : wr.cell? ⟨b, off + k * 7 + 2, none⟩ = some (.int .i64 d.use) := Sl.at_ hc hr 2 rfl; have c3 : wr.cell? ⟨b, off + k * 7 + 3, none⟩ = some (.int .i64 d.amt) := Sl.at_ hc hr 3 rfl; have c4 : wr.cell? ⟨b, off + k * 7 + 4, none⟩ = some (.int .i64 d.st) := Sl.at_ hc hr 4 rfl; have c5 : wr.cell? ⟨b, off + k * 7 + 5, none⟩ = some (.int .i64 d.cr) := Sl.at_ hc hr 5 rfl; have c6 : wr.cell? ⟨b, off + k * 7 + 6, none⟩ = some (.int .i64 d.at_) := Sl.at_ hc hr 6 rfl)
      have hpd := HP.out k d hr
      obtain ⟨hst3, ha1, ha2, hcr1, hcr2⟩ := propB_in hpd
      have HTK := Lib.hid (linesP_take (a := a) (f := f) (t := t) (cat := cat) hr)
      rw [← hout] at HTK
      have hwn : IntKind.i64.wrap (-d.cr) = -d.cr := IntWalk.i64_in _ (by omega)
      clear hr hc hpd hst3 hout
      (have sa0 := (hb.cell (p := ⟨_, _, none⟩) (by (try dsimp only) <;> omega)).trans a0; have sa1 := (hb.cell (p := ⟨_, _, none⟩) (by (try dsimp only) <;> omega)).trans a1)
      go_upto_region 5 with (fail)
      (obtain ⟨V, hWV, hbV, hzV, f1V, qfa⟩ := box1 wr #[.int .i64 d.id, .int .i64 d.acc, .int .i64 d.use, .int .i64 d.amt, .int .i64 d.st, .int .i64 d.cr, .int .i64 d.at_] 24; rw [← hWV]; have qa0 : V.cell? ⟨wr.heap.size, 0, none⟩ = some (.int .i64 d.id) := f1V 0 _ rfl; have qa1 : V.cell? ⟨wr.heap.size, 1, none⟩ = some (.int .i64 d.acc) := f1V 1 _ rfl; have qa2 : V.cell? ⟨wr.heap.size, 2, none⟩ = some (.int .i64 d.use) := f1V 2 _ rfl; have qa3 : V.cell? ⟨wr.heap.size, 3, none⟩ = some (.int .i64 d.amt) := f1V 3 _ rfl; have qa4 : V.cell? ⟨wr.heap.size, 4, none⟩ = some (.int .i64 d.st) := f1V 4 _ rfl; have qa5 : V.cell? ⟨wr.heap.size, 5, none⟩ = some (.int .i64 d.cr) := f1V 5 _ rfl; have qa6 : V.cell? ⟨wr.heap.size, 6, none⟩ = some (.int .i64 d.at_) := f1V 6 _ rfl; clear hWV f1V)
      clear c0 c1 c2 c3 c4 c5 c6
      replace HOW := Lib.hid (HOW.out.below hbV)
      (have hzhbV := hbV.size; replace sa0 := (hbV.cell (p := ⟨_, _, none⟩) (by (try dsimp only) <;> omega)).trans sa0; replace sa1 := (hbV.cell (p := ⟨_, _, none⟩) (by (try dsimp only) <;> omega)).trans sa1; replace hb := Below.trans hb (Below.mono hbV (by omega)))
      have hgV : wr.heap.size < V.heap.size := hzV
      clear hbV
      by_cases h1 : d.acc = a
      · have q1 : (d.acc == a) = true := by simpa using h1
        by_cases h2 : d.st = 2
        · have q2 : (d.st == 2) = true := by simpa using h2
          obtain ⟨cb, hcb⟩ : ∃ cb, conB f t d.at_ = cb := ⟨_, rfl⟩
          have HCON := Lib.hid hcb
          have htk : takes a f t d = cb := by unfold takes; rw [decide_eq_true h1, decide_eq_true h2, hcb]; rfl
          have HTB := Lib.hid htk
          clear h1 h2 htk
          obtain ⟨pb, hpb⟩ : ∃ pb, perB f t = pb := ⟨_, rfl⟩
          have HPER := Lib.hid hpb
          cases pb
          · have HN := Lib.hid (show linesP a f t cat (ds.take (k + 1)) = out by rw [HTK.out, HTB.out, ← hcb, show conB f t d.at_ = false by unfold conB; rw [hpb]; rfl]; simp)
            clear hpb hcb
            go_wp2_with fail
            refine (ivalid_any f t _).mono ?_
            rintro r w1 ⟨rfl, hb1⟩
            replace HOW := Lib.hid (HOW.out.below hb1)
            (have hzhb1 := hb1.size; replace sa0 := (hb1.cell (p := ⟨_, _, none⟩) (by (try dsimp only) <;> omega)).trans sa0; replace sa1 := (hb1.cell (p := ⟨_, _, none⟩) (by (try dsimp only) <;> omega)).trans sa1; replace qa0 := (hb1.cell (p := ⟨_, _, none⟩) (by (try dsimp only) <;> omega)).trans qa0; replace qa1 := (hb1.cell (p := ⟨_, _, none⟩) (by (try dsimp only) <;> omega)).trans qa1; replace qa2 := (hb1.cell (p := ⟨_, _, none⟩) (by (try dsimp only) <;> omega)).trans qa2; replace qa3 := (hb1.cell (p := ⟨_, _, none⟩) (by (try dsimp only) <;> omega)).trans qa3; replace qa4 := (hb1.cell (p := ⟨_, _, none⟩) (by (try dsimp only) <;> omega)).trans qa4; replace qa5 := (hb1.cell (p := ⟨_, _, none⟩) (by (try dsimp only) <;> omega)).trans qa5; replace qa6 := (hb1.cell (p := ⟨_, _, none⟩) (by (try dsimp only) <;> omega)).trans qa6; replace hb := Below.trans hb (Below.mono hb1 (by omega)))
            have hgV1 : wr.heap.size < w1.heap.size := by omega
            clear hb1
            rw [HPER.out]
            go_wp2_with fail
            go_roundw
            case rel => exact ⟨k + 1, out, by omega, by go_num, HOW.out, by omega, hb, by rw [HN.out]⟩
            case measure => simp [intOf]; omega
          clear hpb
          clear hcb
          go_wp2_with fail
          refine (ivalid_any f t _).mono ?_
          rintro r w1 ⟨rfl, hb1⟩
          replace HOW := Lib.hid (HOW.out.below hb1)
          (have hzhb1 := hb1.size; replace sa0 := (hb1.cell (p := ⟨_, _, none⟩) (by (try dsimp only) <;> omega)).trans sa0; replace sa1 := (hb1.cell (p := ⟨_, _, none⟩) (by (try dsimp only) <;> omega)).trans sa1; replace qa0 := (hb1.cell (p := ⟨_, _, none⟩) (by (try dsimp only) <;> omega)).trans qa0; replace qa1 := (hb1.cell (p := ⟨_, _, none⟩) (by (try dsimp only) <;> omega)).trans qa1; replace qa2 := (hb1.cell (p := ⟨_, _, none⟩) (by (try dsimp only) <;> omega)).trans qa2; replace qa3 := (hb1.cell (p := ⟨_, _, none⟩) (by (try dsimp only) <;> omega)).trans qa3; replace qa4 := (hb1.cell (p := ⟨_, _, none⟩) (by (try dsimp only) <;> omega)).trans qa4; replace qa5 := (hb1.cell (p := ⟨_, _, none⟩) (by (try dsimp only) <;> omega)).trans qa5; replace qa6 := (hb1.cell (p := ⟨_, _, none⟩) (by (try dsimp only) <;> omega)).trans qa6; replace hb := Below.trans hb (Below.mono hb1 (by omega)))
          have hgV1 : wr.heap.size < w1.heap.size := by omega
          clear hb1
          rw [HPER.out]
          go_wp2_with fail
          refine (icontains_any f t d.at_ _).mono ?_
          rintro r w2 ⟨rfl, hb2⟩
          replace HOW := Lib.hid (HOW.out.below hb2)
          (have hzhb2 := hb2.size; replace sa0 := (hb2.cell (p := ⟨_, _, none⟩) (by (try dsimp only) <;> omega)).trans sa0; replace sa1 := (hb2.cell (p := ⟨_, _, none⟩) (by (try dsimp only) <;> omega)).trans sa1; replace qa0 := (hb2.cell (p := ⟨_, _, none⟩) (by (try dsimp only) <;> omega)).trans qa0; replace qa1 := (hb2.cell (p := ⟨_, _, none⟩) (by (try dsimp only) <;> omega)).trans qa1; replace qa2 := (hb2.cell (p := ⟨_, _, none⟩) (by (try dsimp only) <;> omega)).trans qa2; replace qa3 := (hb2.cell (p := ⟨_, _, none⟩) (by (try dsimp only) <;> omega)).trans qa3; replace qa4 := (hb2.cell (p := ⟨_, _, none⟩) (by (try dsimp only) <;> omega)).trans qa4; replace qa5 := (hb2.cell (p := ⟨_, _, none⟩) (by (try dsimp only) <;> omega)).trans qa5; replace qa6 := (hb2.cell (p := ⟨_, _, none⟩) (by (try dsimp only) <;> omega)).trans qa6; replace hb := Below.trans hb (Below.mono hb2 (by omega)))
          have hgV2 : wr.heap.size < w2.heap.size := by omega
          clear hb2
          rw [HCON.out]
          have hgA : W.heap.size ≤ w2.heap.size := by omega
          cases cb
          · have HN := Lib.hid (show linesP a f t cat (ds.take (k + 1)) = out by rw [HTK.out, HTB.out]; simp)
            go_wp2_with fail
            go_roundw
            case rel => exact ⟨k + 1, out, by omega, by go_num, HOW.out, by omega, hb, by rw [HN.out]⟩
            case measure => simp [intOf]; omega
          · have HN := Lib.hid (show linesP a f t cat (ds.take (k + 1)) = out ++ [lineP cat d] by rw [HTK.out, HTB.out]; simp)
            go_wp2_with (at_builtin; go_must (
              refine wpl_append1 _ rfl (.tmp 37) (.tmp 43) 38 rfl W.heap.size 55 _ 80 Try.underlying38 info_ln rfl u9 out rfl (HOW.out.alloc _) _ (lineP cat d) rfl (fun j u hu => cells_new _ _ _ _ _ (by simp) u hu) (by omega) (by omega) (by rw [alloc_size3]; omega) ?_
              intro v2 w3 hown2 hu2
              have hbv2 := hu2.belowBase (HOW.out.alloc _) (hb.alloc hgA _) (by rw [alloc_size3]; omega)
              have HO2 := Lib.hid hown2
              clear hu2 hown2))
            go_roundw
            case rel => exact ⟨k + 1, out ++ [lineP cat d], by omega, by go_num, HO2.out, by simp; omega, hbv2, by rw [HN.out]⟩
            case measure => simp [intOf]; omega
        · have q2 : (d.st == 2) = false := by simpa using h2
          have HN := Lib.hid (show linesP a f t cat (ds.take (k + 1)) = out by rw [HTK.out, show takes a f t d = false by simp [takes, h2]]; simp)
          clear h1 h2
          go_wp2_with fail
          go_roundw
          case rel => exact ⟨k + 1, out, by omega, by go_num, HOW.out, by omega, hb, by rw [HN.out]⟩
          case measure => simp [intOf]; omega
      · have q1 : (d.acc == a) = false := by simpa using h1
        have HN := Lib.hid (show linesP a f t cat (ds.take (k + 1)) = out by rw [HTK.out, show takes a f t d = false by simp [takes, h1]]; simp)
        clear h1
        go_wp2_with fail
        go_roundw
        case rel => exact ⟨k + 1, out, by omega, by go_num, HOW.out, by omega, hb, by rw [HN.out]⟩
        case measure => simp [intOf]; omega
    · obtain rfl : k = n := by omega
      have hkn : ¬ ((k : Int) < (k : Int)) := by omega
      have HN := Lib.hid (show linesP a f t cat ds = out by rw [hout, List.take_of_length_le (by have := hlen.out; omega)])
      clear hout
      go_wp2_with fail
      go_ret
      exact ⟨_, rfl, by rw [HN.out]; exact HOW.out.lower (by omega), hbW.trans (hb.mono (by omega))⟩
set_option maxHeartbeats 8000000 in
theorem reflines_any (a f t : Int) (cat : ByteArray) (A : Option Addr) (n c : Nat) (ds : List Dsp) (w : World) (h : Sl w A n c ds) (hn1 : n ≤ 1000) (hp : ∀ (i : Nat) (d : Dsp), ds[i]? = some d → propB d = true) :
    Calls Try.prog 17 #[.slice A n c, .int .i64 a, .agg #[.int .i64 f, .int .i64 t], .string cat] w fun r w' => ∃ u, r = .returned u ∧ Ow w' w.heap.size 55 u (linesP a f t cat ds) ∧ Below w.heap.size w w' := by
  have hlen := Lib.hid h.len
  have H := Lib.hid h
  have HP := Lib.hid hp
  clear h hp
  go_enter Try.func17, Try.ntmps17
  go_upto_region 1 with (fail)
  (obtain ⟨W, hWW, hbW, hzW, f1W, sfa⟩ := box1 w #[.int .i64 f, .int .i64 t] 33; rw [← hWW]; have sa0 : W.cell? ⟨w.heap.size, 0, none⟩ = some (.int .i64 f) := f1W 0 _ rfl; have sa1 : W.cell? ⟨w.heap.size, 1, none⟩ = some (.int .i64 t) := f1W 1 _ rfl; clear hWW f1W)
  have a0 := sa0
  have a1 := sa1
  clear sa0 sa1
  have hg0 : w.heap.size < W.heap.size := hzW
  go_wp2_with fail
  go_loopw [9, 10] (fun u i wr => ∃ (k : Nat) (out : List Ln), k ≤ n ∧ i = .int .i64 k ∧ Ow wr W.heap.size 55 u out ∧ out.length ≤ k ∧ Below W.heap.size W wr ∧ out = linesP a f t cat (ds.take k)) (fun _ i _ => n - (intOf i).toNat)
  case atStart => exact ⟨0, [], Nat.zero_le _, rfl, Ow.nil_ _ _ _, Nat.le_refl _, Below.refl _ _, rfl⟩
  case round =>
    obtain ⟨k, out, hk, rfl, hown, hol, hb, hout⟩ := hrel
    have HOW := Lib.hid hown
    clear hown
    have hsz := hb.size
    have hgr : w.heap.size < wr.heap.size := by omega
    by_cases hlt : k < n
    · obtain ⟨b, off, rfl, hbw, hc⟩ := H.out.baseIn (hbW.trans (hb.mono hbW.size)) (by omega)
      obtain ⟨d, hr⟩ := H.out.get (k := k) (by omega)
      (have c0 : wr.cell? ⟨b, off + k * 7, none⟩ = some (.int .i64 d.id) := Sl.at_ hc hr 0 rfl; have c1 : wr.cell? ⟨b, off + k * 7 + 1, none⟩ = some (.int .i64 d.acc) := Sl.at_ hc hr 1 rfl; have c2 : wr.cell? ⟨b, off + k * 7 + 2, none⟩ = some (.int .i64 d.use) := Sl.at_ hc hr 2 rfl; have c3 : wr.cell? ⟨b, off + k * 7 + 3, none⟩ = some (.int .i64 d.amt) := Sl.at_ hc hr 3 rfl; have c4 : wr.cell? ⟨b, off + k * 7 + 4, none⟩ = some (.int .i64 d.st) := Sl.at_ hc hr 4 rfl; have c5 : wr.cell? ⟨b, off + k * 7 + 5, none⟩ = some (.int .i64 d.cr) := Sl.at_ hc hr 5 rfl; have c6 : wr.cell? ⟨b, off + k * 7 + 6, none⟩ = some (.int .i64 d.at_) := Sl.at_ hc hr 6 rfl)
      have hpd := HP.out k d hr
      obtain ⟨hst3, ha1, ha2, hcr1, hcr2⟩ := propB_in hpd
      have HTK := Lib.hid (linesP_take (a := a) (f := f) (t := t) (cat := cat) hr)
      rw [← hout] at HTK
      have hwn : IntKind.i64.wrap (-d.cr) = -d.cr := IntWalk.i64_in _ (by omega)
      clear hr hc hpd hst3 hout
      (have sa0 := (hb.cell (p := ⟨_, _, none⟩) (by (try dsimp only) <;> omega)).trans a0; have sa1 := (hb.cell (p := ⟨_, _, none⟩) (by (try dsimp only) <;> omega)).trans a1)
      go_upto_region 6 with (fail)
      (obtain ⟨V, hWV, hbV, hzV, f1V, qfa⟩ := box1 wr #[.int .i64 d.id, .int .i64 d.acc, .int .i64 d.use, .int .i64 d.amt, .int .i64 d.st, .int .i64 d.cr, .int .i64 d.at_] 24; rw [← hWV]; have qa0 : V.cell? ⟨wr.heap.size, 0, none⟩ = some (.int .i64 d.id) := f1V 0 _ rfl; have qa1 : V.cell? ⟨wr.heap.size, 1, none⟩ = some (.int .i64 d.acc) := f1V 1 _ rfl; have qa2 : V.cell? ⟨wr.heap.size, 2, none⟩ = some (.int .i64 d.use) := f1V 2 _ rfl; have qa3 : V.cell? ⟨wr.heap.size, 3, none⟩ = some (.int .i64 d.amt) := f1V 3 _ rfl; have qa4 : V.cell? ⟨wr.heap.size, 4, none⟩ = some (.int .i64 d.st) := f1V 4 _ rfl; have qa5 : V.cell? ⟨wr.heap.size, 5, none⟩ = some (.int .i64 d.cr) := f1V 5 _ rfl; have qa6 : V.cell? ⟨wr.heap.size, 6, none⟩ = some (.int .i64 d.at_) := f1V 6 _ rfl; clear hWV f1V)
      clear c0 c1 c2 c3 c4 c5 c6
      replace HOW := Lib.hid (HOW.out.below hbV)
      (have hzhbV := hbV.size; replace sa0 := (hbV.cell (p := ⟨_, _, none⟩) (by (try dsimp only) <;> omega)).trans sa0; replace sa1 := (hbV.cell (p := ⟨_, _, none⟩) (by (try dsimp only) <;> omega)).trans sa1; replace hb := Below.trans hb (Below.mono hbV (by omega)))
      have hgV : wr.heap.size < V.heap.size := hzV
      clear hbV
      by_cases h1 : d.acc = a
      · have q1 : (d.acc == a) = true := by simpa using h1
        by_cases h2 : d.st = 2
        · have q2 : (d.st == 2) = true := by simpa using h2
          obtain ⟨cb, hcb⟩ : ∃ cb, conB f t d.at_ = cb := ⟨_, rfl⟩
          have HCON := Lib.hid hcb
          have htk : takes a f t d = cb := by unfold takes; rw [decide_eq_true h1, decide_eq_true h2, hcb]; rfl
          have HTB := Lib.hid htk
          clear h1 h2 htk
          clear hcb
          go_wp2_with fail
          refine (rcontains_any f t d.at_ _).mono ?_
          rintro r w2 ⟨rfl, hb2⟩
          replace HOW := Lib.hid (HOW.out.below hb2)
          (have hzhb2 := hb2.size; replace sa0 := (hb2.cell (p := ⟨_, _, none⟩) (by (try dsimp only) <;> omega)).trans sa0; replace sa1 := (hb2.cell (p := ⟨_, _, none⟩) (by (try dsimp only) <;> omega)).trans sa1; replace qa0 := (hb2.cell (p := ⟨_, _, none⟩) (by (try dsimp only) <;> omega)).trans qa0; replace qa1 := (hb2.cell (p := ⟨_, _, none⟩) (by (try dsimp only) <;> omega)).trans qa1; replace qa2 := (hb2.cell (p := ⟨_, _, none⟩) (by (try dsimp only) <;> omega)).trans qa2; replace qa3 := (hb2.cell (p := ⟨_, _, none⟩) (by (try dsimp only) <;> omega)).trans qa3; replace qa4 := (hb2.cell (p := ⟨_, _, none⟩) (by (try dsimp only) <;> omega)).trans qa4; replace qa5 := (hb2.cell (p := ⟨_, _, none⟩) (by (try dsimp only) <;> omega)).trans qa5; replace qa6 := (hb2.cell (p := ⟨_, _, none⟩) (by (try dsimp only) <;> omega)).trans qa6; replace hb := Below.trans hb (Below.mono hb2 (by omega)))
          have hgV2 : wr.heap.size < w2.heap.size := by omega
          clear hb2
          rw [HCON.out]
          have hgA : W.heap.size ≤ w2.heap.size := by omega
          cases cb
          · have HN := Lib.hid (show linesP a f t cat (ds.take (k + 1)) = out by rw [HTK.out, HTB.out]; simp)
            go_wp2_with fail
            go_roundw
            case rel => exact ⟨k + 1, out, by omega, by go_num, HOW.out, by omega, hb, by rw [HN.out]⟩
            case measure => simp [intOf]; omega
          · have HN := Lib.hid (show linesP a f t cat (ds.take (k + 1)) = out ++ [lineP cat d] by rw [HTK.out, HTB.out]; simp)
            go_wp2_with (at_builtin; go_must (
              refine wpl_append1 _ rfl (.tmp 37) (.tmp 43) 38 rfl W.heap.size 55 _ 80 Try.underlying38 info_ln rfl u9 out rfl (HOW.out.alloc _) _ (lineP cat d) rfl (fun j u hu => cells_new _ _ _ _ _ (by simp) u hu) (by omega) (by omega) (by rw [alloc_size3]; omega) ?_
              intro v2 w3 hown2 hu2
              have hbv2 := hu2.belowBase (HOW.out.alloc _) (hb.alloc hgA _) (by rw [alloc_size3]; omega)
              have HO2 := Lib.hid hown2
              clear hu2 hown2))
            go_roundw
            case rel => exact ⟨k + 1, out ++ [lineP cat d], by omega, by go_num, HO2.out, by simp; omega, hbv2, by rw [HN.out]⟩
            case measure => simp [intOf]; omega
        · have q2 : (d.st == 2) = false := by simpa using h2
          have HN := Lib.hid (show linesP a f t cat (ds.take (k + 1)) = out by rw [HTK.out, show takes a f t d = false by simp [takes, h2]]; simp)
          clear h1 h2
          go_wp2_with fail
          go_roundw
          case rel => exact ⟨k + 1, out, by omega, by go_num, HOW.out, by omega, hb, by rw [HN.out]⟩
          case measure => simp [intOf]; omega
      · have q1 : (d.acc == a) = false := by simpa using h1
        have HN := Lib.hid (show linesP a f t cat (ds.take (k + 1)) = out by rw [HTK.out, show takes a f t d = false by simp [takes, h1]]; simp)
        clear h1
        go_wp2_with fail
        go_roundw
        case rel => exact ⟨k + 1, out, by omega, by go_num, HOW.out, by omega, hb, by rw [HN.out]⟩
        case measure => simp [intOf]; omega
    · obtain rfl : k = n := by omega
      have hkn : ¬ ((k : Int) < (k : Int)) := by omega
      have HN := Lib.hid (show linesP a f t cat ds = out by rw [hout, List.take_of_length_le (by have := hlen.out; omega)])
      clear hout
      go_wp2_with fail
      go_ret
      exact ⟨_, rfl, by rw [HN.out]; exact HOW.out.lower (by omega), hbW.trans (hb.mono (by omega))⟩
end Dp
end Go.Proofs.Ythidlakkpdbeaaa
