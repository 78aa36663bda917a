/-
  Tariffs: law Tariffs; a tariff opened. No condition.
-/
import Derived.Test.YtcifbjgomflanaaCkW
import Derived.Test.YtcifbjgomflanaaCvF
import Derived.BigQuiet
import Derived.StillTailTactics
import Derived.Lib.Overlaps
import Derived.Deep.DeepCutAuto
import Derived.Deep.RegionWith
import Derived.Laws.RangeAny
set_option maxRecDepth 100000
set_option linter.unusedVariables false
set_option linter.unusedSimpArgs false
namespace Go.Proofs.Ytcifbjgomflanaa
open Go.RowKit

open Go.ChangeShapes Go.WideShapes Go.ChangeAt Go.RowKit
namespace Cv
open Xp Ck
set_option maxHeartbeats 8000000 in
theorem law_tariffs (name : ByteArray) (from_ : Int) (split : Bool) (Az : Option Addr) (nz cz : Nat) (Ab : Option Addr) (nb cb : Nat) (Ar : Option Addr) (nr cr : Nat) (Ad : Option Addr) (nd cd : Nat) (PZ : Nm → List ByteArray) (SB : Nm → List Slt) (SR : Rt → List Stp) (E : Dq → Ex) (zs bs : List Nm) (rs : List Rt) (ds : List Dq) (w : World) (h : TS w name Az nz cz Ab nb cb Ar nr cr Ad nd cd PZ SB SR E zs bs rs ds) :
    Calls Try.prog 7 #[.agg #[.string name, .int .i64 from_, .bool split, .slice Az nz cz, .slice Ab nb cb, .slice Ar nr cr, .slice Ad nd cd]] w fun e w' => e = .returned (.bool true) ∧ Below w.heap.size w w' := by
  have HT := Lib.hid h
  have HK : Hid (Tok w ⟨name, from_, split, Az, nz, cz, Ab, nb, cb, Ar, nr, cr, Ad, nd, cd⟩ zs bs rs ds) := Lib.hid ⟨h.z, fun x hx => ⟨_, h.zk x hx⟩, h.b, fun x hx => ⟨_, h.bk x hx⟩, h.r, fun x hx => ⟨_, h.rk x hx⟩, h.d, fun x hx => ⟨_, h.dk x hx⟩⟩
  clear h
  go_enter Try.func7, Try.ntmps7
  go_upto_region 1 with (fail)
  (obtain ⟨W, hWW, hbW, hzW, f1W, qfa⟩ := box1 w #[.string name, .int .i64 from_, .bool split, .slice Az nz cz, .slice Ab nb cb, .slice Ar nr cr, .slice Ad nd cd] 39; rw [← hWW]; have qa0 : W.cell? ⟨w.heap.size, 0, none⟩ = some (.string name) := f1W 0 _ rfl; have qa1 : W.cell? ⟨w.heap.size, 1, none⟩ = some (.int .i64 from_) := f1W 1 _ rfl; have qa2 : W.cell? ⟨w.heap.size, 2, none⟩ = some (.bool split) := f1W 2 _ rfl; have qa3 : W.cell? ⟨w.heap.size, 3, none⟩ = some (.slice Az nz cz) := f1W 3 _ rfl; have qa4 : W.cell? ⟨w.heap.size, 4, none⟩ = some (.slice Ab nb cb) := f1W 4 _ rfl; have qa5 : W.cell? ⟨w.heap.size, 5, none⟩ = some (.slice Ar nr cr) := f1W 5 _ rfl; have qa6 : W.cell? ⟨w.heap.size, 6, none⟩ = some (.slice Ad nd cd) := f1W 6 _ rfl; clear hWW f1W)
  go_wp2_with fail
  refine (tsmall_any ⟨name, from_, split, Az, nz, cz, Ab, nb, cb, Ar, nr, cr, Ad, nd, cd⟩ zs bs rs ds _ (HK.out.on hbW)).mono ?_
  rintro r w2 ⟨⟨m, rfl, hm⟩, hb2⟩
  have hbA := hbW.trans (hb2.mono hbW.size)
  have hz2 := hb2.size
  (have hzhb2 := hb2.size; replace qa0 := (hb2.cell (p := ⟨_, _, none⟩) (by (try dsimp only) <;> omega)).trans qa0; replace qa1 := (hb2.cell (p := ⟨_, _, none⟩) (by (try dsimp only) <;> omega)).trans qa1; replace qa2 := (hb2.cell (p := ⟨_, _, none⟩) (by (try dsimp only) <;> omega)).trans qa2; replace qa3 := (hb2.cell (p := ⟨_, _, none⟩) (by (try dsimp only) <;> omega)).trans qa3; replace qa4 := (hb2.cell (p := ⟨_, _, none⟩) (by (try dsimp only) <;> omega)).trans qa4; replace qa5 := (hb2.cell (p := ⟨_, _, none⟩) (by (try dsimp only) <;> omega)).trans qa5; replace qa6 := (hb2.cell (p := ⟨_, _, none⟩) (by (try dsimp only) <;> omega)).trans qa6)
  clear hm
  cases m
  · go_wp2_with fail
    refine (awake_any _).mono ?_
    rintro r w3 ⟨rfl, hb3⟩
    go_wp2_with fail
    go_ret
    exact ⟨rfl, hbA.trans (hb3.mono hbA.size)⟩
  · clear hb2 hbW
    obtain ⟨cv, hcv⟩ : ∃ cv, tarE name from_ PZ SB SR E zs bs rs ds = cv := ⟨_, rfl⟩
    have HC := Lib.hid hcv
    clear hcv
    have hzW2 : w.heap.size < w2.heap.size := by omega
    go_upto_region 3 with (fail)
    ((with_reducible refine wp_region_class (Below w2.heap.size w2) ?_ ?_ ?_ ?_); kernel_rfl; kernel_rfl; (exact (Below.refl _ _).drew); (intro hnonemp); (have r0 := fun z : Wd (Below w2.heap.size w2) => (z.h.cell (p := ⟨_, _, none⟩) (by (try dsimp only) <;> omega)).trans qa0; have r1 := fun z : Wd (Below w2.heap.size w2) => (z.h.cell (p := ⟨_, _, none⟩) (by (try dsimp only) <;> omega)).trans qa1; have r2 := fun z : Wd (Below w2.heap.size w2) => (z.h.cell (p := ⟨_, _, none⟩) (by (try dsimp only) <;> omega)).trans qa2; have r3 := fun z : Wd (Below w2.heap.size w2) => (z.h.cell (p := ⟨_, _, none⟩) (by (try dsimp only) <;> omega)).trans qa3; have r4 := fun z : Wd (Below w2.heap.size w2) => (z.h.cell (p := ⟨_, _, none⟩) (by (try dsimp only) <;> omega)).trans qa4; have r5 := fun z : Wd (Below w2.heap.size w2) => (z.h.cell (p := ⟨_, _, none⟩) (by (try dsimp only) <;> omega)).trans qa5; have r6 := fun z : Wd (Below w2.heap.size w2) => (z.h.cell (p := ⟨_, _, none⟩) (by (try dsimp only) <;> omega)).trans qa6); (repeat (any_goals (first | go_big_quiet_step (((first | (go_at_call 17; (with_reducible refine (tariff_any name from_ split Az nz cz Ab nb cb Ar nr cr Ad nd cd PZ SB SR E zs bs rs ds _ (HT.out.on (hbA.trans (Below.mono (Wd.h _) hbA.size)))).mono ?_); rw [HC.out]; rintro e w' ⟨rfl, hbk⟩; exact ⟨rfl, ⟨w', Below.trans (Wd.h _) (hbk.mono (Below.size (Wd.h _)))⟩, rfl⟩) | (go_at_call 18; (with_reducible refine (reftariff_any name from_ split Az nz cz Ab nb cb Ar nr cr Ad nd cd PZ SB SR E zs bs rs ds _ (HT.out.on (hbA.trans (Below.mono (Wd.h _) hbA.size)))).mono ?_); rw [HC.out]; rintro e w' ⟨rfl, hbk⟩; exact ⟨rfl, ⟨w', Below.trans (Wd.h _) (hbk.mono (Below.size (Wd.h _)))⟩, rfl⟩) | (go_at_call 11; refine (awake_any _).mono ?_; rintro e w' ⟨rfl, hbk⟩; exact ⟨rfl, ⟨w', Below.trans (Wd.h _) (hbk.mono (Below.size (Wd.h _)))⟩, rfl⟩)))) | (refine wpQuiet_step (fun K hK => ?_); go_simp; (first | (refine hK _ ?_; clear hK K) | (split <;> rename_i hg <;> (refine hK _ ?_; clear hK K) <;> (try simp only [Bool.not_eq_true] at hg) <;> (first | simp only [Int.not_lt.2 hg, decide_false] | simp only [Int.not_le.1 hg, decide_true] | simp only [hg, decide_true, decide_false] | skip)))))));  all_goals (refine wpQuiet_nil ?_; intro wq hgq))
    all_goals
      have hfin := hbA.trans (Below.mono hgq hbA.size)
      go_wp2_with fail
      go_ret
      exact ⟨rfl, hfin⟩
section
variable {H : Type} {enc : TypeId × Value → H} {w : World} {base : Nat} {spare : Nat → Bool} {held : Bool}
theorem strK_read (n : Nat) (cs : List Value) (y : DataW H × List MemPlace) (hl : cs.length = Flat.sz ByteArray) (h : DataW.trod enc Try.prog w base spare held n 9 cs = some y) : ∃ x : ByteArray, cs = Flat.cells x ∧ x.size ≤ maxLen := by
  replace hl : cs.length = 1 := hl
  match cs, hl with
  | [v], _ =>
    obtain ⟨s, hs, _, hw⟩ := DataW.trod_string Try.underlying9 h
    cases hs
    exact ⟨s, rfl, hw⟩
theorem zoneK_read (n : Nat) (cs : List Value) (y : DataW H × List MemPlace) (hl : cs.length = Flat.sz Nm) (h : DataW.trod enc Try.prog w base spare held n 53 cs = some y) : ∃ x : Nm, cs = Flat.cells x ∧ x.name.size ≤ maxLen ∧ ∃ ps : List ByteArray, Sl w x.A x.n x.c ps ∧ ∀ p ∈ ps, p.size ≤ maxLen := by
  replace hl : cs.length = 2 := hl
  obtain ⟨s, h0, hs⟩ := sub_str Try.underlying53 h (i := 0) rfl (o := 0) rfl (by kernel_rfl) (by omega) Try.underlying9
  obtain ⟨v, m, z, _, h1, ht⟩ := sub_cell Try.underlying53 h (i := 1) rfl (o := 1) rfl (by kernel_rfl) (by omega)
  obtain ⟨A, k, c, xs, rfl, _, hsl, hK⟩ := open_items (α := ByteArray) (fun x => x.size ≤ maxLen) Try.underlying51 (by kernel_rfl) (fun n' cs' y' _ hl' ht' => strK_read n' cs' y' hl' ht') ht
  refine ⟨⟨s, A, k, c⟩, ?_, hs, xs, hsl, hK⟩
  clear h ht
  match cs, hl with
  | [_, _], _ => cases h0; cases h1; rfl
theorem bandK_read (n : Nat) (cs : List Value) (y : DataW H × List MemPlace) (hl : cs.length = Flat.sz Nm) (h : DataW.trod enc Try.prog w base spare held n 56 cs = some y) : ∃ x : Nm, cs = Flat.cells x ∧ x.name.size ≤ maxLen ∧ ∃ ps : List Slt, Sl w x.A x.n x.c ps := by
  replace hl : cs.length = 2 := hl
  obtain ⟨s, h0, hs⟩ := sub_str Try.underlying56 h (i := 0) rfl (o := 0) rfl (by kernel_rfl) (by omega) Try.underlying9
  obtain ⟨v, m, z, _, h1, ht⟩ := sub_cell Try.underlying56 h (i := 1) rfl (o := 1) rfl (by kernel_rfl) (by omega)
  obtain ⟨A, k, c, xs, rfl, _, hsl, _⟩ := open_items (α := Slt) (fun _ => True) Try.underlying54 (by kernel_rfl) (fun n' cs' y' _ hl' ht' => by obtain ⟨x, hx⟩ := slt_read n' cs' y' hl' ht'; exact ⟨x, hx, trivial⟩) ht
  refine ⟨⟨s, A, k, c⟩, ?_, hs, xs, hsl⟩
  clear h ht
  match cs, hl with
  | [_, _], _ => cases h0; cases h1; rfl
theorem discK_read (n : Nat) (cs : List Value) (y : DataW H × List MemPlace) (hl : cs.length = Flat.sz Dq) (h : DataW.trod enc Try.prog w base spare held n 58 cs = some y) : ∃ x : Dq, cs = Flat.cells x ∧ x.name.size ≤ maxLen ∧ ∃ e : Ex, Rp w e x.it := by
  obtain ⟨x, hx, he⟩ := disc_read n cs y hl h
  replace hl : cs.length = 6 := hl
  obtain ⟨s, h0, hs⟩ := sub_str Try.underlying58 h (i := 0) rfl (o := 0) rfl (by kernel_rfl) (by omega) Try.underlying9
  subst hx
  cases h0
  exact ⟨x, rfl, hs, he⟩
theorem pick {α β : Type} [Inhabited β] {l : List α} {P : α → β → Prop} (h : ∀ x ∈ l, ∃ y, P x y) : ∃ f : α → β, ∀ x ∈ l, P x (f x) := by
  classical
  refine ⟨fun x => if hx : x ∈ l then (h x hx).choose else default, fun x hx => ?_⟩
  show P x (if hx : x ∈ l then (h x hx).choose else default)
  rw [dif_pos hx]
  exact (h x hx).choose_spec
instance : Inhabited Ex := ⟨.mk 0 0 ⟨#[]⟩ []⟩
theorem open_tar {v : Value} {d : DataW H} {p : List MemPlace} {r : Reach} {b0 : Nat} (hv : Value.okWide Try.prog w r b0 39 v) (h : DataW.Trod enc Try.prog w base spare held 39 v d p) :
    ∃ (name : ByteArray) (from_ : Int) (split : Bool) (Az : Option Addr) (nz cz : Nat) (Ab : Option Addr) (nb cb : Nat) (Ar : Option Addr) (nr cr : Nat) (Ad : Option Addr) (nd cd : Nat), ∃ (PZ : Nm → List ByteArray) (SB : Nm → List Slt) (SR : Rt → List Stp) (E : Dq → Ex) (zs bs : List Nm) (rs : List Rt) (ds : List Dq), v = .agg #[.string name, .int .i64 from_, .bool split, .slice Az nz cz, .slice Ab nb cb, .slice Ar nr cr, .slice Ad nd cd] ∧ TS w name Az nz cz Ab nb cb Ar nr cr Ad nd cd PZ SB SR E zs bs rs ds := by
  obtain ⟨cs, rfl, hsz⟩ := okWide_struct Try.underlying39 hv
  obtain ⟨fuel, hf⟩ := h
  have hf' : DataW.trod enc Try.prog w base spare held fuel 39 cs.toList = some (d, p) := by simpa [Value.cells] using hf
  have hl : cs.toList.length = 7 := by rw [Array.length_toList, hsz]; kernel_rfl
  obtain ⟨s0, h0, hs0⟩ := sub_str Try.underlying39 hf' (i := 0) rfl (o := 0) rfl (by kernel_rfl) (by omega) Try.underlying9
  obtain ⟨i1, h1, _⟩ := sub_int Try.underlying39 hf' (i := 1) rfl (o := 1) rfl (by kernel_rfl) (by omega) Try.underlying3
  obtain ⟨b2, h2⟩ := sub_bool Try.underlying39 hf' (i := 2) rfl (o := 2) rfl (by kernel_rfl) (by omega) Try.underlying4
  obtain ⟨v3, m3, z3, _, h3, t3⟩ := sub_cell Try.underlying39 hf' (i := 3) rfl (o := 3) rfl (by kernel_rfl) (by omega)
  obtain ⟨v4, m4, z4, _, h4, t4⟩ := sub_cell Try.underlying39 hf' (i := 4) rfl (o := 4) rfl (by kernel_rfl) (by omega)
  obtain ⟨v5, m5, z5, _, h5, t5⟩ := sub_cell Try.underlying39 hf' (i := 5) rfl (o := 5) rfl (by kernel_rfl) (by omega)
  obtain ⟨v6, m6, z6, _, h6, t6⟩ := sub_cell Try.underlying39 hf' (i := 6) rfl (o := 6) rfl (by kernel_rfl) (by omega)
  obtain ⟨Az, nz, cz, zs, rfl, _, hz, zk⟩ := open_items (α := Nm) (fun x => x.name.size ≤ maxLen ∧ ∃ ps : List ByteArray, Sl w x.A x.n x.c ps ∧ ∀ p ∈ ps, p.size ≤ maxLen) Try.underlying34 (by kernel_rfl) (fun n' cs' y' _ hl' ht' => zoneK_read n' cs' y' hl' ht') t3
  obtain ⟨Ab, nb, cb, bs, rfl, _, hb, bk⟩ := open_items (α := Nm) (fun x => x.name.size ≤ maxLen ∧ ∃ ps : List Slt, Sl w x.A x.n x.c ps) Try.underlying35 (by kernel_rfl) (fun n' cs' y' _ hl' ht' => bandK_read n' cs' y' hl' ht') t4
  obtain ⟨Ar, nr, cr, rs, rfl, _, hr, rk⟩ := open_items (α := Rt) (fun x => ∃ ps : List Stp, Sl w x.A x.n x.c ps) Try.underlying36 (by kernel_rfl) (fun n' cs' y' _ hl' ht' => rate_read n' cs' y' hl' ht') t5
  obtain ⟨Ad, nd, cd, ds, rfl, _, hd, dk⟩ := open_items (α := Dq) (fun x => x.name.size ≤ maxLen ∧ ∃ e : Ex, Rp w e x.it) Try.underlying37 (by kernel_rfl) (fun n' cs' y' _ hl' ht' => discK_read n' cs' y' hl' ht') t6
  obtain ⟨PZ, hPZ⟩ := pick (fun x hx => (zk x hx).2)
  obtain ⟨SB, hSB⟩ := pick (fun x hx => (bk x hx).2)
  obtain ⟨SR, hSR⟩ := pick rk
  obtain ⟨E, hE⟩ := pick (fun x hx => (dk x hx).2)
  refine ⟨s0, i1, b2, Az, nz, cz, Ab, nb, cb, Ar, nr, cr, Ad, nd, cd, PZ, SB, SR, E, zs, bs, rs, ds, congrArg Value.agg (Array.toList_inj.1 ?_), ⟨hs0, hz, fun x hx => (hPZ x hx).1, fun x hx => (zk x hx).1, fun x hx => (hPZ x hx).2, hb, hSB, fun x hx => (bk x hx).1, hr, hSR, hd, hE, fun x hx => (dk x hx).1⟩⟩
  match hcl : cs.toList, hl with
  | [_, _, _, _, _, _, _], _ =>
    rw [hcl] at h0 h1 h2 h3 h4 h5 h6
    cases h0; cases h1; cases h2; cases h3; cases h4; cases h5; cases h6
    rfl
end
end Cv
end Go.Proofs.Ytcifbjgomflanaa
