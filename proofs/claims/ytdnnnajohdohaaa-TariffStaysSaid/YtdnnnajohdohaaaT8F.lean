/-
  Tariffs: an argument opened. No condition.
-/
import Derived.Test.YtdnnnajohdohaaaT8W
import Derived.Test.YtdnnnajohdohaaaLawE
import Derived.Test.YtdnnnajohdohaaaLawN
import Derived.BigQuiet
import Derived.StillTailTactics
import Derived.Lib.Overlaps
import Derived.Deep.DeepCutAuto
import Derived.Deep.RegionWith
import Derived.Laws.RangeAny
set_option maxRecDepth 100000
set_option linter.unusedVariables false
set_option linter.unusedSimpArgs false
namespace Go.Proofs.Ytdnnnajohdohaaa
open Go.RowKit

open Go.ChangeShapes Go.WideShapes Go.ChangeAt Go.RowKit
namespace Ck
theorem stp_read {H : Type} {enc : TypeId × Value → H} {w : World} {base : Nat} {spare : Nat → Bool} {held : Bool} (n : Nat) (cs : List Value) (y : DataW H × List MemPlace) (hl : cs.length = Flat.sz Stp)
    (h : DataW.trod enc Try.prog w base spare held n 87 cs = some y) : ∃ x : Stp, cs = Flat.cells x := by
  have hS : Try.prog.underlying 87 = some (.struct (Try.prog.fieldsOf 87)) := by kernel_rfl
  have hone : Go.Deep.oneCellFields Try.prog (Try.prog.fieldsOf 87) = true := by kernel_rfl
  have h3 : cs.length = 3 := hl
  obtain ⟨f0, hf0, hk0⟩ : ∃ f, (Try.prog.fieldsOf 87)[0]? = some f ∧ Try.prog.underlying f.type = some (.int .i64) := ⟨_, rfl, by kernel_rfl⟩
  obtain ⟨f1, hf1, hk1⟩ : ∃ f, (Try.prog.fieldsOf 87)[1]? = some f ∧ Try.prog.underlying f.type = some (.int .i64) := ⟨_, rfl, by kernel_rfl⟩
  obtain ⟨f2, hf2, hk2⟩ : ∃ f, (Try.prog.fieldsOf 87)[2]? = some f ∧ Try.prog.underlying f.type = some (.int .i64) := ⟨_, rfl, by kernel_rfl⟩
  obtain ⟨a, ha, _⟩ := field_int hS hone h hf0 (by omega) hk0
  obtain ⟨b, hb, _⟩ := field_int hS hone h hf1 (by omega) hk1
  obtain ⟨c, hc, _⟩ := field_int hS hone h hf2 (by omega) hk2
  match cs, h3 with
  | [u, v, w], _ =>
    simp only [List.getElem?_cons_zero, List.getElem?_cons_succ, Option.some.injEq] at ha hb hc
    subst ha hb hc
    exact ⟨⟨a, b, c⟩, rfl⟩
end Ck
namespace Cv
open Xp Ck
section
variable {H : Type} {enc : TypeId × Value → H} {w : World} {base : Nat} {spare : Nat → Bool} {held : Bool}
theorem str_read (n : Nat) (cs : List Value) (y : DataW H × List MemPlace) (hl : cs.length = Flat.sz ByteArray) (h : DataW.trod enc Try.prog w base spare held n 9 cs = some y) : ∃ x : ByteArray, cs = Flat.cells x := by
  replace hl : cs.length = 1 := hl
  match cs, hl with
  | [v], _ =>
    obtain ⟨s, hs, _⟩ := DataW.trod_string Try.underlying9 h
    cases hs
    exact ⟨s, rfl⟩
theorem slt_read (n : Nat) (cs : List Value) (y : DataW H × List MemPlace) (hl : cs.length = Flat.sz Slt) (h : DataW.trod enc Try.prog w base spare held n 84 cs = some y) : ∃ x : Slt, cs = Flat.cells x := by
  replace hl : cs.length = 3 := hl
  obtain ⟨i0, h0, _⟩ := sub_int Try.underlying84 h (i := 0) rfl (o := 0) rfl (by kernel_rfl) (by omega) Try.underlying3
  obtain ⟨i1, h1, _⟩ := sub_int Try.underlying84 h (i := 1) rfl (o := 1) rfl (by kernel_rfl) (by omega) Try.underlying3
  obtain ⟨i2, h2, _⟩ := sub_int Try.underlying84 h (i := 2) rfl (o := 2) rfl (by kernel_rfl) (by omega) Try.underlying3
  refine ⟨⟨i0, i1, i2⟩, ?_⟩
  clear h
  match cs, hl with
  | [_, _, _], _ => cases h0; cases h1; cases h2; rfl
theorem zone_read (n : Nat) (cs : List Value) (y : DataW H × List MemPlace) (hl : cs.length = Flat.sz Nm) (h : DataW.trod enc Try.prog w base spare held n 56 cs = some y) : ∃ x : Nm, cs = Flat.cells x ∧ ∃ ps : List ByteArray, Sl w x.A x.n x.c ps := by
  replace hl : cs.length = 2 := hl
  obtain ⟨s, h0, _⟩ := sub_str Try.underlying56 h (i := 0) rfl (o := 0) rfl (by kernel_rfl) (by omega) Try.underlying9
  obtain ⟨v, m, z, _, h1, ht⟩ := sub_cell Try.underlying56 h (i := 1) rfl (o := 1) rfl (by kernel_rfl) (by omega)
  obtain ⟨A, k, c, xs, rfl, _, hsl, _⟩ := open_items (α := ByteArray) (fun _ => True) Try.underlying54 (by kernel_rfl) (fun n' cs' y' _ hl' ht' => by obtain ⟨x, hx⟩ := str_read n' cs' y' hl' ht'; exact ⟨x, hx, trivial⟩) ht
  refine ⟨⟨s, A, k, c⟩, ?_, xs, hsl⟩
  clear h ht
  match cs, hl with
  | [_, _], _ => cases h0; cases h1; rfl
theorem band_read (n : Nat) (cs : List Value) (y : DataW H × List MemPlace) (hl : cs.length = Flat.sz Nm) (h : DataW.trod enc Try.prog w base spare held n 70 cs = some y) : ∃ x : Nm, cs = Flat.cells x ∧ ∃ ps : List Slt, Sl w x.A x.n x.c ps := by
  replace hl : cs.length = 2 := hl
  obtain ⟨s, h0, _⟩ := sub_str Try.underlying70 h (i := 0) rfl (o := 0) rfl (by kernel_rfl) (by omega) Try.underlying9
  obtain ⟨v, m, z, _, h1, ht⟩ := sub_cell Try.underlying70 h (i := 1) rfl (o := 1) rfl (by kernel_rfl) (by omega)
  obtain ⟨A, k, c, xs, rfl, _, hsl, _⟩ := open_items (α := Slt) (fun _ => True) Try.underlying68 (by kernel_rfl) (fun n' cs' y' _ hl' ht' => by obtain ⟨x, hx⟩ := slt_read n' cs' y' hl' ht'; exact ⟨x, hx, trivial⟩) ht
  refine ⟨⟨s, A, k, c⟩, ?_, xs, hsl⟩
  clear h ht
  match cs, hl with
  | [_, _], _ => cases h0; cases h1; rfl
theorem rate_read (n : Nat) (cs : List Value) (y : DataW H × List MemPlace) (hl : cs.length = Flat.sz Rt) (h : DataW.trod enc Try.prog w base spare held n 73 cs = some y) : ∃ x : Rt, cs = Flat.cells x ∧ ∃ ps : List Stp, Sl w x.A x.n x.c ps := by
  replace hl : cs.length = 5 := hl
  obtain ⟨i0, h0, _⟩ := sub_int Try.underlying73 h (i := 0) rfl (o := 0) rfl (by kernel_rfl) (by omega) Try.underlying3
  obtain ⟨s1, h1, _⟩ := sub_str Try.underlying73 h (i := 1) rfl (o := 1) rfl (by kernel_rfl) (by omega) Try.underlying9
  obtain ⟨s2, h2, _⟩ := sub_str Try.underlying73 h (i := 2) rfl (o := 2) rfl (by kernel_rfl) (by omega) Try.underlying9
  obtain ⟨i3, h3, _⟩ := sub_int Try.underlying73 h (i := 3) rfl (o := 3) rfl (by kernel_rfl) (by omega) Try.underlying3
  obtain ⟨v, m, z, _, h4, ht⟩ := sub_cell Try.underlying73 h (i := 4) rfl (o := 4) rfl (by kernel_rfl) (by omega)
  obtain ⟨A, k, c, xs, rfl, _, hsl, _⟩ := open_items (α := Stp) (fun _ => True) Try.underlying71 (by kernel_rfl) (fun n' cs' y' _ hl' ht' => by obtain ⟨x, hx⟩ := stp_read n' cs' y' hl' ht'; exact ⟨x, hx, trivial⟩) ht
  refine ⟨⟨i0, s1, s2, i3, A, k, c⟩, ?_, xs, hsl⟩
  clear h ht
  match cs, hl with
  | [_, _, _, _, _], _ => cases h0; cases h1; cases h2; cases h3; cases h4; rfl
theorem disc_read (n : Nat) (cs : List Value) (y : DataW H × List MemPlace) (hl : cs.length = Flat.sz Dq) (h : DataW.trod enc Try.prog w base spare held n 62 cs = some y) : ∃ x : Dq, cs = Flat.cells x ∧ ∃ e : Ex, Rp w e x.it := by
  replace hl : cs.length = 6 := hl
  obtain ⟨s, h0, _⟩ := sub_str Try.underlying62 h (i := 0) rfl (o := 0) rfl (by kernel_rfl) (by omega) Try.underlying9
  obtain ⟨m, z, _, hz⟩ := sub_cells Try.underlying62 h (i := 1) rfl
  have hc : Try.prog.cellsOf 60 = 4 := by kernel_rfl
  replace hz : DataW.trod enc Try.prog w base spare held m 60 ((cs.drop 1).take 4) = some z := by rw [← hc]; exact hz
  obtain ⟨x, hx, e, he⟩ := ex_read (m + 1) m (by omega) _ z (by simp [hl]) hz
  obtain ⟨i, h5, _⟩ := sub_int Try.underlying62 h (i := 2) rfl (o := 5) rfl (by kernel_rfl) (by omega) Try.underlying3
  refine ⟨⟨s, x, i⟩, ?_, e, he⟩
  clear h hz
  match cs, hl with
  | [_, _, _, _, _, _], _ => cases h0; cases h5; cases hx; rfl
theorem strK_read (n : Nat) (cs : List Value) (y : DataW H × List MemPlace) (hl : cs.length = Flat.sz ByteArray) (h : DataW.trod enc Try.prog w base spare held n 9 cs = some y) : ∃ x : ByteArray, cs = Flat.cells x ∧ x.size ≤ maxLen := by
  replace hl : cs.length = 1 := hl
  match cs, hl with
  | [v], _ =>
    obtain ⟨s, hs, _, hw⟩ := DataW.trod_string Try.underlying9 h
    cases hs
    exact ⟨s, rfl, hw⟩
theorem zoneK_read (n : Nat) (cs : List Value) (y : DataW H × List MemPlace) (hl : cs.length = Flat.sz Nm) (h : DataW.trod enc Try.prog w base spare held n 56 cs = some y) : ∃ x : Nm, cs = Flat.cells x ∧ x.name.size ≤ maxLen ∧ ∃ ps : List ByteArray, Sl w x.A x.n x.c ps ∧ ∀ p ∈ ps, p.size ≤ maxLen := by
  replace hl : cs.length = 2 := hl
  obtain ⟨s, h0, hs⟩ := sub_str Try.underlying56 h (i := 0) rfl (o := 0) rfl (by kernel_rfl) (by omega) Try.underlying9
  obtain ⟨v, m, z, _, h1, ht⟩ := sub_cell Try.underlying56 h (i := 1) rfl (o := 1) rfl (by kernel_rfl) (by omega)
  obtain ⟨A, k, c, xs, rfl, _, hsl, hK⟩ := open_items (α := ByteArray) (fun x => x.size ≤ maxLen) Try.underlying54 (by kernel_rfl) (fun n' cs' y' _ hl' ht' => strK_read n' cs' y' hl' ht') ht
  refine ⟨⟨s, A, k, c⟩, ?_, hs, xs, hsl, hK⟩
  clear h ht
  match cs, hl with
  | [_, _], _ => cases h0; cases h1; rfl
theorem bandK_read (n : Nat) (cs : List Value) (y : DataW H × List MemPlace) (hl : cs.length = Flat.sz Nm) (h : DataW.trod enc Try.prog w base spare held n 70 cs = some y) : ∃ x : Nm, cs = Flat.cells x ∧ x.name.size ≤ maxLen ∧ ∃ ps : List Slt, Sl w x.A x.n x.c ps := by
  replace hl : cs.length = 2 := hl
  obtain ⟨s, h0, hs⟩ := sub_str Try.underlying70 h (i := 0) rfl (o := 0) rfl (by kernel_rfl) (by omega) Try.underlying9
  obtain ⟨v, m, z, _, h1, ht⟩ := sub_cell Try.underlying70 h (i := 1) rfl (o := 1) rfl (by kernel_rfl) (by omega)
  obtain ⟨A, k, c, xs, rfl, _, hsl, _⟩ := open_items (α := Slt) (fun _ => True) Try.underlying68 (by kernel_rfl) (fun n' cs' y' _ hl' ht' => by obtain ⟨x, hx⟩ := slt_read n' cs' y' hl' ht'; exact ⟨x, hx, trivial⟩) ht
  refine ⟨⟨s, A, k, c⟩, ?_, hs, xs, hsl⟩
  clear h ht
  match cs, hl with
  | [_, _], _ => cases h0; cases h1; rfl
theorem discK_read (n : Nat) (cs : List Value) (y : DataW H × List MemPlace) (hl : cs.length = Flat.sz Dq) (h : DataW.trod enc Try.prog w base spare held n 62 cs = some y) : ∃ x : Dq, cs = Flat.cells x ∧ x.name.size ≤ maxLen ∧ ∃ e : Ex, Rp w e x.it := by
  obtain ⟨x, hx, he⟩ := disc_read n cs y hl h
  replace hl : cs.length = 6 := hl
  obtain ⟨s, h0, hs⟩ := sub_str Try.underlying62 h (i := 0) rfl (o := 0) rfl (by kernel_rfl) (by omega) Try.underlying9
  subst hx
  cases h0
  exact ⟨x, rfl, hs, he⟩
theorem pick {α β : Type} [Inhabited β] {l : List α} {P : α → β → Prop} (h : ∀ x ∈ l, ∃ y, P x y) : ∃ f : α → β, ∀ x ∈ l, P x (f x) := by
  classical
  refine ⟨fun x => if hx : x ∈ l then (h x hx).choose else default, fun x hx => ?_⟩
  show P x (if hx : x ∈ l then (h x hx).choose else default)
  rw [dif_pos hx]
  exact (h x hx).choose_spec
instance : Inhabited Ex := ⟨.mk 0 0 ⟨#[]⟩ []⟩
theorem open_tar {v : Value} {d : DataW H} {p : List MemPlace} {r : Reach} {b0 : Nat} (hv : Value.okWide Try.prog w r b0 32 v) (h : DataW.Trod enc Try.prog w base spare held 32 v d p) :
    ∃ (name : ByteArray) (from_ : Int) (split : Bool) (Az : Option Addr) (nz cz : Nat) (Ab : Option Addr) (nb cb : Nat) (Ar : Option Addr) (nr cr : Nat) (Ad : Option Addr) (nd cd : Nat), ∃ (PZ : Nm → List ByteArray) (SB : Nm → List Slt) (SR : Rt → List Stp) (E : Dq → Ex) (zs bs : List Nm) (rs : List Rt) (ds : List Dq), v = .agg #[.string name, .int .i64 from_, .bool split, .slice Az nz cz, .slice Ab nb cb, .slice Ar nr cr, .slice Ad nd cd] ∧ TS w name Az nz cz Ab nb cb Ar nr cr Ad nd cd PZ SB SR E zs bs rs ds := by
  obtain ⟨cs, rfl, hsz⟩ := okWide_struct Try.underlying32 hv
  obtain ⟨fuel, hf⟩ := h
  have hf' : DataW.trod enc Try.prog w base spare held fuel 32 cs.toList = some (d, p) := by simpa [Value.cells] using hf
  have hl : cs.toList.length = 7 := by rw [Array.length_toList, hsz]; kernel_rfl
  obtain ⟨s0, h0, hs0⟩ := sub_str Try.underlying32 hf' (i := 0) rfl (o := 0) rfl (by kernel_rfl) (by omega) Try.underlying9
  obtain ⟨i1, h1, _⟩ := sub_int Try.underlying32 hf' (i := 1) rfl (o := 1) rfl (by kernel_rfl) (by omega) Try.underlying3
  obtain ⟨b2, h2⟩ := sub_bool Try.underlying32 hf' (i := 2) rfl (o := 2) rfl (by kernel_rfl) (by omega) Try.underlying4
  obtain ⟨v3, m3, z3, _, h3, t3⟩ := sub_cell Try.underlying32 hf' (i := 3) rfl (o := 3) rfl (by kernel_rfl) (by omega)
  obtain ⟨v4, m4, z4, _, h4, t4⟩ := sub_cell Try.underlying32 hf' (i := 4) rfl (o := 4) rfl (by kernel_rfl) (by omega)
  obtain ⟨v5, m5, z5, _, h5, t5⟩ := sub_cell Try.underlying32 hf' (i := 5) rfl (o := 5) rfl (by kernel_rfl) (by omega)
  obtain ⟨v6, m6, z6, _, h6, t6⟩ := sub_cell Try.underlying32 hf' (i := 6) rfl (o := 6) rfl (by kernel_rfl) (by omega)
  obtain ⟨Az, nz, cz, zs, rfl, _, hz, zk⟩ := open_items (α := Nm) (fun x => x.name.size ≤ maxLen ∧ ∃ ps : List ByteArray, Sl w x.A x.n x.c ps ∧ ∀ p ∈ ps, p.size ≤ maxLen) Try.underlying27 (by kernel_rfl) (fun n' cs' y' _ hl' ht' => zoneK_read n' cs' y' hl' ht') t3
  obtain ⟨Ab, nb, cb, bs, rfl, _, hb, bk⟩ := open_items (α := Nm) (fun x => x.name.size ≤ maxLen ∧ ∃ ps : List Slt, Sl w x.A x.n x.c ps) Try.underlying28 (by kernel_rfl) (fun n' cs' y' _ hl' ht' => bandK_read n' cs' y' hl' ht') t4
  obtain ⟨Ar, nr, cr, rs, rfl, _, hr, rk⟩ := open_items (α := Rt) (fun x => ∃ ps : List Stp, Sl w x.A x.n x.c ps) Try.underlying29 (by kernel_rfl) (fun n' cs' y' _ hl' ht' => rate_read n' cs' y' hl' ht') t5
  obtain ⟨Ad, nd, cd, ds, rfl, _, hd, dk⟩ := open_items (α := Dq) (fun x => x.name.size ≤ maxLen ∧ ∃ e : Ex, Rp w e x.it) Try.underlying30 (by kernel_rfl) (fun n' cs' y' _ hl' ht' => discK_read n' cs' y' hl' ht') t6
  obtain ⟨PZ, hPZ⟩ := pick (fun x hx => (zk x hx).2)
  obtain ⟨SB, hSB⟩ := pick (fun x hx => (bk x hx).2)
  obtain ⟨SR, hSR⟩ := pick rk
  obtain ⟨E, hE⟩ := pick (fun x hx => (dk x hx).2)
  refine ⟨s0, i1, b2, Az, nz, cz, Ab, nb, cb, Ar, nr, cr, Ad, nd, cd, PZ, SB, SR, E, zs, bs, rs, ds, congrArg Value.agg (Array.toList_inj.1 ?_), ⟨hs0, hz, fun x hx => (hPZ x hx).1, fun x hx => (zk x hx).1, fun x hx => (hPZ x hx).2, hb, hSB, fun x hx => (bk x hx).1, hr, hSR, hd, hE, fun x hx => (dk x hx).1⟩⟩
  match hcl : cs.toList, hl with
  | [_, _, _, _, _, _, _], _ =>
    rw [hcl] at h0 h1 h2 h3 h4 h5 h6
    cases h0; cases h1; cases h2; cases h3; cases h4; cases h5; cases h6
    rfl
end
end Cv
end Go.Proofs.Ytdnnnajohdohaaa
