/-
  Tariffs: an argument opened; bytes. No condition.
-/
import Derived.Test.YtcifbjgomflanaaCkZ
import Derived.Test.YtcifbjgomflanaaCkX
import Derived.BigQuiet
import Derived.StillTailTactics
import Derived.Lib.Overlaps
import Derived.Deep.DeepCutAuto
import Derived.Deep.RegionWith
set_option maxRecDepth 100000
set_option linter.unusedVariables false
set_option linter.unusedSimpArgs false
namespace Go.Proofs.Ytcifbjgomflanaa
open Go.RowKit

open Go.ChangeShapes Go.WideShapes Go.ChangeAt Go.RowKit
namespace Cv
open Xp Ck
section
variable {H : Type} {enc : TypeId × Value → H} {w : World} {base : Nat} {spare : Nat → Bool} {held : Bool}
theorem open_tar2 {v : Value} {d : DataW H} {p : List MemPlace} {r : Reach} {b0 : Nat} (hv : Value.okWide Try.prog w r b0 39 v) (h : DataW.Trod enc Try.prog w base spare held 39 v d p) :
    ∃ (name : ByteArray) (from_ : Int) (split : Bool) (Az : Option Addr) (nz cz : Nat) (Ab : Option Addr) (nb cb : Nat) (Ar : Option Addr) (nr cr : Nat) (Ad : Option Addr) (nd cd : Nat), ∃ (PZ : Nm → List ByteArray) (SB : Nm → List Slt) (SR : Rt → List Stp) (E : Dq → Ex) (zs bs : List Nm) (rs : List Rt) (ds : List Dq), v = .agg #[.string name, .int .i64 from_, .bool split, .slice Az nz cz, .slice Ab nb cb, .slice Ar nr cr, .slice Ad nd cd] ∧ TS w name Az nz cz Ab nb cb Ar nr cr Ad nd cd PZ SB SR E zs bs rs ds ∧ (Ad = none → cd = 0) ∧ (Ar = none → cr = 0) := by
  obtain ⟨cs, rfl, hsz⟩ := okWide_struct Try.underlying39 hv
  obtain ⟨fuel, hf⟩ := h
  have hf' : DataW.trod enc Try.prog w base spare held fuel 39 cs.toList = some (d, p) := by simpa [Value.cells] using hf
  have hl : cs.toList.length = 7 := by rw [Array.length_toList, hsz]; kernel_rfl
  obtain ⟨s0, h0, hs0⟩ := sub_str Try.underlying39 hf' (i := 0) rfl (o := 0) rfl (by kernel_rfl) (by omega) Try.underlying9
  obtain ⟨i1, h1, _⟩ := sub_int Try.underlying39 hf' (i := 1) rfl (o := 1) rfl (by kernel_rfl) (by omega) Try.underlying3
  obtain ⟨b2, h2⟩ := sub_bool Try.underlying39 hf' (i := 2) rfl (o := 2) rfl (by kernel_rfl) (by omega) Try.underlying4
  obtain ⟨v3, m3, z3, _, h3, t3⟩ := sub_cell Try.underlying39 hf' (i := 3) rfl (o := 3) rfl (by kernel_rfl) (by omega)
  obtain ⟨v4, m4, z4, _, h4, t4⟩ := sub_cell Try.underlying39 hf' (i := 4) rfl (o := 4) rfl (by kernel_rfl) (by omega)
  obtain ⟨v5, m5, z5, _, h5, t5⟩ := sub_cell Try.underlying39 hf' (i := 5) rfl (o := 5) rfl (by kernel_rfl) (by omega)
  obtain ⟨v6, m6, z6, _, h6, t6⟩ := sub_cell Try.underlying39 hf' (i := 6) rfl (o := 6) rfl (by kernel_rfl) (by omega)
  obtain ⟨Az, nz, cz, zs, rfl, _, hz, zk⟩ := open_items (α := Nm) (fun x => x.name.size ≤ maxLen ∧ ∃ ps : List ByteArray, Sl w x.A x.n x.c ps ∧ ∀ p ∈ ps, p.size ≤ maxLen) Try.underlying34 (by kernel_rfl) (fun n' cs' y' _ hl' ht' => zoneK_read n' cs' y' hl' ht') t3
  obtain ⟨Ab, nb, cb, bs, rfl, _, hb, bk⟩ := open_items (α := Nm) (fun x => x.name.size ≤ maxLen ∧ ∃ ps : List Slt, Sl w x.A x.n x.c ps) Try.underlying35 (by kernel_rfl) (fun n' cs' y' _ hl' ht' => bandK_read n' cs' y' hl' ht') t4
  obtain ⟨Ar, nr, cr, rs, rfl, nAr, hr, rk⟩ := open_items (α := Rt) (fun x => ∃ ps : List Stp, Sl w x.A x.n x.c ps) Try.underlying36 (by kernel_rfl) (fun n' cs' y' _ hl' ht' => rate_read n' cs' y' hl' ht') t5
  obtain ⟨Ad, nd, cd, ds, rfl, nAd, hd, dk⟩ := open_items (α := Dq) (fun x => x.name.size ≤ maxLen ∧ ∃ e : Ex, Rp w e x.it) Try.underlying37 (by kernel_rfl) (fun n' cs' y' _ hl' ht' => discK_read n' cs' y' hl' ht') t6
  obtain ⟨PZ, hPZ⟩ := pick (fun x hx => (zk x hx).2)
  obtain ⟨SB, hSB⟩ := pick (fun x hx => (bk x hx).2)
  obtain ⟨SR, hSR⟩ := pick rk
  obtain ⟨E, hE⟩ := pick (fun x hx => (dk x hx).2)
  refine ⟨s0, i1, b2, Az, nz, cz, Ab, nb, cb, Ar, nr, cr, Ad, nd, cd, PZ, SB, SR, E, zs, bs, rs, ds, congrArg Value.agg (Array.toList_inj.1 ?_), ⟨hs0, hz, fun x hx => (hPZ x hx).1, fun x hx => (zk x hx).1, fun x hx => (hPZ x hx).2, hb, hSB, fun x hx => (bk x hx).1, hr, hSR, hd, hE, fun x hx => (dk x hx).1⟩, nAd, nAr⟩
  match hcl : cs.toList, hl with
  | [_, _, _, _, _, _, _], _ =>
    rw [hcl] at h0 h1 h2 h3 h4 h5 h6
    cases h0; cases h1; cases h2; cases h3; cases h4; cases h5; cases h6
    rfl
end
theorem u8_nat {n : Int} (h : (Lit.int .u8 n).wf = true) : ∃ m : Nat, n = (m : Int) ∧ m ≤ 255 := by
  replace h : (decide (IntKind.min .u8 ≤ n) && decide (n ≤ IntKind.max .u8)) = true := h
  rw [Bool.and_eq_true, decide_eq_true_eq, decide_eq_true_eq] at h
  have h3 : IntKind.min .u8 = 0 := by decide
  have h4 : IntKind.max .u8 = 255 := by decide
  exact ⟨n.toNat, by omega, by omega⟩
end Cv
end Go.Proofs.Ytcifbjgomflanaa
