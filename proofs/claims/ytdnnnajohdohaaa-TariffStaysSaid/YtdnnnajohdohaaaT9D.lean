/-
  Tariffs: arguments opened as data, with their weights. No condition.
-/
import Derived.Test.YtdnnnajohdohaaaT9C
import Derived.Test.YtdnnnajohdohaaaT8F
import Derived.Test.YtdnnnajohdohaaaLawW
import Derived.BigQuiet
import Derived.StillTailTactics
import Derived.Lib.Overlaps
import Derived.Deep.DeepCutAuto
import Derived.Deep.RegionWith
import Derived.Laws.RangeAny
set_option maxRecDepth 100000
set_option linter.unusedVariables false
set_option linter.unusedSimpArgs false
namespace Go.Proofs.Ytdnnnajohdohaaa
open Go.RowKit

open Go.ChangeShapes Go.WideShapes Go.ChangeAt Go.RowKit
namespace Cv
open Xp Ck
theorem all2_of {α β : Type} {R : α → β → Prop} {Q : β → Prop} : ∀ (xs : List α), (∀ x ∈ xs, ∃ d, R x d ∧ Q d) → ∃ ds : List β, All2 R xs ds ∧ ∀ d ∈ ds, Q d
  | [], _ => ⟨[], All2.nil_, by simp⟩
  | x :: xs, h => by
    obtain ⟨d, hd, hq⟩ := h x (by simp)
    obtain ⟨ds, hds, hqs⟩ := all2_of xs (fun y hy => h y (by simp [hy]))
    refine ⟨d :: ds, ⟨by simp [hds.1], fun i y e h1 h2 => ?_⟩, fun e he => ?_⟩
    · cases i with
      | zero => cases h1; cases h2; exact hd
      | succ i => exact hds.2 i y e (by simpa using h1) (by simpa using h2)
    · rcases List.mem_cons.1 he with rfl | he
      · exact hq
      · exact hqs e he
section
variable {H : Type} {enc : TypeId × Value → H} {w : World} {base : Nat} {spare : Nat → Bool} {held : Bool}
theorem zd_read (n : Nat) (cs : List Value) (y : DataW H × List MemPlace) (hl : cs.length = Flat.sz Nm) (h : DataW.trod enc Try.prog w base spare held n 56 cs = some y) (hF : Fit Try.prog 56 y.1) : ∃ x : Nm, cs = Flat.cells x ∧ ∃ d : Zd, ZR w x d ∧ d.2.length * 16 ≤ 140737488355328 := by
  replace hl : cs.length = 2 := hl
  obtain ⟨s, h0, hs⟩ := sub_str Try.underlying56 h (i := 0) rfl (o := 0) rfl (by kernel_rfl) (by omega) Try.underlying9
  obtain ⟨v, m, z, _, h1, ht, hz⟩ := sub_cellW Try.underlying56 hF h (i := 1) rfl (o := 1) rfl (by kernel_rfl) (by omega)
  obtain ⟨A, k, c, xs, rfl, hnil, hsl, hK, hW⟩ := open_itemsW (α := ByteArray) (fun x => x.size ≤ maxLen) Try.underlying54 (by kernel_rfl) hz (fun n' cs' y' _ hl' ht' _ => strK_read n' cs' y' hl' ht') ht
  have hb : Try.prog.bytesOf 9 = 16 := by kernel_rfl
  rw [hb] at hW
  refine ⟨⟨s, A, k, c⟩, ?_, (s, xs), ⟨rfl, hs, hnil, hsl, hK⟩, ?_⟩
  · clear h ht
    match cs, hl with
    | [_, _], _ => cases h0; cases h1; rfl
  · show xs.length * 16 ≤ _
    rw [hsl.len]
    exact Nat.le_trans hW (by decide)
theorem bd_read (n : Nat) (cs : List Value) (y : DataW H × List MemPlace) (hl : cs.length = Flat.sz Nm) (h : DataW.trod enc Try.prog w base spare held n 70 cs = some y) (hF : Fit Try.prog 70 y.1) : ∃ x : Nm, cs = Flat.cells x ∧ ∃ d : Bd, BR w x d ∧ d.2.length * 24 ≤ 140737488355328 := by
  replace hl : cs.length = 2 := hl
  obtain ⟨s, h0, hs⟩ := sub_str Try.underlying70 h (i := 0) rfl (o := 0) rfl (by kernel_rfl) (by omega) Try.underlying9
  obtain ⟨v, m, z, _, h1, ht, hz⟩ := sub_cellW Try.underlying70 hF h (i := 1) rfl (o := 1) rfl (by kernel_rfl) (by omega)
  obtain ⟨A, k, c, xs, rfl, hnil, hsl, _, hW⟩ := open_itemsW (α := Slt) (fun _ => True) Try.underlying68 (by kernel_rfl) hz (fun n' cs' y' _ hl' ht' _ => by obtain ⟨x, hx⟩ := slt_read n' cs' y' hl' ht'; exact ⟨x, hx, trivial⟩) ht
  have hb : Try.prog.bytesOf 84 = 24 := by kernel_rfl
  rw [hb] at hW
  refine ⟨⟨s, A, k, c⟩, ?_, (s, xs), ⟨rfl, hs, hnil, hsl⟩, ?_⟩
  · clear h ht
    match cs, hl with
    | [_, _], _ => cases h0; cases h1; rfl
  · show xs.length * 24 ≤ _
    rw [hsl.len]
    exact Nat.le_trans hW (by decide)
theorem rd_read (n : Nat) (cs : List Value) (y : DataW H × List MemPlace) (hl : cs.length = Flat.sz Rt) (h : DataW.trod enc Try.prog w base spare held n 73 cs = some y) (hF : Fit Try.prog 73 y.1) : ∃ x : Rt, cs = Flat.cells x ∧ ∃ d : Rd, RR w x d ∧ d.steps.length * 24 ≤ 140737488355328 := by
  replace hl : cs.length = 5 := hl
  obtain ⟨i0, h0, _⟩ := sub_int Try.underlying73 h (i := 0) rfl (o := 0) rfl (by kernel_rfl) (by omega) Try.underlying3
  obtain ⟨s1, h1, _⟩ := sub_str Try.underlying73 h (i := 1) rfl (o := 1) rfl (by kernel_rfl) (by omega) Try.underlying9
  obtain ⟨s2, h2, _⟩ := sub_str Try.underlying73 h (i := 2) rfl (o := 2) rfl (by kernel_rfl) (by omega) Try.underlying9
  obtain ⟨i3, h3, _⟩ := sub_int Try.underlying73 h (i := 3) rfl (o := 3) rfl (by kernel_rfl) (by omega) Try.underlying3
  obtain ⟨v, m, z, _, h4, ht, hz⟩ := sub_cellW Try.underlying73 hF h (i := 4) rfl (o := 4) rfl (by kernel_rfl) (by omega)
  obtain ⟨A, k, c, xs, rfl, hnil, hsl, _, hW⟩ := open_itemsW (α := Stp) (fun _ => True) Try.underlying71 (by kernel_rfl) hz (fun n' cs' y' _ hl' ht' _ => by obtain ⟨x, hx⟩ := stp_read n' cs' y' hl' ht'; exact ⟨x, hx, trivial⟩) ht
  have hb : Try.prog.bytesOf 87 = 24 := by kernel_rfl
  rw [hb] at hW
  refine ⟨⟨i0, s1, s2, i3, A, k, c⟩, ?_, ⟨i0, s1, s2, i3, xs⟩, ⟨rfl, rfl, rfl, rfl, hnil, hsl⟩, ?_⟩
  · clear h ht
    match cs, hl with
    | [_, _, _, _, _], _ => cases h0; cases h1; cases h2; cases h3; cases h4; rfl
  · show xs.length * 24 ≤ _
    rw [hsl.len]
    exact Nat.le_trans hW (by decide)
theorem tar_read (n : Nat) (cs : List Value) (y : DataW H × List MemPlace) (hl : cs.length = Flat.sz Tv) (h : DataW.trod enc Try.prog w base spare held n 32 cs = some y) (hF : Fit Try.prog 32 y.1) : ∃ t : Tv, cs = Flat.cells t ∧ ∃ T : Td, TD w t T ∧ Fits T := by
  replace hl : cs.length = 7 := hl
  obtain ⟨s0, h0, hs0⟩ := sub_str Try.underlying32 h (i := 0) rfl (o := 0) rfl (by kernel_rfl) (by omega) Try.underlying9
  obtain ⟨i1, h1, _⟩ := sub_int Try.underlying32 h (i := 1) rfl (o := 1) rfl (by kernel_rfl) (by omega) Try.underlying3
  obtain ⟨b2, h2⟩ := sub_bool Try.underlying32 h (i := 2) rfl (o := 2) rfl (by kernel_rfl) (by omega) Try.underlying4
  obtain ⟨v3, m3, z3, _, h3, t3, f3⟩ := sub_cellW Try.underlying32 hF h (i := 3) rfl (o := 3) rfl (by kernel_rfl) (by omega)
  obtain ⟨v4, m4, z4, _, h4, t4, f4⟩ := sub_cellW Try.underlying32 hF h (i := 4) rfl (o := 4) rfl (by kernel_rfl) (by omega)
  obtain ⟨v5, m5, z5, _, h5, t5, f5⟩ := sub_cellW Try.underlying32 hF h (i := 5) rfl (o := 5) rfl (by kernel_rfl) (by omega)
  obtain ⟨v6, m6, z6, _, h6, t6⟩ := sub_cell Try.underlying32 h (i := 6) rfl (o := 6) rfl (by kernel_rfl) (by omega)
  obtain ⟨Az, nz, cz, zs, rfl, nilz, hz, zk, _⟩ := open_itemsW (α := Nm) (fun x => ∃ d : Zd, ZR w x d ∧ d.2.length * 16 ≤ 140737488355328) Try.underlying27 (by kernel_rfl) f3 (fun n' cs' y' _ hl' ht' hf => zd_read n' cs' y' hl' ht' hf) t3
  obtain ⟨Ab, nb, cb, bs, rfl, nilb, hb, bk, _⟩ := open_itemsW (α := Nm) (fun x => ∃ d : Bd, BR w x d ∧ d.2.length * 24 ≤ 140737488355328) Try.underlying28 (by kernel_rfl) f4 (fun n' cs' y' _ hl' ht' hf => bd_read n' cs' y' hl' ht' hf) t4
  obtain ⟨Ar, nr, cr, rs, rfl, nilr, hr, rk, _⟩ := open_itemsW (α := Rt) (fun x => ∃ d : Rd, RR w x d ∧ d.steps.length * 24 ≤ 140737488355328) Try.underlying29 (by kernel_rfl) f5 (fun n' cs' y' _ hl' ht' hf => rd_read n' cs' y' hl' ht' hf) t5
  obtain ⟨Ad, nd, cd, ds, rfl, nild, hd, dk⟩ := open_items (α := Dq) (fun x => x.name.size ≤ maxLen ∧ ∃ e : Ex, Rp w e x.it) Try.underlying30 (by kernel_rfl) (fun n' cs' y' _ hl' ht' => discK_read n' cs' y' hl' ht') t6
  obtain ⟨Zs, az, qz⟩ := all2_of zs zk
  obtain ⟨Bs, ab, qb⟩ := all2_of bs bk
  obtain ⟨Rs, ar, qr⟩ := all2_of rs rk
  obtain ⟨Ds, ad, _⟩ := all2_of (R := DR w) (Q := fun _ => True) ds (fun x hx => by obtain ⟨h1, e, he⟩ := dk x hx; exact ⟨⟨x.name, e, x.pts⟩, ⟨rfl, h1, rfl, he⟩, trivial⟩)
  refine ⟨⟨s0, i1, b2, Az, nz, cz, Ab, nb, cb, Ar, nr, cr, Ad, nd, cd⟩, ?_, ⟨s0, i1, b2, Zs, Bs, Rs, Ds⟩, ⟨rfl, hs0, rfl, rfl, ⟨nilz, zs, hz, az⟩, ⟨nilb, bs, hb, ab⟩, ⟨nilr, rs, hr, ar⟩, ⟨nild, ds, hd, ad⟩⟩, ⟨qz, qb, qr⟩⟩
  clear h t3 t4 t5 t6
  match cs, hl with
  | [_, _, _, _, _, _, _], _ => cases h0; cases h1; cases h2; cases h3; cases h4; cases h5; cases h6; rfl
theorem open_tars {v : Value} {d : DataW H} {p : List MemPlace} (h : DataW.Trod enc Try.prog w base spare held 22 v d p) (hF : Fit Try.prog 22 d) (hv : v.cells = #[v]) :
    ∃ (A : Option Addr) (n c : Nat) (Ts : List Td), v = .slice A n c ∧ LT w A n c Ts ∧ ∀ T ∈ Ts, Fits T := by
  obtain ⟨fuel, hf⟩ := h
  rw [hv] at hf
  obtain ⟨A, n, c, ts, rfl, hnil, hs, hk, _⟩ := open_itemsW (α := Tv) (fun t => ∃ T : Td, TD w t T ∧ Fits T) Try.underlying22 (by kernel_rfl) hF (fun n' cs' y' _ hl' ht' hf => tar_read n' cs' y' hl' ht' hf) hf
  obtain ⟨Ts, ha, hq⟩ := all2_of ts hk
  exact ⟨A, n, c, Ts, rfl, ⟨hnil, ts, hs, ha⟩, hq⟩
theorem open_tarD {v : Value} {d : DataW H} {p : List MemPlace} {r : Reach} {b0 : Nat} (hv : Value.okWide Try.prog w r b0 32 v) (h : DataW.Trod enc Try.prog w base spare held 32 v d p) (hF : Fit Try.prog 32 d) :
    ∃ (t : Tv) (T : Td), v = t.val ∧ TD w t T ∧ Fits T := by
  obtain ⟨cs, rfl, hsz⟩ := okWide_struct Try.underlying32 hv
  obtain ⟨fuel, hf⟩ := h
  have hf' : DataW.trod enc Try.prog w base spare held fuel 32 cs.toList = some (d, p) := by simpa [Value.cells] using hf
  obtain ⟨t, ht, T, hT, hq⟩ := tar_read fuel cs.toList (d, p) (by rw [Array.length_toList, hsz]; kernel_rfl) hf' hF
  refine ⟨t, T, congrArg Value.agg (Array.toList_inj.1 ?_), hT, hq⟩
  rw [ht]
  rfl
end
end Cv
end Go.Proofs.Ytdnnnajohdohaaa
