/-
  Discounts: arguments opened. No condition.
-/
import Derived.Test.YtdjlfdbdhacmjaaLawN
import Derived.Test.YtdjlfdbdhacmjaaLawE
import Derived.Test.YtdjlfdbdhacmjaaDcI
set_option maxRecDepth 100000
set_option linter.unusedVariables false
set_option linter.unusedSimpArgs false
namespace Go.Proofs.Ytdjlfdbdhacmjaa
open Go.ChangeShapes Go.WideShapes Go.ChangeAt Go.RowKit
namespace Dc
open Xp
def dealV (u : Env) (g : Int) : Value := .agg #[.int .i64 u.kind, .int .i64 u.units, .int .i64 u.weekday, .int .i64 u.minute, .int .i64 u.total, .int .i64 u.spent, .string u.zone, .string u.band, .bool u.family, .int .i64 g]
theorem lst12 {cs : List Value} {a0 a1 a2 a3 a4 a5 a6 a7 a8 a9 a10 a11 : Value} (hl : cs.length = 12) (h0 : cs[0]? = some a0) (h1 : cs[1]? = some a1) (h2 : cs[2]? = some a2) (h3 : cs[3]? = some a3) (h4 : cs[4]? = some a4) (h5 : cs[5]? = some a5) (h6 : cs[6]? = some a6) (h7 : cs[7]? = some a7) (h8 : cs[8]? = some a8) (h9 : cs[9]? = some a9) (h10 : cs[10]? = some a10) (h11 : cs[11]? = some a11) : cs = [a0, a1, a2, a3, a4, a5, a6, a7, a8, a9, a10, a11] := by
  match cs, hl with
  | [_, _, _, _, _, _, _, _, _, _, _, _], _ => cases h0; cases h1; cases h2; cases h3; cases h4; cases h5; cases h6; cases h7; cases h8; cases h9; cases h10; cases h11; rfl
theorem lst9 {cs : List Value} {a0 a1 a2 a3 a4 a5 a6 a7 a8 : Value} (hl : cs.length = 9) (h0 : cs[0]? = some a0) (h1 : cs[1]? = some a1) (h2 : cs[2]? = some a2) (h3 : cs[3]? = some a3) (h4 : cs[4]? = some a4) (h5 : cs[5]? = some a5) (h6 : cs[6]? = some a6) (h7 : cs[7]? = some a7) (h8 : cs[8]? = some a8) : cs = [a0, a1, a2, a3, a4, a5, a6, a7, a8] := by
  match cs, hl with
  | [_, _, _, _, _, _, _, _, _], _ => cases h0; cases h1; cases h2; cases h3; cases h4; cases h5; cases h6; cases h7; cases h8; rfl
theorem lst5 {cs : List Value} {a0 a1 a2 a3 a4 : Value} (hl : cs.length = 5) (h0 : cs[0]? = some a0) (h1 : cs[1]? = some a1) (h2 : cs[2]? = some a2) (h3 : cs[3]? = some a3) (h4 : cs[4]? = some a4) : cs = [a0, a1, a2, a3, a4] := by
  match cs, hl with
  | [_, _, _, _, _], _ => cases h0; cases h1; cases h2; cases h3; cases h4; rfl
section
variable {H : Type} {enc : TypeId × Value → H} {w : World} {base : Nat} {spare : Nat → Bool} {held : Bool}
theorem us_read {n : Nat} {cs : List Value} {y : DataW H × List MemPlace} (hl : cs.length = 12) (h : DataW.trod enc Try.prog w base spare held n 23 cs = some y) : ∃ u : Us, cs = [.int .i64 u.id, .int .i64 u.kind, .int .i64 u.account, .int .i64 u.sub, .string u.a, .string u.b, .int .i64 u.start, .int .i64 u.units, .int .i64 u.trunk, .bool u.inbound, .int .i64 u.source, .int .i64 u.serial] := by
  obtain ⟨i0, h0, _⟩ := sub_int Try.underlying23 h (i := 0) rfl (o := 0) rfl (by kernel_rfl) (by omega) Try.underlying3
  obtain ⟨i1, h1, _⟩ := sub_int Try.underlying23 h (i := 1) rfl (o := 1) rfl (by kernel_rfl) (by omega) Try.underlying3
  obtain ⟨i2, h2, _⟩ := sub_int Try.underlying23 h (i := 2) rfl (o := 2) rfl (by kernel_rfl) (by omega) Try.underlying3
  obtain ⟨i3, h3, _⟩ := sub_int Try.underlying23 h (i := 3) rfl (o := 3) rfl (by kernel_rfl) (by omega) Try.underlying3
  obtain ⟨s4, h4, _⟩ := sub_str Try.underlying23 h (i := 4) rfl (o := 4) rfl (by kernel_rfl) (by omega) Try.underlying9
  obtain ⟨s5, h5, _⟩ := sub_str Try.underlying23 h (i := 5) rfl (o := 5) rfl (by kernel_rfl) (by omega) Try.underlying9
  obtain ⟨i6, h6, _⟩ := sub_int Try.underlying23 h (i := 6) rfl (o := 6) rfl (by kernel_rfl) (by omega) Try.underlying3
  obtain ⟨i7, h7, _⟩ := sub_int Try.underlying23 h (i := 7) rfl (o := 7) rfl (by kernel_rfl) (by omega) Try.underlying3
  obtain ⟨i8, h8, _⟩ := sub_int Try.underlying23 h (i := 8) rfl (o := 8) rfl (by kernel_rfl) (by omega) Try.underlying3
  obtain ⟨b9, h9⟩ := sub_bool Try.underlying23 h (i := 9) rfl (o := 9) rfl (by kernel_rfl) (by omega) Try.underlying4
  obtain ⟨i10, h10, _⟩ := sub_int Try.underlying23 h (i := 10) rfl (o := 10) rfl (by kernel_rfl) (by omega) Try.underlying3
  obtain ⟨i11, h11, _⟩ := sub_int Try.underlying23 h (i := 11) rfl (o := 11) rfl (by kernel_rfl) (by omega) Try.underlying3
  exact ⟨⟨i0, i1, i2, i3, s4, s5, i6, i7, i8, b9, i10, i11⟩, lst12 hl h0 h1 h2 h3 h4 h5 h6 h7 h8 h9 h10 h11⟩
theorem ct_read {n : Nat} {cs : List Value} {y : DataW H × List MemPlace} (hl : cs.length = 5) (h : DataW.trod enc Try.prog w base spare held n 25 cs = some y) : ∃ u : Ct, cs = [.int .i64 u.sub, .int .i64 u.kind, .int .i64 u.frm, .int .i64 u.units, .int .i64 u.spent] := by
  obtain ⟨i0, h0, _⟩ := sub_int Try.underlying25 h (i := 0) rfl (o := 0) rfl (by kernel_rfl) (by omega) Try.underlying3
  obtain ⟨i1, h1, _⟩ := sub_int Try.underlying25 h (i := 1) rfl (o := 1) rfl (by kernel_rfl) (by omega) Try.underlying3
  obtain ⟨i2, h2, _⟩ := sub_int Try.underlying25 h (i := 2) rfl (o := 2) rfl (by kernel_rfl) (by omega) Try.underlying3
  obtain ⟨i3, h3, _⟩ := sub_int Try.underlying25 h (i := 3) rfl (o := 3) rfl (by kernel_rfl) (by omega) Try.underlying3
  obtain ⟨i4, h4, _⟩ := sub_int Try.underlying25 h (i := 4) rfl (o := 4) rfl (by kernel_rfl) (by omega) Try.underlying3
  exact ⟨⟨i0, i1, i2, i3, i4⟩, lst5 hl h0 h1 h2 h3 h4⟩
theorem env_read {n : Nat} {cs : List Value} {y : DataW H × List MemPlace} (hl : cs.length = 9) (h : DataW.trod enc Try.prog w base spare held n 29 cs = some y) : ∃ u : Env, cs = [.int .i64 u.kind, .int .i64 u.units, .int .i64 u.weekday, .int .i64 u.minute, .int .i64 u.total, .int .i64 u.spent, .string u.zone, .string u.band, .bool u.family] := by
  obtain ⟨i0, h0, _⟩ := sub_int Try.underlying29 h (i := 0) rfl (o := 0) rfl (by kernel_rfl) (by omega) Try.underlying3
  obtain ⟨i1, h1, _⟩ := sub_int Try.underlying29 h (i := 1) rfl (o := 1) rfl (by kernel_rfl) (by omega) Try.underlying3
  obtain ⟨i2, h2, _⟩ := sub_int Try.underlying29 h (i := 2) rfl (o := 2) rfl (by kernel_rfl) (by omega) Try.underlying3
  obtain ⟨i3, h3, _⟩ := sub_int Try.underlying29 h (i := 3) rfl (o := 3) rfl (by kernel_rfl) (by omega) Try.underlying3
  obtain ⟨i4, h4, _⟩ := sub_int Try.underlying29 h (i := 4) rfl (o := 4) rfl (by kernel_rfl) (by omega) Try.underlying3
  obtain ⟨i5, h5, _⟩ := sub_int Try.underlying29 h (i := 5) rfl (o := 5) rfl (by kernel_rfl) (by omega) Try.underlying3
  obtain ⟨s6, h6, _⟩ := sub_str Try.underlying29 h (i := 6) rfl (o := 6) rfl (by kernel_rfl) (by omega) Try.underlying9
  obtain ⟨s7, h7, _⟩ := sub_str Try.underlying29 h (i := 7) rfl (o := 7) rfl (by kernel_rfl) (by omega) Try.underlying9
  obtain ⟨b8, h8⟩ := sub_bool Try.underlying29 h (i := 8) rfl (o := 8) rfl (by kernel_rfl) (by omega) Try.underlying4
  exact ⟨⟨i0, i1, i2, i3, i4, i5, s6, s7, b8⟩, lst9 hl h0 h1 h2 h3 h4 h5 h6 h7 h8⟩
theorem open_us {v : Value} {d : DataW H} {p : List MemPlace} {r : Reach} {b0 : Nat} (hv : Value.okWide Try.prog w r b0 23 v) (h : DataW.Trod enc Try.prog w base spare held 23 v d p) : ∃ u : Us, v = u.val := by
  obtain ⟨cs, rfl, hsz⟩ := okWide_struct Try.underlying23 hv
  obtain ⟨fuel, hf⟩ := h
  have hf' : DataW.trod enc Try.prog w base spare held fuel 23 cs.toList = some (d, p) := by simpa [Value.cells] using hf
  have hl : cs.toList.length = 12 := by rw [Array.length_toList, hsz]; kernel_rfl
  obtain ⟨u, hu⟩ := us_read hl hf'
  exact ⟨u, congrArg Value.agg (Array.toList_inj.1 hu)⟩
theorem open_env {v : Value} {d : DataW H} {p : List MemPlace} {r : Reach} {b0 : Nat} (hv : Value.okWide Try.prog w r b0 29 v) (h : DataW.Trod enc Try.prog w base spare held 29 v d p) : ∃ u : Env, v = u.val := by
  obtain ⟨cs, rfl, hsz⟩ := okWide_struct Try.underlying29 hv
  obtain ⟨fuel, hf⟩ := h
  have hf' : DataW.trod enc Try.prog w base spare held fuel 29 cs.toList = some (d, p) := by simpa [Value.cells] using hf
  have hl : cs.toList.length = 9 := by rw [Array.length_toList, hsz]; kernel_rfl
  obtain ⟨u, hu⟩ := env_read hl hf'
  exact ⟨u, congrArg Value.agg (Array.toList_inj.1 hu)⟩
theorem open_case {v : Value} {d : DataW H} {p : List MemPlace} {r : Reach} {b0 : Nat} (hv : Value.okWide Try.prog w r b0 27 v) (h : DataW.Trod enc Try.prog w base spare held 27 v d p) : ∃ (z b : ByteArray) (c : Ct) (f : Bool), v = caseV z b c f := by
  obtain ⟨cs, rfl, hsz⟩ := okWide_struct Try.underlying27 hv
  obtain ⟨fuel, hf⟩ := h
  have hf' : DataW.trod enc Try.prog w base spare held fuel 27 cs.toList = some (d, p) := by simpa [Value.cells] using hf
  have hl : cs.toList.length = 8 := by rw [Array.length_toList, hsz]; kernel_rfl
  obtain ⟨s0, h0, _⟩ := sub_str Try.underlying27 hf' (i := 0) rfl (o := 0) rfl (by kernel_rfl) (by omega) Try.underlying9
  obtain ⟨s1, h1, _⟩ := sub_str Try.underlying27 hf' (i := 1) rfl (o := 1) rfl (by kernel_rfl) (by omega) Try.underlying9
  obtain ⟨m, z, _, hz⟩ := sub_cells Try.underlying27 hf' (i := 2) rfl
  obtain ⟨b3, h3⟩ := sub_bool Try.underlying27 hf' (i := 3) rfl (o := 7) rfl (by kernel_rfl) (by omega) Try.underlying4
  have hc : Try.prog.cellsOf 25 = 5 := by kernel_rfl
  replace hz : DataW.trod enc Try.prog w base spare held m 25 ((cs.toList.drop 2).take 5) = some z := by rw [← hc]; exact hz
  obtain ⟨u, hu⟩ := ct_read (by simp at hl ⊢; omega) hz
  refine ⟨s0, s1, u, b3, congrArg Value.agg (Array.toList_inj.1 ?_)⟩
  match hcl : cs.toList, hl with
  | [_, _, _, _, _, _, _, _], _ =>
    rw [hcl] at h0 h1 h3 hu
    cases h0
    cases h1
    cases h3
    simp at hu
    obtain ⟨rfl, rfl, rfl, rfl, rfl⟩ := hu
    rfl
theorem open_deal {v : Value} {d : DataW H} {p : List MemPlace} {r : Reach} {b0 : Nat} (hv : Value.okWide Try.prog w r b0 50 v) (h : DataW.Trod enc Try.prog w base spare held 50 v d p) : ∃ (u : Env) (g : Int), v = dealV u g := by
  obtain ⟨cs, rfl, hsz⟩ := okWide_struct Try.underlying50 hv
  obtain ⟨fuel, hf⟩ := h
  have hf' : DataW.trod enc Try.prog w base spare held fuel 50 cs.toList = some (d, p) := by simpa [Value.cells] using hf
  have hl : cs.toList.length = 10 := by rw [Array.length_toList, hsz]; kernel_rfl
  obtain ⟨m, z, _, hz⟩ := sub_cells Try.underlying50 hf' (i := 0) rfl
  obtain ⟨i1, h1, _⟩ := sub_int Try.underlying50 hf' (i := 1) rfl (o := 9) rfl (by kernel_rfl) (by omega) Try.underlying3
  have hc : Try.prog.cellsOf 29 = 9 := by kernel_rfl
  replace hz : DataW.trod enc Try.prog w base spare held m 29 ((cs.toList.drop 0).take 9) = some z := by rw [← hc]; exact hz
  obtain ⟨u, hu⟩ := env_read (by simp at hl ⊢; omega) hz
  refine ⟨u, i1, congrArg Value.agg (Array.toList_inj.1 ?_)⟩
  match hcl : cs.toList, hl with
  | [_, _, _, _, _, _, _, _, _, _], _ =>
    rw [hcl] at h1 hu
    cases h1
    simp at hu
    obtain ⟨rfl, rfl, rfl, rfl, rfl, rfl, rfl, rfl, rfl⟩ := hu
    rfl
theorem dit_read {fuel n : Nat} (hn : n < fuel) {cs : List Value} {y : DataW H × List MemPlace} (hl : cs.length = 6) (h : DataW.trod enc Try.prog w base spare held n 47 cs = some y) : ∃ x : Dit, cs = Flat.cells x ∧ ∃ d : Dsc, x.name = d.name ∧ x.pts = d.pts ∧ Rp w d.e x.it := by
  obtain ⟨s0, h0, _⟩ := sub_str Try.underlying47 h (i := 0) rfl (o := 0) rfl (by kernel_rfl) (by omega) Try.underlying9
  obtain ⟨m, z, hm, hz⟩ := sub_cells Try.underlying47 h (i := 1) rfl
  obtain ⟨i2, h2, _⟩ := sub_int Try.underlying47 h (i := 2) rfl (o := 5) rfl (by kernel_rfl) (by omega) Try.underlying3
  have hc : Try.prog.cellsOf 45 = 4 := by kernel_rfl
  replace hz : DataW.trod enc Try.prog w base spare held m 45 ((cs.drop 1).take 4) = some z := by rw [← hc]; exact hz
  obtain ⟨x, hx, e, he⟩ := ex_read (n + 1) m (by omega) _ _ (by simp; omega) hz
  refine ⟨⟨s0, x, i2⟩, ?_, ⟨s0, e, i2⟩, rfl, rfl, he⟩
  match cs, hl with
  | [_, _, _, _, _, _], _ =>
    cases h0
    cases h2
    obtain ⟨o0, o1, o2, o3, o4, o5⟩ := x
    simp [Flat.cells] at hx
    obtain ⟨rfl, rfl, rfl, rfl⟩ := hx
    rfl
theorem dscs_of {w : World} : ∀ (xs : List Dit), (∀ x ∈ xs, ∃ d : Dsc, x.name = d.name ∧ x.pts = d.pts ∧ Rp w d.e x.it) → ∃ ds : List Dsc, Dl w ds xs
  | [], _ => ⟨[], rfl, fun i x e h => by simp at h⟩
  | x :: xs, h => by
    obtain ⟨e, he⟩ := h x (by simp)
    obtain ⟨ds, hl, hc⟩ := dscs_of xs (fun y hy => h y (by simp [hy]))
    refine ⟨e :: ds, by simp [hl], fun i y a h1 h2 => ?_⟩
    cases i with
    | zero => cases h1; cases h2; exact he
    | succ i => exact hc i y a (by simpa using h1) (by simpa using h2)
theorem open_ds {v : Value} {d : DataW H} {p : List MemPlace} {r : Reach} {b0 : Nat} (hv : Value.okWide Try.prog w r b0 33 v) (h : DataW.Trod enc Try.prog w base spare held 33 v d p) : ∃ (A : Option Addr) (n c : Nat) (items : List Dit) (ds : List Dsc), v = .slice A n c ∧ (A = none → c = 0) ∧ Sl w A n c items ∧ Dl w ds items := by
  obtain ⟨a0, n0, c0, rfl⟩ := okWide_slice Try.underlying33 hv
  obtain ⟨fuel, hf⟩ := h
  obtain ⟨A, k, c, xs, he, hnil, hsl, hK⟩ := open_items (α := Dit) (fun x => ∃ d : Dsc, x.name = d.name ∧ x.pts = d.pts ∧ Rp w d.e x.it) Try.underlying33 (by kernel_rfl) (fun n' cs' y' hn' hl' ht' => dit_read hn' hl' ht') (by simpa [Value.cells] using hf)
  obtain ⟨ds, hds⟩ := dscs_of xs hK
  exact ⟨A, k, c, xs, ds, he, hnil, hsl, hds⟩
end
end Dc
end Go.Proofs.Ytdjlfdbdhacmjaa
