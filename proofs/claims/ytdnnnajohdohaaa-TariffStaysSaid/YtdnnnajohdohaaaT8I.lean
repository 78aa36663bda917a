/-
  Tariffs: copied lists; Tariffs: a copy of an expression. No condition.
-/
import Derived.Test.YtdnnnajohdohaaaT8J
import Derived.Test.YtdnnnajohdohaaaExY
import Derived.BigQuiet
import Derived.StillTailTactics
import Derived.Lib.Overlaps
import Derived.Deep.DeepCutAuto
import Derived.Deep.RegionWith
import Derived.Laws.RangeAny
set_option maxRecDepth 100000
set_option linter.unusedVariables false
set_option linter.unusedSimpArgs false
namespace Go.Proofs.Ytdnnnajohdohaaa
open Go.RowKit

namespace Cv
open Xp Ck
theorem info_str : (Try.prog.info? 9).map (fun i => (i.zero, i.size, i.bytes)) = some (some (.string ⟨#[]⟩), 1, 16) := by kernel_rfl
theorem info_slot : (Try.prog.info? 84).map (fun i => (i.zero, i.size, i.bytes)) = some (some (.agg #[.int .i64 0, .int .i64 0, .int .i64 0]), 3, 24) := by kernel_rfl
theorem info_step : (Try.prog.info? 87).map (fun i => (i.zero, i.size, i.bytes)) = some (some (.agg #[.int .i64 0, .int .i64 0, .int .i64 0]), 3, 24) := by kernel_rfl
theorem copied_str (A : Option Addr) (n c : Nat) (xs : List ByteArray) (w : World) (h : Sl w A n c xs) (hA : A = none → c = 0) (hn : n * 16 ≤ 140737488355328) :
    Calls Try.prog 46 #[.slice A n c] w fun e w' => (∃ A' c', e = .returned (.slice A' n c') ∧ (A' = none → c' = 0) ∧ OkA (fun b => w.heap.size ≤ b) A' n ∧ Sl w' A' n c' xs) ∧ Below w.heap.size w w' := by
  have H := Lib.hid h
  have HA := Lib.hid hA
  have hlen := h.len
  have HL := Lib.hid hlen
  clear h hA hlen
  go_enter Try.func46, Try.ntmps46
  go_wp2_with (at_builtin; go_must (
    refine wpl_appendB _ rfl (.const (.slice none 0 0)) (.tmp 3) 54 rfl w.heap.size 9 _ 16 Try.underlying54 info_str rfl (.slice none 0 0) [] rfl (Ow.nil_ _ _ _) A n c xs rfl HA.out H.out (by simpa using hn) (by have := H.out.max; simpa using this) (Nat.le_refl _) ?_
    intro v1 w1 hown1 hu1
    have hb1 := (Below.refl w.heap.size w).grown hu1.grew (Nat.le_refl _) (fun j hj => by cases hj)
    clear hu1))
  go_ret
  obtain ⟨A', c', rfl, hnil, hs⟩ := hown1.slN
  have hok := hown1.okA
  rw [List.nil_append] at hs hok
  rw [HL.out] at hs hok
  exact ⟨⟨A', c', by rw [List.nil_append, HL.out]; rfl, hnil, hok, hs⟩, hb1⟩
theorem copied_slot (A : Option Addr) (n c : Nat) (xs : List Slt) (w : World) (h : Sl w A n c xs) (hA : A = none → c = 0) (hn : n * 24 ≤ 140737488355328) :
    Calls Try.prog 47 #[.slice A n c] w fun e w' => (∃ A' c', e = .returned (.slice A' n c') ∧ (A' = none → c' = 0) ∧ OkA (fun b => w.heap.size ≤ b) A' n ∧ Sl w' A' n c' xs) ∧ Below w.heap.size w w' := by
  have H := Lib.hid h
  have HA := Lib.hid hA
  have hlen := h.len
  have HL := Lib.hid hlen
  clear h hA hlen
  go_enter Try.func47, Try.ntmps47
  go_wp2_with (at_builtin; go_must (
    refine wpl_appendB _ rfl (.const (.slice none 0 0)) (.tmp 3) 68 rfl w.heap.size 84 _ 24 Try.underlying68 info_slot rfl (.slice none 0 0) [] rfl (Ow.nil_ _ _ _) A n c xs rfl HA.out H.out (by simpa using hn) (by have := H.out.max; simpa using this) (Nat.le_refl _) ?_
    intro v1 w1 hown1 hu1
    have hb1 := (Below.refl w.heap.size w).grown hu1.grew (Nat.le_refl _) (fun j hj => by cases hj)
    clear hu1))
  go_ret
  obtain ⟨A', c', rfl, hnil, hs⟩ := hown1.slN
  have hok := hown1.okA
  rw [List.nil_append] at hs hok
  rw [HL.out] at hs hok
  exact ⟨⟨A', c', by rw [List.nil_append, HL.out]; rfl, hnil, hok, hs⟩, hb1⟩
theorem copied_step (A : Option Addr) (n c : Nat) (xs : List Stp) (w : World) (h : Sl w A n c xs) (hA : A = none → c = 0) (hn : n * 24 ≤ 140737488355328) :
    Calls Try.prog 48 #[.slice A n c] w fun e w' => (∃ A' c', e = .returned (.slice A' n c') ∧ (A' = none → c' = 0) ∧ OkA (fun b => w.heap.size ≤ b) A' n ∧ Sl w' A' n c' xs) ∧ Below w.heap.size w w' := by
  have H := Lib.hid h
  have HA := Lib.hid hA
  have hlen := h.len
  have HL := Lib.hid hlen
  clear h hA hlen
  go_enter Try.func48, Try.ntmps48
  go_wp2_with (at_builtin; go_must (
    refine wpl_appendB _ rfl (.const (.slice none 0 0)) (.tmp 3) 71 rfl w.heap.size 87 _ 24 Try.underlying71 info_step rfl (.slice none 0 0) [] rfl (Ow.nil_ _ _ _) A n c xs rfl HA.out H.out (by simpa using hn) (by have := H.out.max; simpa using this) (Nat.le_refl _) ?_
    intro v1 w1 hown1 hu1
    have hb1 := (Below.refl w.heap.size w).grown hu1.grew (Nat.le_refl _) (fun j hj => by cases hj)
    clear hu1))
  go_ret
  obtain ⟨A', c', rfl, hnil, hs⟩ := hown1.slN
  have hok := hown1.okA
  rw [List.nil_append] at hs hok
  rw [HL.out] at hs hok
  exact ⟨⟨A', c', by rw [List.nil_append, HL.out]; rfl, hnil, hok, hs⟩, hb1⟩
end Cv
namespace Cv
open Xp Ck
theorem info_exp : (Try.prog.info? 60).map (fun i => (i.zero, i.size, i.bytes)) = some (some (.agg #[.int .i64 0, .int .i64 0, .string ⟨#[]⟩, .slice none 0 0]), 4, 56) := by kernel_rfl
theorem alloc_size (W : World) (o : Obj) : (W.alloc o).heap.size = W.heap.size + 1 := by simp
set_option maxHeartbeats 8000000 in
theorem cexpr_from {w : World} {e : Ex} {x : It} (h : Rp w e x) : X8 e → ∀ w', Below w.heap.size w w' → Calls Try.prog 49 #[x.val] w' fun r w'' => (∃ y : It, r = .returned y.val ∧ RpP w'' (fun b => w'.heap.size ≤ b) e y) ∧ Below w'.heap.size w' w'' := by
  induction h with
  | mk op num text args A n c items hsl hl hnil hc ih =>
    intro hX w' hb
    have IH := Lib.hid ih
    have HS := Lib.hid hsl
    have HL := Lib.hid hl
    have HX := Lib.hid hX.inv.2
    have hn8 : n ≤ 8 := by have := hX.inv.1; have := hsl.len; omega
    have hlen := hsl.len
    clear ih hsl hl hnil hc hX
    unfold It.val
    go_enter Try.func49, Try.ntmps49
    go_upto_region 1 with (fail)
    (obtain ⟨W, hWW, hbW, hzW, f1W, f2W, qfa, qfb⟩ := box2 w' #[.int .i64 op, .int .i64 num, .string text, .slice A n c] 60 #[.int .i64 0, .int .i64 0, .string ⟨#[]⟩, .slice none 0 0] 60; rw [← hWW]; have qa0 : W.cell? ⟨w'.heap.size, 0, none⟩ = some (.int .i64 op) := f1W 0 _ rfl; have qa1 : W.cell? ⟨w'.heap.size, 1, none⟩ = some (.int .i64 num) := f1W 1 _ rfl; have qa2 : W.cell? ⟨w'.heap.size, 2, none⟩ = some (.string text) := f1W 2 _ rfl; have qa3 : W.cell? ⟨w'.heap.size, 3, none⟩ = some (.slice A n c) := f1W 3 _ rfl; have qb0 : W.cell? ⟨w'.heap.size + 1, 0, none⟩ = some (.int .i64 0) := f2W 0 _ rfl; have qb1 : W.cell? ⟨w'.heap.size + 1, 1, none⟩ = some (.int .i64 0) := f2W 1 _ rfl; have qb2 : W.cell? ⟨w'.heap.size + 1, 2, none⟩ = some (.string ⟨#[]⟩) := f2W 2 _ rfl; have qb3 : W.cell? ⟨w'.heap.size + 1, 3, none⟩ = some (.slice none 0 0) := f2W 3 _ rfl; clear hWW f1W f2W)
    go_wp2_with fail
    go_loopw [3, 9] (fun s i wr => ∃ (k : Nat) (ys : List It), k ≤ n ∧ i = .int .i64 k ∧ Ow wr W.heap.size 60 s ys ∧ Rowed (fun w p (y : It) (a : Ex) => RpP w p a y) W.heap.size wr s ys (args.take k) ∧ Below W.heap.size W wr) (fun _ i _ => n - (intOf i).toNat)
    case atStart => exact ⟨0, [], Nat.zero_le _, rfl, Ow.nil_ _ _ _, Rowed.nil_, Below.refl _ _⟩
    case round =>
      obtain ⟨k, ys, hk, rfl, how, hall, hbr⟩ := hrel
      have HO := Lib.hid how
      have HY := Lib.hid hall
      have hyl : ys.length ≤ 8 := by have := hall.1; rw [List.length_take] at this; omega
      clear how hall
      have hbA := hb.trans ((hbW.trans (hbr.mono hbW.size)).mono hb.size)
      have hzr := hbr.size
      by_cases hlt : k < n
      · obtain ⟨y, hy⟩ := HS.out.get hlt
        obtain ⟨e, he⟩ : ∃ e, args[k]? = some e := ⟨args[k]'(by have := HL.out; omega), List.getElem?_eq_getElem _⟩
        obtain ⟨b, off, rfl, hbw, hcells⟩ := HS.out.baseIn hbA (by omega)
        have c0 : wr.cell? ⟨b, off + k * 4, none⟩ = some (.int .i64 y.op) := Sl.at_ hcells hy 0 rfl
        have c1 : wr.cell? ⟨b, off + k * 4 + 1, none⟩ = some (.int .i64 y.num) := Sl.at_ hcells hy 1 rfl
        have c2 : wr.cell? ⟨b, off + k * 4 + 2, none⟩ = some (.string y.text) := Sl.at_ hcells hy 2 rfl
        have c3 : wr.cell? ⟨b, off + k * 4 + 3, none⟩ = some (.slice y.A y.n y.c) := Sl.at_ hcells hy 3 rfl
        have HE := Lib.hid he
        have HC := Lib.hid (fun w2 (h2 : Below w.heap.size w w2) => IH.out k y e hy he (HX.out e (List.mem_of_getElem? he)) w2 h2)
        clear hcells hy he
        go_upto_region 5 with (fail)
        (obtain ⟨V, hWV, hbV, hzV, f1V, mfa⟩ := box1 wr #[.int .i64 y.op, .int .i64 y.num, .string y.text, .slice y.A y.n y.c] 60; rw [← hWV]; have ma0 : V.cell? ⟨wr.heap.size, 0, none⟩ = some (.int .i64 y.op) := f1V 0 _ rfl; have ma1 : V.cell? ⟨wr.heap.size, 1, none⟩ = some (.int .i64 y.num) := f1V 1 _ rfl; have ma2 : V.cell? ⟨wr.heap.size, 2, none⟩ = some (.string y.text) := f1V 2 _ rfl; have ma3 : V.cell? ⟨wr.heap.size, 3, none⟩ = some (.slice y.A y.n y.c) := f1V 3 _ rfl; clear hWV f1V)
        have HOV := Lib.hid (HO.out.below hbV)
        have HYV := Lib.hid (HY.out.below famX hbV)
        have hbRV := hbr.trans (hbV.mono hbr.size)
        have hcall := HC.out V (hbA.trans (hbV.mono hbA.size))
        have hzV2 := hbV.size
        clear HC HO HY c0 c1 c2 c3 hbr hbV hbA
        unfold It.val at hcall
        have HCALL := Lib.hid hcall
        clear hcall
        go_wp2_with fail
        refine HCALL.out.mono ?_
        rintro r w2 ⟨⟨y2, rfl, hy2⟩, hb2⟩
        have HO2 := Lib.hid (HOV.out.below hb2)
        have HY2 := Lib.hid (HYV.out.below famX hb2)
        have hbR2 := hbRV.trans (hb2.mono hbRV.size)
        have hvl := HOV.out.lt
        have hz2 := hb2.size
        have HSN := Lib.hid (Rowed.snoc famX HY2.out (B := V.heap.size) (by omega) (fun g hg => (hvl g hg).2) hy2)
        have hg2 : W.heap.size ≤ w2.heap.size := by omega
        clear hy2 HOV HYV hbRV hb2 HY2 hvl
        go_wp2_with (at_builtin; go_must (
          refine wpl_append1 _ rfl (.tmp 13) (.tmp 16) 58 rfl W.heap.size 60 _ 56 Try.underlying58 info_exp rfl _ ys rfl (HO2.out.alloc _) _ y2 rfl (fun j u hu => cells_new _ _ _ _ _ (by simp) u hu) (by omega) (by omega) (by rw [alloc_size]; omega) ?_
          intro v3 w3 hown3 hu3
          have hbv3 := hu3.belowBase (HO2.out.alloc _) (hbR2.alloc hg2 _) (by rw [alloc_size]; omega)
          have HO3 := Lib.hid hown3
          have HU3 := Lib.hid ((HSN.out.below famX ((Below.refl w2.heap.size w2).alloc (Nat.le_refl _) _)).upd famX hu3)
          clear hu3 hown3))
        go_roundw
        case rel => exact ⟨k + 1, ys ++ [y2], by omega, by go_num, HO3.out, by rw [List.take_add_one, HE.out]; exact HU3.out, hbv3⟩
        case measure => simp [intOf]; omega
      · obtain rfl : k = n := by omega
        have hkn : ¬ ((k : Int) < (k : Int)) := by omega
        obtain ⟨A3, n3, c3, rfl, hn3, hnil3, hok3, xs3, hs3, ha3⟩ := LSP.ofRow famX HO.out HY.out
        have harg : args.take k = args := List.take_of_length_le (by have := HL.out; omega)
        rw [harg] at ha3
        have HS3 := Lib.hid hs3
        have HA3 := Lib.hid ha3
        have HOK3 := Lib.hid hok3
        have HN3 := Lib.hid (show xs3.length = args.length from ha3.1)
        clear hn3 harg hs3 ha3 hok3 HO HY
        (have eqa0 := (hbr.cell (p := ⟨_, _, none⟩) (by (try dsimp only) <;> omega)).trans qa0; have eqa1 := (hbr.cell (p := ⟨_, _, none⟩) (by (try dsimp only) <;> omega)).trans qa1; have eqa2 := (hbr.cell (p := ⟨_, _, none⟩) (by (try dsimp only) <;> omega)).trans qa2; have eqa3 := (hbr.cell (p := ⟨_, _, none⟩) (by (try dsimp only) <;> omega)).trans qa3; have eqb0 := (hbr.cell (p := ⟨_, _, none⟩) (by (try dsimp only) <;> omega)).trans qb0; have eqb1 := (hbr.cell (p := ⟨_, _, none⟩) (by (try dsimp only) <;> omega)).trans qb1; have eqb2 := (hbr.cell (p := ⟨_, _, none⟩) (by (try dsimp only) <;> omega)).trans qb2; have eqb3 := (hbr.cell (p := ⟨_, _, none⟩) (by (try dsimp only) <;> omega)).trans qb3)
        have fa := fun j => (hbr.frozen (p := ⟨w'.heap.size, j, none⟩) (by (try dsimp only) <;> omega)).trans (qfa j)
        have fb := fun j => (hbr.frozen (p := ⟨w'.heap.size + 1, j, none⟩) (by (try dsimp only) <;> omega)).trans (qfb j)
        have hbe := hbW.trans (hbr.mono hbW.size)
        clear hbr qa0 qa1 qa2 qa3 qb0 qb1 qb2 qb3 qfa qfb
        go_upto_region 8 with (fail)
        (obtain ⟨U, hSU, hnU, hfarU, hfrU, hblU, hszU⟩ := set1 (w'.heap.size) 3 (u := .slice A3 n3 c3) eqa3; rw [← hSU]; have hkU : ∀ p : Nat → Prop, (∀ b, p b → b ≠ w'.heap.size) → Keeps p wr U := fun p hp => (by rw [hSU]; exact Keeps.ofSet hp); clear hSU; replace eqa3 := hnU; clear hnU; replace eqa0 := (hfarU _ _ (by omega)).trans eqa0; replace eqa1 := (hfarU _ _ (by omega)).trans eqa1; replace eqa2 := (hfarU _ _ (by omega)).trans eqa2; replace eqb0 := (hfarU _ _ (by omega)).trans eqb0; replace eqb1 := (hfarU _ _ (by omega)).trans eqb1; replace eqb2 := (hfarU _ _ (by omega)).trans eqb2; replace eqb3 := (hfarU _ _ (by omega)).trans eqb3; replace fa := fun j => (hfrU _ j).trans (fa j); replace fb := fun j => (hfrU _ j).trans (fb j); replace hbe := Below.trans hbe (hblU _ (by omega)); clear hfarU hfrU hblU)
        go_wp2_with fail
        have hold : ∀ j u, [Value.int .i64 0, .int .i64 0, .string ⟨#[]⟩, .slice none 0 0][j]? = some u → U.cell? ⟨w'.heap.size + 1, 0 + j, none⟩ = some u := fun j u hu => by
          match j, hu with
          | 0, hu => cases hu; exact eqb0
          | 1, hu => cases hu; exact eqb1
          | 2, hu => cases hu; exact eqb2
          | 3, hu => cases hu; exact eqb3
        refine bodyPost_ret (results_cells rfl _ _ (w'.heap.size + 1) #[.int .i64 op, .int .i64 num, .string text, .slice A3 n3 c3] _ rfl (fun j v hv => by have := setRun_at [.int .i64 op, .int .i64 num, .string text, .slice A3 n3 c3] U (w'.heap.size + 1) 0 _ hold (Nat.le_refl _) j v hv; rw [Nat.zero_add] at this; exact this) rfl rfl rfl) rfl ?_
        refine ⟨⟨⟨op, num, text, A3, n3, c3⟩, rfl, ?_⟩, setRun_below [.int .i64 op, .int .i64 num, .string text, .slice A3 n3 c3] (w'.heap.size + 1) 0 hbe (by omega)⟩
        have hk1 : Keeps (fun b => W.heap.size ≤ b) wr (setRun U (w'.heap.size + 1) 0 [.int .i64 op, .int .i64 num, .string text, .slice A3 n3 c3]) := (hkU _ fun b hb => by omega).trans (setRun_keeps _ _ _ fun b hb => by omega)
        exact .mk op num text args A3 n3 c3 xs3 (HS3.out.keepP HOK3.out hk1) (HOK3.out.mono fun b hb => by omega) HN3.out hnil3 (fun i x e hx he => famX.mono (famX.keep (HA3.out.2 i x e hx he) hk1) fun b hb => by omega)
theorem cexpr_any {w : World} {e : Ex} {x : It} (h : Rp w e x) (hX : X8 e) : Calls Try.prog 49 #[x.val] w fun r w' => (∃ y : It, r = .returned y.val ∧ RpP w' (fun b => w.heap.size ≤ b) e y) ∧ Below w.heap.size w w' := cexpr_from h hX w (Below.refl _ _)
end Cv
end Go.Proofs.Ytdnnnajohdohaaa
