/-
  Expressions: the reference's at, Expr. No condition.
-/
import Derived.Test.YtdnnnajohdohaaaExE
import Derived.BigQuiet
import Derived.StillTailTactics
import Derived.Lib.Overlaps
import Derived.Deep.DeepCutAuto
import Derived.LoopN
set_option maxRecDepth 100000
set_option linter.unusedVariables false
set_option linter.unusedSimpArgs false
namespace Go.Proofs.Ytdnnnajohdohaaa
open Go.RowKit

namespace Xp

theorem info_int : (Try.prog.info? 3).map (fun i => (i.zero, i.size, i.bytes)) = some (some (.int .i64 0), 1, 8) := by kernel_rfl
theorem comb_of (op s t : Int) : comb op s t = if (comb op s t).1 = 0 then (0, 7) else ((comb op s t).1, 0) := by
  rcases comb_res op s t with ⟨h1, h2⟩ | h
  · rw [if_neg (by omega)]; exact Prod.ext rfl h1
  · rw [h, if_pos rfl]
theorem own_err {d : Nat} {op num : Int} {text : ByteArray} {args : List Ex} (h : ownE op num text args.length ≠ 0) : srt (d + 1) (.mk op num text args) = (0, ownE op num text args.length) := by
  rw [srt.eq_2]
  by_cases ha : arity op = (args.length : Int)
  · rw [if_neg (by simpa using ha)]
    rcases sort_shape ha with ⟨rfl, rfl | rfl | rfl⟩ | ⟨a, rfl, rfl⟩ | ⟨a, b, rfl, h5, h15⟩
    · unfold ownE at *
      rw [if_neg (by simpa using ha)] at *
      by_cases hn : num < 0 ∨ 1099511627776 < num
      · rw [if_pos ⟨rfl, hn⟩]
        simp only [List.map_nil, nodeS, leaf]
        rw [if_pos trivial, if_neg (by omega)]
      · simp [hn] at h
    · unfold ownE at *
      rw [if_neg (by simpa using ha)] at *
      by_cases hn : 200 < text.size
      · simp [nodeS, leaf, hn]
      · simp [hn] at h
    · unfold ownE at *
      rw [if_neg (by simpa using ha)] at *
      by_cases hn : attrSort text = 0
      · simp [nodeS, leaf, hn]
      · simp [hn] at h
    · exfalso
      unfold ownE at h
      rw [if_neg (by simpa using ha)] at h
      simp at h
    · exfalso
      unfold ownE at h
      rw [if_neg (by simpa using ha), if_neg (by omega), if_neg (by omega), if_neg (by omega)] at h
      exact h rfl
  · rw [if_pos (by simpa using ha)]
    unfold ownE
    rw [if_pos (by simpa using ha)]
theorem own_arity {op num : Int} {text : ByteArray} {n : Nat} (h : ownE op num text n = 0) : arity op = (n : Int) := by
  by_cases ha : arity op = (n : Int)
  · exact ha
  · unfold ownE at h
    rw [if_pos (by simpa using ha)] at h
    exact absurd h (by decide)
theorem own_leaf {d : Nat} {op num : Int} {text : ByteArray} (hop : op = 1 ∨ op = 2 ∨ op = 3) (h : ownE op num text 0 = 0) : srt (d + 1) (.mk op num text []) = (if op = 3 then attrSort text else op, 0) := by
  rw [srt_leaf hop]
  unfold ownE at h
  rcases hop with rfl | rfl | rfl
  · by_cases hn : num < 0 ∨ 1099511627776 < num
    · simp [arity, hn] at h
    · simp only [leaf]
      rw [if_pos trivial, if_pos (by omega)]; rfl
  · by_cases hn : 200 < text.size
    · simp [arity, hn] at h
    · simp [leaf, hn]
  · by_cases hn : attrSort text = 0
    · simp [arity, hn] at h
    · simp [leaf, hn]

set_option maxHeartbeats 8000000 in
theorem at_any : ∀ (d : Nat) (e : Ex) (x : It) (lv : Int) (w : World), Rp w e x → lv = 17 - (d : Int) → d ≤ 16 →
    Calls Try.prog 80 #[x.val, .int .i64 lv] w fun r w' => r = .returned (pairV (srt d e)) ∧ Below w.heap.size w w' := by
  intro d
  induction d with
  | zero =>
    intro e x lv w h hl hd
    obtain rfl : lv = 17 := by omega
    obtain ⟨op, num, text, A, n, c⟩ := x
    have HE := Lib.hid (show srt 0 e = (0, 24) by rfl)
    clear hl
    unfold It.val
    go_enter Try.func80, Try.ntmps80
    go_wp2_with fail
    go_ret2
    exact ⟨by rw [HE.out]; rfl, by (repeat (first | exact Below.refl _ _ | exact Below.refl _ _ | (refine Below.alloc ?_ (by (try simp) <;> omega) _) | (refine Below.setCell ?_ (by (try simp) <;> omega) _) | refine Below.drew ?_ | refine below_drewN ?_ _))⟩
  | succ d ih =>
    intro e x lv w h hl hd
    obtain ⟨op, num, text, args, A, n, c, items, rfl, rfl, hsl, hil, hnil, hch⟩ := h.inv
    have hn : n = args.length := by rw [← hsl.len, hil]
    have hlv1 : 1 ≤ lv := by omega
    have hlv2 : lv ≤ 16 := by omega
    have IH := Lib.hid ih
    have HL := Lib.hid hl
    have HR := Lib.hid h
    clear ih hl h hsl hil hch hnil
    unfold It.val
    by_cases hown0 : ownE op num text args.length = 0
    · have HO : Hid (ownE op num text n = 0) := by rw [hn]; exact Lib.hid hown0
      have har := own_arity hown0
      rcases sort_shape har with ⟨rfl, hop⟩ | ⟨a, rfl, rfl⟩ | ⟨a, b, rfl, h5, h15⟩
      · have HE := Lib.hid (own_leaf (d := d) hop hown0)
        have hn0 : n = 0 := hn
        subst hn0
        clear har hn
        rcases hop with rfl | rfl | rfl
        · go_enter Try.func80, Try.ntmps80
          go_upto_region 1 with (fail)
          (obtain ⟨W, hWW, hbW, hzW, f1W, qfa⟩ := box1 w #[.int .i64 1, .int .i64 num, .string text, .slice A 0 c] 60; rw [← hWW]; have qa0 : W.cell? ⟨w.heap.size, 0, none⟩ = some (.int .i64 1) := f1W 0 _ rfl; have qa1 : W.cell? ⟨w.heap.size, 1, none⟩ = some (.int .i64 num) := f1W 1 _ rfl; have qa2 : W.cell? ⟨w.heap.size, 2, none⟩ = some (.string text) := f1W 2 _ rfl; have qa3 : W.cell? ⟨w.heap.size, 3, none⟩ = some (.slice A 0 c) := f1W 3 _ rfl; clear hWW f1W)
          go_wp2_with fail
          refine (own_any ⟨1, num, text, A, 0, c⟩ _).mono ?_
          rw [HO.out]
          rintro r w1 ⟨rfl, hb1⟩
          (have hzhb1 := hb1.size; replace qa0 := (hb1.cell (p := ⟨_, _, none⟩) (by (try dsimp only) <;> omega)).trans qa0; replace qa1 := (hb1.cell (p := ⟨_, _, none⟩) (by (try dsimp only) <;> omega)).trans qa1; replace qa2 := (hb1.cell (p := ⟨_, _, none⟩) (by (try dsimp only) <;> omega)).trans qa2; replace qa3 := (hb1.cell (p := ⟨_, _, none⟩) (by (try dsimp only) <;> omega)).trans qa3; replace hbW := Below.trans hbW (Below.mono hb1 (by omega)))
          go_wp2_with fail
          refine wp_loop_rounds 1 ?_
          rw [rounds_succ]
          go_wp2_with fail
          refine (result_leaf 1 ⟨1, num, text, A, 0, c⟩ rfl none 0 0 _ (by decide)).mono ?_
          rw [if_neg (by decide)]
          rintro r w9 ⟨rfl, hb9⟩
          have hzz := hbW.size
          go_wp2_with fail
          go_ret2
          exact ⟨congrArg Ending.returned (by rw [HE.out]; rfl), hbW.trans (hb9.mono hzz)⟩
        · go_enter Try.func80, Try.ntmps80
          go_upto_region 1 with (fail)
          (obtain ⟨W, hWW, hbW, hzW, f1W, qfa⟩ := box1 w #[.int .i64 2, .int .i64 num, .string text, .slice A 0 c] 60; rw [← hWW]; have qa0 : W.cell? ⟨w.heap.size, 0, none⟩ = some (.int .i64 2) := f1W 0 _ rfl; have qa1 : W.cell? ⟨w.heap.size, 1, none⟩ = some (.int .i64 num) := f1W 1 _ rfl; have qa2 : W.cell? ⟨w.heap.size, 2, none⟩ = some (.string text) := f1W 2 _ rfl; have qa3 : W.cell? ⟨w.heap.size, 3, none⟩ = some (.slice A 0 c) := f1W 3 _ rfl; clear hWW f1W)
          go_wp2_with fail
          refine (own_any ⟨2, num, text, A, 0, c⟩ _).mono ?_
          rw [HO.out]
          rintro r w1 ⟨rfl, hb1⟩
          (have hzhb1 := hb1.size; replace qa0 := (hb1.cell (p := ⟨_, _, none⟩) (by (try dsimp only) <;> omega)).trans qa0; replace qa1 := (hb1.cell (p := ⟨_, _, none⟩) (by (try dsimp only) <;> omega)).trans qa1; replace qa2 := (hb1.cell (p := ⟨_, _, none⟩) (by (try dsimp only) <;> omega)).trans qa2; replace qa3 := (hb1.cell (p := ⟨_, _, none⟩) (by (try dsimp only) <;> omega)).trans qa3; replace hbW := Below.trans hbW (Below.mono hb1 (by omega)))
          go_wp2_with fail
          refine wp_loop_rounds 1 ?_
          rw [rounds_succ]
          go_wp2_with fail
          refine (result_leaf 2 ⟨2, num, text, A, 0, c⟩ rfl none 0 0 _ (by decide)).mono ?_
          rw [if_neg (by decide)]
          rintro r w9 ⟨rfl, hb9⟩
          have hzz := hbW.size
          go_wp2_with fail
          go_ret2
          exact ⟨congrArg Ending.returned (by rw [HE.out]; rfl), hbW.trans (hb9.mono hzz)⟩
        · go_enter Try.func80, Try.ntmps80
          go_upto_region 1 with (fail)
          (obtain ⟨W, hWW, hbW, hzW, f1W, qfa⟩ := box1 w #[.int .i64 3, .int .i64 num, .string text, .slice A 0 c] 60; rw [← hWW]; have qa0 : W.cell? ⟨w.heap.size, 0, none⟩ = some (.int .i64 3) := f1W 0 _ rfl; have qa1 : W.cell? ⟨w.heap.size, 1, none⟩ = some (.int .i64 num) := f1W 1 _ rfl; have qa2 : W.cell? ⟨w.heap.size, 2, none⟩ = some (.string text) := f1W 2 _ rfl; have qa3 : W.cell? ⟨w.heap.size, 3, none⟩ = some (.slice A 0 c) := f1W 3 _ rfl; clear hWW f1W)
          go_wp2_with fail
          refine (own_any ⟨3, num, text, A, 0, c⟩ _).mono ?_
          rw [HO.out]
          rintro r w1 ⟨rfl, hb1⟩
          (have hzhb1 := hb1.size; replace qa0 := (hb1.cell (p := ⟨_, _, none⟩) (by (try dsimp only) <;> omega)).trans qa0; replace qa1 := (hb1.cell (p := ⟨_, _, none⟩) (by (try dsimp only) <;> omega)).trans qa1; replace qa2 := (hb1.cell (p := ⟨_, _, none⟩) (by (try dsimp only) <;> omega)).trans qa2; replace qa3 := (hb1.cell (p := ⟨_, _, none⟩) (by (try dsimp only) <;> omega)).trans qa3; replace hbW := Below.trans hbW (Below.mono hb1 (by omega)))
          go_wp2_with fail
          refine wp_loop_rounds 1 ?_
          rw [rounds_succ]
          go_wp2_with fail
          refine (result_leaf 3 ⟨3, num, text, A, 0, c⟩ rfl none 0 0 _ (by decide)).mono ?_
          rw [if_pos rfl]
          have HAT := Lib.hid HE.out
          have hat : (attrSort text == 0) = false := by
            rw [beq_eq_false_iff_ne]
            intro h0
            have := HO.out
            unfold ownE at this
            simp [arity, h0] at this
          rintro r w9 ⟨rfl, hb9⟩
          have hzz := hbW.size
          go_wp2_with fail
          go_ret2
          exact ⟨congrArg Ending.returned (by rw [HE.out]; rfl), hbW.trans (hb9.mono hzz)⟩
      · clear hown0
        have HE := Lib.hid (srt_not (d := d) (num := num) (text := text) (a := a))
        obtain ⟨b0, off, ya, hA0, hb0, hn0, hRa, -⟩ := HR.out.arg0
        dsimp only at hA0 hn0
        subst hA0
        have hn2 : n = 1 := hn0
        subst hn2
        clear har hn hn0 hRa
        go_enter Try.func80, Try.ntmps80
        go_upto_region 1 with (fail)
        (obtain ⟨W, hWW, hbW, hzW, f1W, qfa⟩ := box1 w #[.int .i64 4, .int .i64 num, .string text, .slice (some ⟨b0, off, none⟩) 1 c] 60; rw [← hWW]; have qa0 : W.cell? ⟨w.heap.size, 0, none⟩ = some (.int .i64 4) := f1W 0 _ rfl; have qa1 : W.cell? ⟨w.heap.size, 1, none⟩ = some (.int .i64 num) := f1W 1 _ rfl; have qa2 : W.cell? ⟨w.heap.size, 2, none⟩ = some (.string text) := f1W 2 _ rfl; have qa3 : W.cell? ⟨w.heap.size, 3, none⟩ = some (.slice (some ⟨b0, off, none⟩) 1 c) := f1W 3 _ rfl; clear hWW f1W)
        have HRW := Lib.hid (HR.out.on hbW)
        have hbW0 : b0 < W.heap.size := by omega
        obtain ⟨_, _, xa, hAa, -, -, hRa, ka0, ka1, ka2, ka3⟩ := HRW.out.arg0
        dsimp only at hAa
        injection hAa with hAa
        injection hAa with hAa1 hAa2
        subst hAa1 hAa2
        have HRA := Lib.hid hRa
        clear hRa
        go_wp2_with fail
        refine (own_any ⟨4, num, text, some ⟨b0, off, none⟩, 1, c⟩ _).mono ?_
        rw [HO.out]
        rintro r w1 ⟨rfl, hb1⟩
        (have hzhb1 := hb1.size; replace qa0 := (hb1.cell (p := ⟨_, _, none⟩) (by (try dsimp only) <;> omega)).trans qa0; replace qa1 := (hb1.cell (p := ⟨_, _, none⟩) (by (try dsimp only) <;> omega)).trans qa1; replace qa2 := (hb1.cell (p := ⟨_, _, none⟩) (by (try dsimp only) <;> omega)).trans qa2; replace qa3 := (hb1.cell (p := ⟨_, _, none⟩) (by (try dsimp only) <;> omega)).trans qa3; replace ka0 := (hb1.cell (p := ⟨_, _, none⟩) (by (try dsimp only) <;> omega)).trans ka0; replace ka1 := (hb1.cell (p := ⟨_, _, none⟩) (by (try dsimp only) <;> omega)).trans ka1; replace ka2 := (hb1.cell (p := ⟨_, _, none⟩) (by (try dsimp only) <;> omega)).trans ka2; replace ka3 := (hb1.cell (p := ⟨_, _, none⟩) (by (try dsimp only) <;> omega)).trans ka3; replace HRA := Lib.hid (HRA.out.on hb1); replace hbW := Below.trans hbW (Below.mono hb1 (by omega)))
        go_wp2_with fail
        refine wp_loop_rounds 2 ?_
        rw [rounds_succ]
        go_wp2_with fail
        refine (IH.out a xa (lv + 1) _ (HRA.out) (by have := HL.out; omega) (by omega)).mono ?_
        obtain ⟨⟨s1, x1⟩, hhp1⟩ : ∃ p, srt d a = p := ⟨_, rfl⟩
        rw [hhp1]
        rintro e w2 ⟨rfl, hb2⟩
        have hzc2 := hb2.size
        have T2 : Below w1.heap.size w1 w2 := hb2
        have HP1 := Lib.hid hhp1
        clear hhp1
        (have pqa0 := (T2.cell (p := ⟨_, _, none⟩) (by (try dsimp only) <;> omega)).trans qa0; have pqa1 := (T2.cell (p := ⟨_, _, none⟩) (by (try dsimp only) <;> omega)).trans qa1; have pqa2 := (T2.cell (p := ⟨_, _, none⟩) (by (try dsimp only) <;> omega)).trans qa2; have pqa3 := (T2.cell (p := ⟨_, _, none⟩) (by (try dsimp only) <;> omega)).trans qa3)
        unfold pairV
        dsimp only
        rcases (Decidable.em (x1 = 0)).symm with hx1 | hx1
        · have hx1' : (x1 != 0) = true := by simpa using hx1
          have HF := Lib.hid (show srt (d + 1) (.mk 4 num text [a]) = (0, x1) by rw [HE.out]; rw [HP1.out]; unfold un; rw [if_pos hx1])
          clear hx1
          go_wp2_with fail
          go_ret2
          exact ⟨congrArg Ending.returned (by rw [HF.out]; rfl), hbW.trans (T2.mono (by omega))⟩
        subst hx1
        go_wp2_with (at_builtin; refine wpl_append1 _ rfl (.tmp 40) (.tmp 42) 39 rfl w1.heap.size 3 _ 8 Try.underlying39 info_int rfl (.slice none 0 0) ([] : List Int) rfl (Ow.nil_ (α := Int) _ _ 3) _ s1 rfl (fun j u hu => cells_new _ _ _ _ _ (by simp) u hu) (by simp) (by omega) (by (try simp) <;> omega) ?_; intro v3 w3 hown3 hu3; have T3 : Below w1.heap.size w1 w3 := hu3.belowBase (Ow.nil_ (α := Int) _ _ 3) (T2.alloc (by omega) _) (by (try simp) <;> omega); have hzc3 := T3.size; clear hu3)
        (have rqa0 := (T3.cell (p := ⟨_, _, none⟩) (by (try dsimp only) <;> omega)).trans qa0; have rqa1 := (T3.cell (p := ⟨_, _, none⟩) (by (try dsimp only) <;> omega)).trans qa1; have rqa2 := (T3.cell (p := ⟨_, _, none⟩) (by (try dsimp only) <;> omega)).trans qa2; have rqa3 := (T3.cell (p := ⟨_, _, none⟩) (by (try dsimp only) <;> omega)).trans qa3)
        rw [rounds_succ]
        go_wp2_with fail
        obtain ⟨A9, c9, rfl, hs9⟩ := hown3.sl
        have HS9 := Lib.hid hs9
        clear hs9 hown3
        go_wp2_with fail
        refine (result_not ⟨4, num, text, some ⟨b0, off, none⟩, 1, c⟩ rfl A9 c9 s1 _ HS9.out).mono ?_
        obtain ⟨R, hR⟩ : ∃ R, (comb 4 s1 0).1 = R := ⟨_, rfl⟩
        rw [hR]
        rintro r w9 ⟨rfl, hb9⟩
        have hbT := hbW.trans (T3.mono (by omega))
        have hzz := hbT.size
        have HCR := Lib.hid (comb_of 4 s1 0)
        rw [hR] at HCR
        clear hR
        by_cases hR0 : R = 0
        · subst hR0
          have HF := Lib.hid (show srt (d + 1) (.mk 4 num text [a]) = (0, 7) by rw [HE.out, HP1.out, show un 4 (s1, 0) = comb 4 s1 0 from rfl, HCR.out, if_pos rfl])
          go_wp2_with fail
          go_ret2
          exact ⟨congrArg Ending.returned (by rw [HF.out]; rfl), hbT.trans (hb9.mono hzz)⟩
        · have hR1 : (R == 0) = false := by simpa using hR0
          have HF := Lib.hid (show srt (d + 1) (.mk 4 num text [a]) = (R, 0) by rw [HE.out, HP1.out, show un 4 (s1, 0) = comb 4 s1 0 from rfl, HCR.out, if_neg hR0])
          clear hR0
          go_wp2_with fail
          go_ret2
          exact ⟨congrArg Ending.returned (by rw [HF.out]; rfl), hbT.trans (hb9.mono hzz)⟩
      · clear hown0
        have HE := Lib.hid (srt_bin (d := d) (num := num) (text := text) (a := a) (b := b) ⟨h5, h15⟩)
        obtain ⟨b0, off, ya, hA0, hb0, hn0, hRa, -⟩ := HR.out.arg0
        dsimp only at hA0 hn0
        subst hA0
        have hn2 : n = 2 := hn0
        subst hn2
        clear har hn hn0 hRa
        go_enter Try.func80, Try.ntmps80
        go_upto_region 1 with (fail)
        (obtain ⟨W, hWW, hbW, hzW, f1W, qfa⟩ := box1 w #[.int .i64 op, .int .i64 num, .string text, .slice (some ⟨b0, off, none⟩) 2 c] 60; rw [← hWW]; have qa0 : W.cell? ⟨w.heap.size, 0, none⟩ = some (.int .i64 op) := f1W 0 _ rfl; have qa1 : W.cell? ⟨w.heap.size, 1, none⟩ = some (.int .i64 num) := f1W 1 _ rfl; have qa2 : W.cell? ⟨w.heap.size, 2, none⟩ = some (.string text) := f1W 2 _ rfl; have qa3 : W.cell? ⟨w.heap.size, 3, none⟩ = some (.slice (some ⟨b0, off, none⟩) 2 c) := f1W 3 _ rfl; clear hWW f1W)
        have HRW := Lib.hid (HR.out.on hbW)
        have hbW0 : b0 < W.heap.size := by omega
        obtain ⟨_, _, xa, hAa, -, -, hRa, ka0, ka1, ka2, ka3⟩ := HRW.out.arg0
        dsimp only at hAa
        injection hAa with hAa
        injection hAa with hAa1 hAa2
        subst hAa1 hAa2
        obtain ⟨xb, hRb, kb0, kb1, kb2, kb3⟩ := HRW.out.arg1 rfl
        have HRA := Lib.hid hRa
        have HRB := Lib.hid hRb
        clear hRa hRb
        go_wp2_with fail
        refine (own_any ⟨op, num, text, some ⟨b0, off, none⟩, 2, c⟩ _).mono ?_
        rw [HO.out]
        rintro r w1 ⟨rfl, hb1⟩
        (have hzhb1 := hb1.size; replace qa0 := (hb1.cell (p := ⟨_, _, none⟩) (by (try dsimp only) <;> omega)).trans qa0; replace qa1 := (hb1.cell (p := ⟨_, _, none⟩) (by (try dsimp only) <;> omega)).trans qa1; replace qa2 := (hb1.cell (p := ⟨_, _, none⟩) (by (try dsimp only) <;> omega)).trans qa2; replace qa3 := (hb1.cell (p := ⟨_, _, none⟩) (by (try dsimp only) <;> omega)).trans qa3; replace ka0 := (hb1.cell (p := ⟨_, _, none⟩) (by (try dsimp only) <;> omega)).trans ka0; replace ka1 := (hb1.cell (p := ⟨_, _, none⟩) (by (try dsimp only) <;> omega)).trans ka1; replace ka2 := (hb1.cell (p := ⟨_, _, none⟩) (by (try dsimp only) <;> omega)).trans ka2; replace ka3 := (hb1.cell (p := ⟨_, _, none⟩) (by (try dsimp only) <;> omega)).trans ka3; replace kb0 := (hb1.cell (p := ⟨_, _, none⟩) (by (try dsimp only) <;> omega)).trans kb0; replace kb1 := (hb1.cell (p := ⟨_, _, none⟩) (by (try dsimp only) <;> omega)).trans kb1; replace kb2 := (hb1.cell (p := ⟨_, _, none⟩) (by (try dsimp only) <;> omega)).trans kb2; replace kb3 := (hb1.cell (p := ⟨_, _, none⟩) (by (try dsimp only) <;> omega)).trans kb3; replace HRA := Lib.hid (HRA.out.on hb1); replace HRB := Lib.hid (HRB.out.on hb1); replace hbW := Below.trans hbW (Below.mono hb1 (by omega)))
        go_wp2_with fail
        refine wp_loop_rounds 3 ?_
        rw [rounds_succ]
        go_wp2_with fail
        refine (IH.out a xa (lv + 1) _ (HRA.out) (by have := HL.out; omega) (by omega)).mono ?_
        obtain ⟨⟨s1, x1⟩, hhp1⟩ : ∃ p, srt d a = p := ⟨_, rfl⟩
        rw [hhp1]
        rintro e w2 ⟨rfl, hb2⟩
        have hzc2 := hb2.size
        have T2 : Below w1.heap.size w1 w2 := hb2
        have HP1 := Lib.hid hhp1
        clear hhp1
        (have pqa0 := (T2.cell (p := ⟨_, _, none⟩) (by (try dsimp only) <;> omega)).trans qa0; have pqa1 := (T2.cell (p := ⟨_, _, none⟩) (by (try dsimp only) <;> omega)).trans qa1; have pqa2 := (T2.cell (p := ⟨_, _, none⟩) (by (try dsimp only) <;> omega)).trans qa2; have pqa3 := (T2.cell (p := ⟨_, _, none⟩) (by (try dsimp only) <;> omega)).trans qa3)
        unfold pairV
        dsimp only
        rcases (Decidable.em (x1 = 0)).symm with hx1 | hx1
        · have hx1' : (x1 != 0) = true := by simpa using hx1
          have HF := Lib.hid (show srt (d + 1) (.mk op num text [a, b]) = (0, x1) by rw [HE.out]; rw [HP1.out]; unfold bin; rw [if_pos hx1])
          clear hx1
          go_wp2_with fail
          go_ret2
          exact ⟨congrArg Ending.returned (by rw [HF.out]; rfl), hbW.trans (T2.mono (by omega))⟩
        subst hx1
        go_wp2_with (at_builtin; refine wpl_append1 _ rfl (.tmp 40) (.tmp 42) 39 rfl w1.heap.size 3 _ 8 Try.underlying39 info_int rfl (.slice none 0 0) ([] : List Int) rfl (Ow.nil_ (α := Int) _ _ 3) _ s1 rfl (fun j u hu => cells_new _ _ _ _ _ (by simp) u hu) (by simp) (by omega) (by (try simp) <;> omega) ?_; intro v3 w3 hown3 hu3; have T3 : Below w1.heap.size w1 w3 := hu3.belowBase (Ow.nil_ (α := Int) _ _ 3) (T2.alloc (by omega) _) (by (try simp) <;> omega); have hzc3 := T3.size; clear hu3)
        (have rqa0 := (T3.cell (p := ⟨_, _, none⟩) (by (try dsimp only) <;> omega)).trans qa0; have rqa1 := (T3.cell (p := ⟨_, _, none⟩) (by (try dsimp only) <;> omega)).trans qa1; have rqa2 := (T3.cell (p := ⟨_, _, none⟩) (by (try dsimp only) <;> omega)).trans qa2; have rqa3 := (T3.cell (p := ⟨_, _, none⟩) (by (try dsimp only) <;> omega)).trans qa3; have rkb0 := (T3.cell (p := ⟨_, _, none⟩) (by (try dsimp only) <;> omega)).trans kb0; have rkb1 := (T3.cell (p := ⟨_, _, none⟩) (by (try dsimp only) <;> omega)).trans kb1; have rkb2 := (T3.cell (p := ⟨_, _, none⟩) (by (try dsimp only) <;> omega)).trans kb2; have rkb3 := (T3.cell (p := ⟨_, _, none⟩) (by (try dsimp only) <;> omega)).trans kb3)
        rw [rounds_succ]
        go_wp2_with fail
        refine (IH.out b xb (lv + 1) _ (HRB.out.on T3) (by have := HL.out; omega) (by omega)).mono ?_
        obtain ⟨⟨s2, x2⟩, hhp2⟩ : ∃ p, srt d b = p := ⟨_, rfl⟩
        rw [hhp2]
        rintro e w4 ⟨rfl, hb4⟩
        have hzc4 := hb4.size
        have T4 : Below w1.heap.size w1 w4 := T3.trans (hb4.mono (by omega))
        have HP2 := Lib.hid hhp2
        clear hhp2
        (have tqa0 := (T4.cell (p := ⟨_, _, none⟩) (by (try dsimp only) <;> omega)).trans qa0; have tqa1 := (T4.cell (p := ⟨_, _, none⟩) (by (try dsimp only) <;> omega)).trans qa1; have tqa2 := (T4.cell (p := ⟨_, _, none⟩) (by (try dsimp only) <;> omega)).trans qa2; have tqa3 := (T4.cell (p := ⟨_, _, none⟩) (by (try dsimp only) <;> omega)).trans qa3)
        unfold pairV
        dsimp only
        rcases (Decidable.em (x2 = 0)).symm with hx2 | hx2
        · have hx2' : (x2 != 0) = true := by simpa using hx2
          have HF := Lib.hid (show srt (d + 1) (.mk op num text [a, b]) = (0, x2) by rw [HE.out]; rw [HP1.out, HP2.out]; unfold bin; rw [if_neg (by simp), if_pos hx2])
          clear hx2
          go_wp2_with fail
          go_ret2
          exact ⟨congrArg Ending.returned (by rw [HF.out]; rfl), hbW.trans (T4.mono (by omega))⟩
        subst hx2
        go_wp2_with (at_builtin; refine wpl_append1 _ rfl (.tmp 40) (.tmp 42) 39 rfl w1.heap.size 3 _ 8 Try.underlying39 info_int rfl v3 ([] ++ [s1] : List Int) rfl ((hown3.below hb4).alloc _) _ s2 rfl (fun j u hu => cells_new _ _ _ _ _ (by simp) u hu) (by simp) (by omega) (by (try simp) <;> omega) ?_; intro v5 w5 hown5 hu5; have T5 : Below w1.heap.size w1 w5 := hu5.belowBase ((hown3.below hb4).alloc _) (T4.alloc (by omega) _) (by (try simp) <;> omega); have hzc5 := T5.size; clear hu5)
        (have zqa0 := (T5.cell (p := ⟨_, _, none⟩) (by (try dsimp only) <;> omega)).trans qa0; have zqa1 := (T5.cell (p := ⟨_, _, none⟩) (by (try dsimp only) <;> omega)).trans qa1; have zqa2 := (T5.cell (p := ⟨_, _, none⟩) (by (try dsimp only) <;> omega)).trans qa2; have zqa3 := (T5.cell (p := ⟨_, _, none⟩) (by (try dsimp only) <;> omega)).trans qa3)
        rw [rounds_succ]
        go_wp2_with fail
        obtain ⟨A9, c9, rfl, hs9⟩ := hown5.sl
        have HS9 := Lib.hid hs9
        clear hs9 hown5
        go_wp2_with fail
        refine (result_bin op ⟨op, num, text, some ⟨b0, off, none⟩, 2, c⟩ rfl A9 c9 s1 s2 _ HS9.out ⟨h5, h15⟩).mono ?_
        obtain ⟨R, hR⟩ : ∃ R, (comb op s1 s2).1 = R := ⟨_, rfl⟩
        rw [hR]
        rintro r w9 ⟨rfl, hb9⟩
        have hbT := hbW.trans (T5.mono (by omega))
        have hzz := hbT.size
        have HCR := Lib.hid (comb_of op s1 s2)
        rw [hR] at HCR
        clear hR
        by_cases hR0 : R = 0
        · subst hR0
          have HF := Lib.hid (show srt (d + 1) (.mk op num text [a, b]) = (0, 7) by rw [HE.out, HP1.out, HP2.out, show bin op (s1, 0) (s2, 0) = comb op s1 s2 from rfl, HCR.out, if_pos rfl])
          go_wp2_with fail
          go_ret2
          exact ⟨congrArg Ending.returned (by rw [HF.out]; rfl), hbT.trans (hb9.mono hzz)⟩
        · have hR1 : (R == 0) = false := by simpa using hR0
          have HF := Lib.hid (show srt (d + 1) (.mk op num text [a, b]) = (R, 0) by rw [HE.out, HP1.out, HP2.out, show bin op (s1, 0) (s2, 0) = comb op s1 s2 from rfl, HCR.out, if_neg hR0])
          clear hR0
          go_wp2_with fail
          go_ret2
          exact ⟨congrArg Ending.returned (by rw [HF.out]; rfl), hbT.trans (hb9.mono hzz)⟩
    · have HE := Lib.hid (own_err (d := d) hown0)
      obtain ⟨f, hf⟩ : ∃ f, ownE op num text args.length = f := ⟨_, rfl⟩
      rw [hf] at HE hown0
      have HO : Hid (ownE op num text n = f) := by rw [hn]; exact Lib.hid hf
      have hf1 : (f != 0) = true := by simpa using hown0
      clear hf hn hown0
      go_enter Try.func80, Try.ntmps80
      go_upto_region 1 with (fail)
      (obtain ⟨W, hWW, hbW, hzW, f1W, qfa⟩ := box1 w #[.int .i64 op, .int .i64 num, .string text, .slice A n c] 60; rw [← hWW]; have qa0 : W.cell? ⟨w.heap.size, 0, none⟩ = some (.int .i64 op) := f1W 0 _ rfl; have qa1 : W.cell? ⟨w.heap.size, 1, none⟩ = some (.int .i64 num) := f1W 1 _ rfl; have qa2 : W.cell? ⟨w.heap.size, 2, none⟩ = some (.string text) := f1W 2 _ rfl; have qa3 : W.cell? ⟨w.heap.size, 3, none⟩ = some (.slice A n c) := f1W 3 _ rfl; clear hWW f1W)
      go_wp2_with fail
      refine (own_any ⟨op, num, text, A, n, c⟩ _).mono ?_
      rw [HO.out]
      rintro r w1 ⟨rfl, hb1⟩
      (have hzhb1 := hb1.size; replace qa0 := (hb1.cell (p := ⟨_, _, none⟩) (by (try dsimp only) <;> omega)).trans qa0; replace qa1 := (hb1.cell (p := ⟨_, _, none⟩) (by (try dsimp only) <;> omega)).trans qa1; replace qa2 := (hb1.cell (p := ⟨_, _, none⟩) (by (try dsimp only) <;> omega)).trans qa2; replace qa3 := (hb1.cell (p := ⟨_, _, none⟩) (by (try dsimp only) <;> omega)).trans qa3; replace hbW := Below.trans hbW (Below.mono hb1 (by omega)))
      go_wp2_with fail
      go_ret2
      exact ⟨congrArg Ending.returned (by rw [HE.out]; rfl), hbW⟩

theorem refexpr_any (e : Ex) (x : It) (w : World) (h : Rp w e x) :
    Calls Try.prog 70 #[x.val] w fun r w' => r = .returned (pairV (srt 16 e)) ∧ Below w.heap.size w w' := by
  obtain ⟨op, num, text, A, n, c⟩ := x
  have HR := Lib.hid h
  clear h
  unfold It.val
  go_enter Try.func70, Try.ntmps70
  go_upto_region 1 with (fail)
  (obtain ⟨W, hWW, hbW, hzW, f1W, qfa⟩ := box1 w #[.int .i64 op, .int .i64 num, .string text, .slice A n c] 60; rw [← hWW]; have qa0 : W.cell? ⟨w.heap.size, 0, none⟩ = some (.int .i64 op) := f1W 0 _ rfl; have qa1 : W.cell? ⟨w.heap.size, 1, none⟩ = some (.int .i64 num) := f1W 1 _ rfl; have qa2 : W.cell? ⟨w.heap.size, 2, none⟩ = some (.string text) := f1W 2 _ rfl; have qa3 : W.cell? ⟨w.heap.size, 3, none⟩ = some (.slice A n c) := f1W 3 _ rfl; clear hWW f1W)
  go_wp2_with fail
  refine (at_any 16 e _ 1 _ (HR.out.on hbW) (by decide) (by decide)).mono ?_
  unfold pairV
  rintro r w1 ⟨rfl, hb1⟩
  have hbb := hbW.trans (hb1.mono (by omega))
  go_wp2_with fail
  go_ret2
  exact ⟨rfl, hbb⟩

end Xp
end Go.Proofs.Ytdnnnajohdohaaa
