/-
  Checker: the operands of a valid expression. No condition.
-/
import Derived.Test.YtcifbjgomflanaaCkC
import Derived.BigQuiet
import Derived.StillTailTactics
import Derived.Lib.Overlaps
import Derived.Deep.DeepCutAuto
set_option maxRecDepth 100000
set_option linter.unusedVariables false
set_option linter.unusedSimpArgs false
namespace Go.Proofs.Ytcifbjgomflanaa
open Go.RowKit

namespace Ck
open Xp
theorem info_ex : (Try.prog.info? 24).map (fun i => (i.zero, i.size, i.bytes)) = some (some (.agg #[.int .i64 0, .int .i64 0, .string ⟨#[]⟩, .slice none 0 0]), 4, 56) := by kernel_rfl
theorem srt_less (d : Nat) : ∀ (e : Ex), (srt (d + 1) e).2 = 0 → (srt d e).2 = 0 ∨ (srt d e).2 = 24 := by
  induction d with
  | zero => intro e _; exact .inr rfl
  | succ d ih =>
    intro e h
    obtain ⟨op, num, text, args⟩ := e
    rcases arity_args h with ⟨rfl, hop⟩ | ⟨a, rfl, rfl, ha⟩ | ⟨a, b, rfl, h5, h15, ha, hb, hc⟩
    · left; rw [srt_leaf hop] at h ⊢; exact h
    · rw [srt_not]
      rcases ih a (by rw [ha]) with h1 | h1
      · rw [show srt d a = (3, 0) by rw [← srt_succ d a h1, ha]]; left; rfl
      · right; unfold un; rw [if_pos (by omega)]; exact h1
    · rw [srt_bin ⟨h5, h15⟩] at h ⊢
      rcases ih a ha with h1 | h1
      · rcases ih b hb with h2 | h2
        · left; rw [srt_succ d a h1, srt_succ d b h2] at h; exact h
        · right; unfold bin; rw [if_neg (by omega), if_pos (by omega)]; exact h2
      · right; unfold bin; rw [if_pos (by omega)]; exact h1
/-- what stands under not -/
theorem srt_under {e : Ex} {s : Int} (h : srt 16 e = (s, 0)) : (s = 3 ∧ srt 16 (Nn e) = (3, 0)) ∨ (s ≠ 3 ∧ srt 16 (Nn e) = (0, 7)) ∨ srt 16 (Nn e) = (0, 24) := by
  rw [srt_not]
  rcases srt_less 15 e (by rw [h]) with h1 | h1
  · rw [show srt 15 e = (s, 0) by rw [← srt_succ 15 e h1, h]]
    by_cases hs : s = 3
    · subst hs; exact .inl ⟨rfl, rfl⟩
    · refine .inr (.inl ⟨hs, ?_⟩)
      unfold un; rw [if_neg (by simp)]
      unfold comb combOk; rw [if_neg (by simp [hs])]
  · refine .inr (.inr ?_)
    unfold un; rw [if_pos (by omega), h1]
/-- the operands' sorts -/
theorem args_sorts {op num : Int} {text : ByteArray} {args : List Ex} {s : Int} (h : srt 16 (.mk op num text args) = (s, 0)) :
    args.length ≤ 2 ∧ arity op = (args.length : Int) ∧ ∀ a ∈ args, ∃ t, srt 16 a = (t, 0) ∧ ((op ≤ 6 ∧ t = 3) ∨ (6 < op ∧ op < 11) ∨ (11 ≤ op ∧ t = 1)) := by
  have ha : arity op = (args.length : Int) := by
    rw [srt.eq_2] at h
    split at h
    · cases h
    · rename_i hx; exact Classical.not_not.1 hx
  rcases arity_args (show (srt (15 + 1) (.mk op num text args)).2 = 0 by rw [h]) with ⟨rfl, _⟩ | ⟨a, rfl, rfl, h1⟩ | ⟨a, b, rfl, h5, h15, h1, h2, hc⟩
  · exact ⟨by simp, ha, by simp⟩
  · refine ⟨by simp, ha, fun x hx => ?_⟩
    obtain rfl : x = a := by simpa using hx
    exact ⟨3, by rw [srt_mono x (d := 15) (by rw [h1]) (by omega), h1], .inl ⟨by omega, rfl⟩⟩
  · refine ⟨by simp, ha, fun x hx => ?_⟩
    have e1 := srt_mono (k := 16) a h1 (by omega)
    have e2 := srt_mono (k := 16) b h2 (by omega)
    have key : ∀ t1 t2 : Int, combOk op t1 t2 = true → ((op ≤ 6 ∧ t1 = 3 ∧ t2 = 3) ∨ (6 < op ∧ op < 11) ∨ (11 ≤ op ∧ t1 = 1 ∧ t2 = 1)) := by
      intro t1 t2 hk
      unfold combOk at hk
      rw [if_neg (by omega)] at hk
      split at hk
      · simp only [decide_eq_true_eq] at hk; omega
      · split at hk
        · omega
        · simp only [decide_eq_true_eq] at hk; omega
    have hk := key _ _ hc
    simp only [List.mem_cons, List.not_mem_nil, or_false] at hx
    rcases hx with rfl | rfl
    · exact ⟨(srt 15 x).1, by rw [e1, ← h1], by omega⟩
    · exact ⟨(srt 15 x).1, by rw [e2, ← h2], by omega⟩
theorem srt_more {op num : Int} {text : ByteArray} {args : List Ex} (h : arity op = (args.length : Int)) : srt 16 (.mk op num text (args ++ [Lf 1 0 ⟨#[]⟩])) = (0, 7) := by
  rw [srt.eq_2, if_pos]
  rw [h, List.length_append]; simp; omega
theorem rp_snoc {w : World} {op num : Int} {text : ByteArray} {args : List Ex} {A : Option Addr} {n c : Nat} {items : List It} (hs : Sl w A (n + 1) c (items ++ [⟨1, 0, ⟨#[]⟩, none, 0, 0⟩])) (hl : items.length = args.length)
    (hch : ∀ (i : Nat) (x : It) (e : Ex), items[i]? = some x → args[i]? = some e → Rp w e x) : Rp w (.mk op num text (args ++ [Lf 1 0 ⟨#[]⟩])) ⟨op, num, text, A, n + 1, c⟩ := by
  refine .mk _ _ _ _ _ _ _ _ hs (by simp [hl]) (fun hA => ?_) fun i x e hx he => ?_
  · subst hA
    have := hs.none_.1
    omega
  · by_cases hi : i < items.length
    · rw [List.getElem?_append_left hi] at hx
      rw [List.getElem?_append_left (by omega)] at he
      exact hch i x e hx he
    · rw [List.getElem?_append_right (by omega)] at hx
      rw [List.getElem?_append_right (by omega)] at he
      rw [hl] at hx
      cases hk : i - args.length with
      | zero =>
        rw [hk] at hx he
        cases hx; cases he
        exact Rp.leaf _ _ _ _
      | succ k => rw [hk] at hx; simp at hx
set_option maxHeartbeats 8000000 in
theorem CheckerOperands_run (e : Ex) (x : It) (w : World) (h : Rp w e x) : Calls Try.prog 4 #[x.val] w fun r w' => r = .returned (.bool true) ∧ Below w.heap.size w w' := by
  obtain ⟨op, num, text, args, A, n, c, items, rfl, rfl, hsl, hil, hnil, hch⟩ := h.inv
  obtain ⟨⟨s, y⟩, hs⟩ : ∃ p, srt 16 (.mk op num text args) = p := ⟨_, rfl⟩
  have HS := Lib.hid hs
  have HR := Lib.hid h
  have HSL := Lib.hid hsl
  have HIL := Lib.hid hil
  have HNIL := Lib.hid hnil
  have HCH := Lib.hid hch
  have hn := hsl.nmax
  have hlen := hsl.len
  clear h hs hsl hil hnil hch
  unfold It.val
  go_enter Try.func4, Try.ntmps4
  go_upto_region 1 with (fail)
  (obtain ⟨W, hWW, hbW, hzW, f1W, qfa⟩ := box1 w #[.int .i64 op, .int .i64 num, .string text, .slice A n c] 24; rw [← hWW]; have qa0 : W.cell? ⟨w.heap.size, 0, none⟩ = some (.int .i64 op) := f1W 0 _ rfl; have qa1 : W.cell? ⟨w.heap.size, 1, none⟩ = some (.int .i64 num) := f1W 1 _ rfl; have qa2 : W.cell? ⟨w.heap.size, 2, none⟩ = some (.string text) := f1W 2 _ rfl; have qa3 : W.cell? ⟨w.heap.size, 3, none⟩ = some (.slice A n c) := f1W 3 _ rfl; clear hWW f1W)
  have hT := hbW
  have HRW := Lib.hid (HR.out.on hbW)
  have hgW : w.heap.size < W.heap.size := hzW
  go_wp2_with fail
  refine (small_any HRW.out).mono ?_
  rintro r w1 ⟨⟨m, rfl⟩, hb1⟩
  (have hzhb1 := hb1.size; replace qa0 := (hb1.cell (p := ⟨_, _, none⟩) (by (try dsimp only) <;> omega)).trans qa0; replace qa1 := (hb1.cell (p := ⟨_, _, none⟩) (by (try dsimp only) <;> omega)).trans qa1; replace qa2 := (hb1.cell (p := ⟨_, _, none⟩) (by (try dsimp only) <;> omega)).trans qa2; replace qa3 := (hb1.cell (p := ⟨_, _, none⟩) (by (try dsimp only) <;> omega)).trans qa3; replace HRW := Lib.hid (HRW.out.on hb1); replace hT := Below.trans hT (Below.mono hb1 (by omega)))
  have hg1 : w.heap.size < w1.heap.size := by omega
  cases m
  · go_wp2_with fail
    refine (awake_any _).mono ?_
    rintro r w2 ⟨rfl, hb2⟩
    have hbE := hT.trans (hb2.mono (by omega))
    go_wp2_with fail
    go_ret
    exact ⟨rfl, hbE⟩
  go_wp2_with fail
  refine (expr_s _ ⟨op, num, text, A, n, c⟩ _ s y HS.out HRW.out).mono ?_
  rintro r w2 ⟨rfl, hb2⟩
  (have hzhb2 := hb2.size; replace qa0 := (hb2.cell (p := ⟨_, _, none⟩) (by (try dsimp only) <;> omega)).trans qa0; replace qa1 := (hb2.cell (p := ⟨_, _, none⟩) (by (try dsimp only) <;> omega)).trans qa1; replace qa2 := (hb2.cell (p := ⟨_, _, none⟩) (by (try dsimp only) <;> omega)).trans qa2; replace qa3 := (hb2.cell (p := ⟨_, _, none⟩) (by (try dsimp only) <;> omega)).trans qa3; replace HRW := Lib.hid (HRW.out.on hb2); replace hT := Below.trans hT (Below.mono hb2 (by omega)))
  have hg2 : w.heap.size < w2.heap.size := by omega
  by_cases hy : y = 0
  rotate_left
  · have hs0 : s = 0 := by
      have := srt_val (d := 16) (e := .mk op num text args) (by rw [HS.out]; exact hy)
      rw [HS.out] at this; exact this
    subst hs0
    have hy1 : (y != 0) = true := by simpa using hy
    have hy2 : (y == 0) = false := by simpa using hy
    go_wp2_with fail
    refine (awake_any _).mono ?_
    rintro r w3 ⟨rfl, hb3⟩
    have hbE := hT.trans (hb3.mono (by omega))
    go_wp2_with fail
    go_ret
    exact ⟨rfl, hbE⟩
  subst hy
  obtain ⟨hn2, har, hsorts⟩ := args_sorts HS.out
  have HSO := Lib.hid hsorts
  have HAR := Lib.hid har
  have hnl : n = args.length := by rw [← hlen, HIL.out]
  rw [← hnl] at hn2
  have HNL := Lib.hid hnl
  clear hsorts har hnl
  go_wp2_with fail
  go_loopw [5] (fun i wr => ∃ (k : Nat), k ≤ n ∧ i = .int .i64 k ∧ Below w.heap.size w wr ∧ w.heap.size < wr.heap.size ∧ wr.cell? ⟨w.heap.size, 0, none⟩ = some (.int .i64 op) ∧ wr.cell? ⟨w.heap.size, 1, none⟩ = some (.int .i64 num) ∧ wr.cell? ⟨w.heap.size, 2, none⟩ = some (.string text) ∧ wr.cell? ⟨w.heap.size, 3, none⟩ = some (.slice A n c)) (fun i _ => n - (intOf i).toNat)
  case atStart => exact ⟨0, Nat.zero_le _, rfl, hT, hg2, qa0, qa1, qa2, qa3⟩
  case round =>
    clear hT hb1 hb2 qa0 qa1 qa2 qa3 hbW HRW hgW hg1 hg2
    obtain ⟨k, hk, rfl, hbr, hgr, qa0, qa1, qa2, qa3⟩ := hrel
    by_cases hlt : k < n
    · obtain ⟨z, hz⟩ := HSL.out.get hlt
      obtain ⟨a, ha⟩ : ∃ a, args[k]? = some a := ⟨args[k]'(by have := HNL.out; omega), List.getElem?_eq_getElem _⟩
      obtain ⟨b, off, rfl, hbw, hcells⟩ := HSL.out.baseIn hbr (by omega)
      have c0 : wr.cell? ⟨b, off + k * 4, none⟩ = some (.int .i64 z.op) := Sl.at_ hcells hz 0 rfl
      have c1 : wr.cell? ⟨b, off + k * 4 + 1, none⟩ = some (.int .i64 z.num) := Sl.at_ hcells hz 1 rfl
      have c2 : wr.cell? ⟨b, off + k * 4 + 2, none⟩ = some (.string z.text) := Sl.at_ hcells hz 2 rfl
      have c3 : wr.cell? ⟨b, off + k * 4 + 3, none⟩ = some (.slice z.A z.n z.c) := Sl.at_ hcells hz 3 rfl
      have hra := (HCH.out k z a hz ha).on hbr
      have HRA := Lib.hid hra
      obtain ⟨t, ht, hop⟩ := HSO.out a (List.mem_of_getElem? ha)
      have HTT := Lib.hid ht
      clear hcells hz ha hra ht
      go_wp2_with fail
      refine (expr_s a z _ t 0 HTT.out HRA.out).mono ?_
      rintro r w3 ⟨rfl, hb3⟩
      replace hbr := hbr.trans (hb3.mono hbr.size)
      (have hzhb3 := hb3.size; replace qa0 := (hb3.cell (p := ⟨_, _, none⟩) (by (try dsimp only) <;> omega)).trans qa0; replace qa1 := (hb3.cell (p := ⟨_, _, none⟩) (by (try dsimp only) <;> omega)).trans qa1; replace qa2 := (hb3.cell (p := ⟨_, _, none⟩) (by (try dsimp only) <;> omega)).trans qa2; replace qa3 := (hb3.cell (p := ⟨_, _, none⟩) (by (try dsimp only) <;> omega)).trans qa3)
      have hg3 : w.heap.size < w3.heap.size := by omega
      rcases hop with ⟨o1, rfl⟩ | ⟨o1, o2⟩ | ⟨o1, rfl⟩
      · have o2 : ¬ 11 ≤ op := by omega
        go_wp2_with fail
        go_roundw
        case rel => exact ⟨k + 1, by omega, by go_num, hbr, hg3, qa0, qa1, qa2, qa3⟩
        case measure => simp [intOf]; omega
      · have o3 : ¬ 11 ≤ op := by omega
        have o4 : ¬ op ≤ 6 := by omega
        go_wp2_with fail
        go_roundw
        case rel => exact ⟨k + 1, by omega, by go_num, hbr, hg3, qa0, qa1, qa2, qa3⟩
        case measure => simp [intOf]; omega
      · have o2 : ¬ op ≤ 6 := by omega
        go_wp2_with fail
        go_roundw
        case rel => exact ⟨k + 1, by omega, by go_num, hbr, hg3, qa0, qa1, qa2, qa3⟩
        case measure => simp [intOf]; omega
    · have hkn : ¬ ((k : Int) < (n : Int)) := by omega
      have hsw := hbr.size
      go_upto_region 13 with (fail)
      (obtain ⟨V, hWV, hbV, hzV, f1V, mfa⟩ := box1 wr #[.int .i64 op, .int .i64 num, .string text, .slice A n c] 24; rw [← hWV]; have ma0 : V.cell? ⟨wr.heap.size, 0, none⟩ = some (.int .i64 op) := f1V 0 _ rfl; have ma1 : V.cell? ⟨wr.heap.size, 1, none⟩ = some (.int .i64 num) := f1V 1 _ rfl; have ma2 : V.cell? ⟨wr.heap.size, 2, none⟩ = some (.string text) := f1V 2 _ rfl; have ma3 : V.cell? ⟨wr.heap.size, 3, none⟩ = some (.slice A n c) := f1V 3 _ rfl; clear hWV f1V)
      (have hzhbV := hbV.size; replace qa0 := (hbV.cell (p := ⟨_, _, none⟩) (by (try dsimp only) <;> omega)).trans qa0; replace qa1 := (hbV.cell (p := ⟨_, _, none⟩) (by (try dsimp only) <;> omega)).trans qa1; replace qa2 := (hbV.cell (p := ⟨_, _, none⟩) (by (try dsimp only) <;> omega)).trans qa2; replace qa3 := (hbV.cell (p := ⟨_, _, none⟩) (by (try dsimp only) <;> omega)).trans qa3; replace hbr := Below.trans hbr (Below.mono hbV (by omega)))
      have hgV : wr.heap.size < V.heap.size := hzV
      have hgV0 : w.heap.size < V.heap.size := by omega
      have HSLV := Lib.hid (HSL.out.below hbr)
      go_upto_region 14 with (first
        | (at_builtin; (
            refine wpl_appendS _ rfl (.tmp 66) (.tmp 68) 22 rfl V.heap.size 24 _ 56 Try.underlying22 info_ex rfl (.slice (some ⟨V.heap.size, 0, none⟩) 0 0) ([] : List It) rfl (World.ownsRow_lit V #[] 0 (Nat.le_refl _) (Nat.zero_le _) rfl) A n c items rfl HNIL.out (HSLV.out.below ((Below.refl _ _).alloc (Nat.le_refl _) _)) (by simp; omega) (by omega) (by simp) ?_
            intro v1 w1 hown1 hu1
            have hbv1 : Below V.heap.size V w1 := ((Below.refl _ _).alloc (Nat.le_refl _) _).grown hu1.grew (by simp) (by simp [Value.ownBlock])
            have hzv1 := hbv1.size
            rw [List.nil_append] at hown1
            obtain ⟨A1, c1, hv1, _⟩ := hown1.sl
            rw [hlen] at hv1
            subst hv1
            clear hu1))
        | (at_builtin; go_must (
            refine wpl_append1 _ rfl (.tmp 69) (.tmp 71) 22 rfl V.heap.size 24 _ 56 Try.underlying22 info_ex rfl (.slice A1 n c1) items rfl (hown1.alloc _) _ ⟨1, 0, ⟨#[]⟩, none, 0, 0⟩ rfl (fun j u hu => cells_new _ _ _ _ _ (by simp) u hu) (by omega) (by omega) (by rw [alloc_size]; omega) ?_
            intro v2 w2 hown2 hu2
            have hbv2 := hu2.belowBase (hown1.alloc _) (hbv1.alloc hzv1 _) (by rw [alloc_size]; omega)
            obtain ⟨A2, c2, hv2, _⟩ := hown2.sl
            rw [show (items ++ [(⟨1, 0, ⟨#[]⟩, none, 0, 0⟩ : It)]).length = n + 1 by simp [hlen]] at hv2
            subst hv2
            have HOW := Lib.hid hown2
            clear hu2 hown1 hown2 hbv1
            (have hzhbv2 := hbv2.size; replace qa0 := (hbv2.cell (p := ⟨_, _, none⟩) (by (try dsimp only) <;> omega)).trans qa0; replace qa1 := (hbv2.cell (p := ⟨_, _, none⟩) (by (try dsimp only) <;> omega)).trans qa1; replace qa2 := (hbv2.cell (p := ⟨_, _, none⟩) (by (try dsimp only) <;> omega)).trans qa2; replace qa3 := (hbv2.cell (p := ⟨_, _, none⟩) (by (try dsimp only) <;> omega)).trans qa3; replace ma0 := (hbv2.cell (p := ⟨_, _, none⟩) (by (try dsimp only) <;> omega)).trans ma0; replace ma1 := (hbv2.cell (p := ⟨_, _, none⟩) (by (try dsimp only) <;> omega)).trans ma1; replace ma2 := (hbv2.cell (p := ⟨_, _, none⟩) (by (try dsimp only) <;> omega)).trans ma2; replace ma3 := (hbv2.cell (p := ⟨_, _, none⟩) (by (try dsimp only) <;> omega)).trans ma3; replace mfa := fun j => (hbv2.frozen (p := ⟨_, j, none⟩) (by (try dsimp only) <;> omega)).trans (mfa j); replace hbr := Below.trans hbr (Below.mono hbv2 (by omega))))))
      have hne : Value.ownBlock (.slice A2 (n + 1) c2) ≠ some wr.heap.size := fun hh => by
        have := HOW.out.lt _ hh
        omega
      have hown3 := HOW.out.setFar (p := ⟨wr.heap.size, 3, none⟩) hne (.slice A2 (n + 1) c2)
      obtain ⟨W3, hS3, hn3, hfar3, hfr3, hbl3, hsz3⟩ := set1 wr.heap.size 3 (u := .slice A2 (n + 1) c2) ma3
      rw [← hS3] at hown3
      rw [← hS3]
      clear hS3
      replace ma3 := hn3
      have hb3 := hbl3 w.heap.size (by omega)
      replace hbr := hbr.trans hb3
      replace qa0 := (hfar3 _ _ (by omega)).trans qa0
      replace qa1 := (hfar3 _ _ (by omega)).trans qa1
      replace qa2 := (hfar3 _ _ (by omega)).trans qa2
      replace qa3 := (hfar3 _ _ (by omega)).trans qa3
      replace ma0 := (hfar3 _ _ (by omega)).trans ma0
      replace ma1 := (hfar3 _ _ (by omega)).trans ma1
      replace ma2 := (hfar3 _ _ (by omega)).trans ma2
      have HM : Hid (Rp W3 (.mk op num text (args ++ [Lf 1 0 ⟨#[]⟩])) ⟨op, num, text, A2, n + 1, c2⟩) := by
        obtain ⟨A', c', hv, hsl3⟩ := hown3.sl
        rw [List.length_append, hlen] at hv hsl3
        injection hv with e1 e2 e3
        subst e1 e3
        exact Lib.hid (rp_snoc hsl3 HIL.out fun i x e hx he => (HCH.out i x e hx he).on hbr)
      clear hfar3 hfr3 hbl3 hn3 hown3 HOW hb3
      have hgm : wr.heap.size < W3.heap.size := by omega
      have hgm0 : w.heap.size < W3.heap.size := by omega
      go_wp2_with fail
      refine (expr_s _ ⟨op, num, text, A2, n + 1, c2⟩ _ 0 7 (srt_more HAR.out) HM.out).mono ?_
      rintro r w4 ⟨rfl, hb4⟩
      (have hzhb4 := hb4.size; replace qa0 := (hb4.cell (p := ⟨_, _, none⟩) (by (try dsimp only) <;> omega)).trans qa0; replace qa1 := (hb4.cell (p := ⟨_, _, none⟩) (by (try dsimp only) <;> omega)).trans qa1; replace qa2 := (hb4.cell (p := ⟨_, _, none⟩) (by (try dsimp only) <;> omega)).trans qa2; replace qa3 := (hb4.cell (p := ⟨_, _, none⟩) (by (try dsimp only) <;> omega)).trans qa3; replace hbr := Below.trans hbr (Below.mono hb4 (by omega)))
      have hgw : w.heap.size < w4.heap.size := by omega
      have hz4 := hbr.size
      obtain ⟨⟨t, h⟩, ht⟩ : ∃ p, srt 16 (Nn (.mk op num text args)) = p := ⟨_, rfl⟩
      have HTH := Lib.hid ht
      have hund := srt_under HS.out
      rw [ht] at hund
      have HUN := Lib.hid hund
      clear ht hund
      go_wp2_with fail
      refine (expr_s (Nn (.mk op num text args)) ⟨4, 0, ⟨#[]⟩, some ⟨w4.heap.size, 0, none⟩, 1, 1⟩ _ t h HTH.out (one_new w4 4 0 ⟨#[]⟩ 24 _ ⟨op, num, text, A, n, c⟩ (HR.out.on hbr))).mono ?_
      rintro r w5 ⟨rfl, hb5⟩
      replace hbr := hbr.trans (Below.mono (Below.trans ((Below.refl w4.heap.size w4).alloc (Nat.le_refl _) _) (hb5.mono (by rw [alloc_size]; omega))) (by omega))
      have hz5 := hbr.size
      clear hb5 HTH
      rcases HUN.out with ⟨rfl, hh⟩ | ⟨hs3, hh⟩ | hh
      · injection hh with h1 h2
        subst h1 h2
        clear HUN
        go_wp2_with fail
        refine (awake_any _).mono ?_
        rintro r w6 ⟨rfl, hb6⟩
        have hbE := hbr.trans (hb6.mono (by omega))
        go_wp2_with fail
        go_ret
        exact ⟨rfl, hbE⟩
      · injection hh with h1 h2
        subst h1 h2
        clear HUN
        have hs4 : (s != 3) = true := by simpa using hs3
        have hs5 : (s == 3) = false := by simpa using hs3
        go_wp2_with fail
        refine (awake_any _).mono ?_
        rintro r w6 ⟨rfl, hb6⟩
        have hbE := hbr.trans (hb6.mono (by omega))
        go_wp2_with fail
        go_ret
        exact ⟨rfl, hbE⟩
      · injection hh with h1 h2
        subst h1 h2
        clear HUN
        go_wp2_with fail
        refine (awake_any _).mono ?_
        rintro r w6 ⟨rfl, hb6⟩
        have hbE := hbr.trans (hb6.mono (by omega))
        go_wp2_with fail
        go_ret
        exact ⟨rfl, hbE⟩
end Ck
end Go.Proofs.Ytcifbjgomflanaa
