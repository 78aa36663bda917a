/-
  Discounts: law Full. No condition.
-/
import Derived.Test.YtdjlfdbdhacmjaaDcL
import Derived.Test.YtdjlfdbdhacmjaaDcM
import Derived.BigQuiet
import Derived.StillTailTactics
import Derived.Lib.Overlaps
import Derived.Deep.DeepCutAuto
import Derived.Deep.RegionWith
import Derived.Laws.Rows
import Derived.Deep.DeepCutAuto
set_option maxRecDepth 100000
set_option linter.unusedVariables false
set_option linter.unusedSimpArgs false
namespace Go.Proofs.Ytdjlfdbdhacmjaa
open Go.RowKit

namespace Dc
open Xp
theorem pct_all (g : Int) : pct g 10000 = g := by
  unfold pct
  rw [if_neg (by omega)]
  omega
theorem pct_none (g : Int) : pct g 0 = 0 := by
  unfold pct
  rw [Int.mul_zero]
  rfl
theorem pct_zero (p : Int) : pct 0 p = 0 := by
  unfold pct
  rw [Int.zero_mul]
  rfl
theorem topH_never (v : Env) : topH v (Nn alw) = false := by rfl
theorem applyF_zero (v : Env) : ∀ (ds : List Dsc) (out : List Giv), (∀ d ∈ ds, 0 ≤ d.pts ∧ d.pts ≤ 10000) → applyF v out 0 ds = (out, 0, 0)
  | [], out, _ => rfl
  | d :: ds, out, h => by
    have ih := applyF_zero v ds out fun x hx => h x (by simp [hx])
    have hd := h d (by simp)
    rw [applyF]
    split
    · exact ih
    · rw [if_neg (by omega), if_pos (pct_zero _), pct_zero]
      exact ih
theorem applyF_ok (v : Env) : ∀ (ds : List Dsc) (out : List Giv) (g : Int), (∀ d ∈ ds, 0 ≤ d.pts ∧ d.pts ≤ 10000) → (applyF v out g ds).2.2 = 0
  | [], out, g, _ => rfl
  | d :: ds, out, g, h => by
    have ih := fun out g => applyF_ok v ds out g fun x hx => h x (by simp [hx])
    have hd := h d (by simp)
    rw [applyF]
    split
    · exact ih _ _
    · rw [if_neg (by omega)]
      exact ih _ _
theorem append_run {α : Type} [Flat α] {P : Program} (w : World) (t ty : TypeId) (base : Nat) (e : TypeId) (z : Value) (bytes : Nat) (ht : P.underlying t = some (.slice e)) (hi : (P.info? e).map (fun i => (i.zero, i.size, i.bytes)) = some (some z, Flat.sz α, bytes)) (hzs : z.cells.size = Flat.sz α)
    (v : Value) (xs : List α) (hown : Ow w base e v xs)
    (A : Option Addr) (m c : Nat) (ys : List α) (hnil : A = none → c = 0) (hsl : Sl w A m c ys)
    (hlen : xs.length + m ≤ 2000000) (hby : bytes ≤ 4096) (hbase : base ≤ w.heap.size) :
    ∃ v' w', (Builtin.append_ #[t, t] ty #[v, .slice A m c]).run P w = .ok v' w' ∧ Ow w' base e v' (xs ++ ys) ∧ Upd w w' v v' := by
  obtain ⟨i, hi0, hz0, hz1, hz2⟩ := info_parts hi
  cases A with
  | none =>
    obtain ⟨rfl, rfl⟩ := hsl.none_
    obtain rfl := hnil rfl
    exact ⟨v, w, run_append_owned_none (P := P) (w := w) base t ty e i (Flat.sz α) ht hi0 v xs.length _ hown, by simpa using hown, Upd.refl w v⟩
  | some ad =>
    have hm : ys.length = m := hsl.len
    have hbytes : (xs.length + m) * bytes ≤ 140737488355328 := by
      have : (xs.length + m) * bytes ≤ 2000000 * 4096 := Nat.mul_le_mul hlen hby
      omega
    obtain ⟨v', w', hr, h1, h2, _, h4⟩ := run_append_own_at (P := P) w base t ty e i z (Flat.sz α) bytes ht hi0 hz0 hz1 hz2 hzs Flat.pos v xs.length _ hown ad m c (ys.flatMap Flat.cells) (by rw [flat_len, hm]) hsl.cells (flat_one ys)
      (by unfold maxLen; omega) hbytes hbase
    refine ⟨v', w', hr, ?_, h2, ?_⟩
    · unfold Ow
      rw [List.length_append, List.flatMap_append, hm]
      exact h1
    · rcases h4 with h4 | h4
      · exact .inl h4
      · exact .inr ⟨_, h4, Nat.le_refl _⟩
theorem step_append {α : Type} [Flat α] {P : Program} {ops : Array Oper} {o : Oper} {a : Act} {w : World} {K : Act → World → Prop} {Q : Exit → Act → World → Prop} {E : Prop} (hgd : o.guard = none) (s x : Operand) (t : TypeId)
    (ho : o.op = .call { callee := .builtin .append, args := #[s, x], argTypes := #[t, t] })
    (base : Nat) (e : TypeId) (z : Value) (bytes : Nat) (ht : P.underlying t = some (.slice e)) (hi : (P.info? e).map (fun i => (i.zero, i.size, i.bytes)) = some (some z, Flat.sz α, bytes)) (hzs : z.cells.size = Flat.sz α)
    (v : Value) (xs : List α) (hs : a.eval s = v) (hown : Ow w base e v xs)
    (A : Option Addr) (m c : Nat) (ys : List α) (hx : a.eval x = .slice A m c) (hnil : A = none → c = 0) (hsl : Sl w A m c ys)
    (hlen : xs.length + m ≤ 2000000) (hby : bytes ≤ 4096) (hbase : base ≤ w.heap.size)
    (h : ∀ v' w', Ow w' base e v' (xs ++ ys) → Upd w w' v v' → K (a.put o.dst v') w') :
    if Region.wanted o (yielded ops a.tmps) = true then Oper.wp P o a w K Q else E := by
  have hw : Region.wanted o (yielded ops a.tmps) = true := by simp [Region.wanted, hgd]
  rw [if_pos hw]
  obtain ⟨v', w', hr, h1, h2⟩ := append_run w t o.type base e z bytes ht hi hzs v xs hown A m c ys hnil hsl hlen hby hbase
  unfold Oper.wp execOp
  simp only [ho, resolve, invoke, builtin, Sem.run_bind, Sem.run_pure, Result.andThen_ok, List.map_toArray, List.map_cons, List.map_nil, hs, hx, hr]
  exact h v' w' h1 h2
abbrev nFull : ByteArray := ⟨#[102, 117, 108, 108]⟩
abbrev nNever : ByteArray := ⟨#[110, 101, 118, 101, 114]⟩
abbrev nNothing : ByteArray := ⟨#[110, 111, 116, 104, 105, 110, 103]⟩
theorem full_ok (v : Env) (g : Int) (ds : List Dsc) (hg : 0 ≤ g) (hg2 : g ≤ 1125899906842624) (h : ∀ d ∈ ds, 0 ≤ d.pts ∧ d.pts ≤ 10000) : applyE v g (⟨nFull, alw, 10000⟩ :: ds) = (if g = 0 then [] else [⟨nFull, g⟩], 0, 0) := by
  unfold applyE
  rw [if_neg (by omega), applyF, if_neg (by rw [topH_alw]; decide), if_neg (by decide)]
  dsimp only
  rw [pct_all, Int.sub_self, applyF_zero v ds _ h]
  rfl
theorem none_ok (v : Env) (g : Int) (ds : List Dsc) : applyE v g (⟨nNever, Nn alw, 10000⟩ :: ⟨nNothing, alw, 0⟩ :: ds) = applyE v g ds := by
  unfold applyE
  split
  · rfl
  · rw [applyF, if_pos (topH_never v), applyF, if_neg (by rw [topH_alw]; decide), if_neg (by decide)]
    dsimp only
    rw [pct_none, if_pos rfl, Int.sub_zero]
theorem ok_ok (v : Env) (g : Int) (ds : List Dsc) (hg : 0 ≤ g) (hg2 : g ≤ 1125899906842624) (h : ∀ d ∈ ds, 0 ≤ d.pts ∧ d.pts ≤ 10000) : (applyE v g ds).2.2 = 0 := by
  unfold applyE
  rw [if_neg (by omega)]
  exact applyF_ok v ds _ _ h
theorem Dl.cons {w : World} {ds : List Dsc} {items : List Dit} {x : Dit} {d : Dsc} (h : Dl w ds items) (h1 : x.name = d.name) (h2 : x.pts = d.pts) (h3 : Rp w d.e x.it) : Dl w (d :: ds) (x :: items) := by
  refine ⟨by simp [h.1], fun i y b hy hb => ?_⟩
  cases i with
  | zero => cases hy; cases hb; exact ⟨h1, h2, h3⟩
  | succ i => exact h.2 i y b (by simpa using hy) (by simpa using hb)
set_option maxHeartbeats 8000000 in
theorem law_full (v : Env) (g : Int) (ds : List Dsc) (A : Option Addr) (n c : Nat) (items : List Dit) (w : World) (hnil : A = none → c = 0) (h : Sl w A n c items) (hd : Dl w ds items) :
    Calls Try.prog 6 #[.slice A n c, v.val, .int .i64 g] w fun r w' => r = .returned (.bool true) ∧ Below w.heap.size w w' := by
  have hn := h.nmax
  have hlen := h.len
  have H := Lib.hid h
  have HD := Lib.hid hd
  have HNIL := Lib.hid hnil
  clear h hd hnil
  obtain ⟨R, hR⟩ : ∃ R, applyE v g ds = R := ⟨_, rfl⟩
  have HR := Lib.hid hR
  clear hR
  unfold Env.val
  go_enter Try.func6, Try.ntmps6
  go_upto_region 1 with (fail)
  (obtain ⟨W, hWW, hbW, hzW, f1W, qfa⟩ := box1 w #[.int .i64 v.kind, .int .i64 v.units, .int .i64 v.weekday, .int .i64 v.minute, .int .i64 v.total, .int .i64 v.spent, .string v.zone, .string v.band, .bool v.family] 29; rw [← hWW]; have qa0 : W.cell? ⟨w.heap.size, 0, none⟩ = some (.int .i64 v.kind) := f1W 0 _ rfl; have qa1 : W.cell? ⟨w.heap.size, 1, none⟩ = some (.int .i64 v.units) := f1W 1 _ rfl; have qa2 : W.cell? ⟨w.heap.size, 2, none⟩ = some (.int .i64 v.weekday) := f1W 2 _ rfl; have qa3 : W.cell? ⟨w.heap.size, 3, none⟩ = some (.int .i64 v.minute) := f1W 3 _ rfl; have qa4 : W.cell? ⟨w.heap.size, 4, none⟩ = some (.int .i64 v.total) := f1W 4 _ rfl; have qa5 : W.cell? ⟨w.heap.size, 5, none⟩ = some (.int .i64 v.spent) := f1W 5 _ rfl; have qa6 : W.cell? ⟨w.heap.size, 6, none⟩ = some (.string v.zone) := f1W 6 _ rfl; have qa7 : W.cell? ⟨w.heap.size, 7, none⟩ = some (.string v.band) := f1W 7 _ rfl; have qa8 : W.cell? ⟨w.heap.size, 8, none⟩ = some (.bool v.family) := f1W 8 _ rfl; clear hWW f1W)
  have hT := hbW
  have hg0 : w.heap.size < W.heap.size := hzW
  replace H := Lib.hid (H.out.below hbW)
  replace HD := Lib.hid (HD.out.below hbW)
  go_wp2_with fail
  refine (dsmall_any ds A n c items _ H.out HD.out).mono ?_
  rintro r w1 ⟨m, rfl, hm, hb1⟩
  (have hzhb1 := hb1.size; replace qa0 := (hb1.cell (p := ⟨_, _, none⟩) (by (try dsimp only) <;> omega)).trans qa0; replace qa1 := (hb1.cell (p := ⟨_, _, none⟩) (by (try dsimp only) <;> omega)).trans qa1; replace qa2 := (hb1.cell (p := ⟨_, _, none⟩) (by (try dsimp only) <;> omega)).trans qa2; replace qa3 := (hb1.cell (p := ⟨_, _, none⟩) (by (try dsimp only) <;> omega)).trans qa3; replace qa4 := (hb1.cell (p := ⟨_, _, none⟩) (by (try dsimp only) <;> omega)).trans qa4; replace qa5 := (hb1.cell (p := ⟨_, _, none⟩) (by (try dsimp only) <;> omega)).trans qa5; replace qa6 := (hb1.cell (p := ⟨_, _, none⟩) (by (try dsimp only) <;> omega)).trans qa6; replace qa7 := (hb1.cell (p := ⟨_, _, none⟩) (by (try dsimp only) <;> omega)).trans qa7; replace qa8 := (hb1.cell (p := ⟨_, _, none⟩) (by (try dsimp only) <;> omega)).trans qa8; replace hT := Below.trans hT (Below.mono hb1 (by omega)))
  replace H := Lib.hid (H.out.below hb1)
  replace HD := Lib.hid (HD.out.below hb1)
  have hg1 : w.heap.size < w1.heap.size := by omega
  clear hb1
  cases m
  · go_wp2_with fail
    refine (awake_any _).mono ?_
    rintro r wz ⟨rfl, hbz⟩
    replace hT := hT.trans (hbz.mono (by omega))
    go_wp2_with fail
    go_ret
    exact ⟨rfl, hT⟩
  have hn20 : n ≤ 20 := hm rfl
  clear hm
  by_cases hgg : g < 0 ∨ 1125899906842624 < g
  · rcases (show g < 0 ∨ (¬ g < 0 ∧ 1125899906842624 < g) by omega) with hg1 | ⟨hg1, hg2⟩
    all_goals
      go_wp2_with fail
      refine (awake_any _).mono ?_
      rintro r wz ⟨rfl, hbz⟩
      replace hT := hT.trans (hbz.mono (by omega))
      go_wp2_with fail
      go_ret
      exact ⟨rfl, hT⟩
  have hgn : ¬ g < 0 := by omega
  have hgm : ¬ 1125899906842624 < g := by omega
  clear hgg
  have hdl : ds.length = n := by rw [← HD.out.1]; exact hlen
  have HDL := Lib.hid hdl
  clear hdl
  go_wp2_with fail
  go_loopw [7] (fun i wr => ∃ k : Nat, k ≤ n ∧ i = .int .i64 k ∧ Below w1.heap.size w1 wr ∧ ∀ (j : Nat) (d : Dsc), j < k → ds[j]? = some d → 0 ≤ d.pts ∧ d.pts ≤ 10000) (fun i _ => n - (intOf i).toNat)
  case atStart => exact ⟨0, Nat.zero_le _, rfl, Below.refl _ _, fun j d hj => absurd hj (by omega)⟩
  case round =>
    obtain ⟨k, hk, rfl, hb, hok⟩ := hrel
    have HOK := Lib.hid hok
    clear hok
    have hzb := hb.size
    by_cases hlt : k < n
    · obtain ⟨b, off, rfl, hbl, hcells⟩ := H.out.baseIn hb (by omega)
      obtain ⟨x, hx⟩ := H.out.get hlt
      obtain ⟨d, hdk⟩ : ∃ d, ds[k]? = some d := ⟨ds[k]'(by have := HDL.out; omega), List.getElem?_eq_getElem _⟩
      obtain ⟨hnm, hpt, hrp⟩ := HD.out.2 k x d hx hdk
      have ma5 : wr.cell? ⟨b, off + k * 6 + 5, none⟩ = some (.int .i64 x.pts) := Sl.at_ hcells hx 5 rfl
      rw [hpt] at ma5
      obtain ⟨pts, hp⟩ : ∃ pts, d.pts = pts := ⟨_, rfl⟩
      rw [hp] at ma5
      have HDK := Lib.hid hdk
      have HP := Lib.hid hp
      clear hcells hx hdk hrp hnm hpt hp
      by_cases hbad : pts < 0 ∨ 10000 < pts
      · replace hT := hT.trans (hb.mono (by omega))
        rcases (show pts < 0 ∨ (¬ pts < 0 ∧ 10000 < pts) by omega) with hp1 | ⟨hp1, hp2⟩
        all_goals
          go_wp2_with fail
          refine (awake_any _).mono ?_
          rintro r wz ⟨rfl, hbz⟩
          replace hT := hT.trans (hbz.mono (by omega))
          go_wp2_with fail
          go_ret
          exact ⟨rfl, hT⟩
      · have hp1 : ¬ pts < 0 := by omega
        have hp2 : ¬ 10000 < pts := by omega
        have hst : ∀ (j : Nat) (d : Dsc), j < k + 1 → ds[j]? = some d → 0 ≤ d.pts ∧ d.pts ≤ 10000 := fun j d' hj hd' => by
          by_cases hjk : j = k
          · subst hjk
            have := HDK.out.symm.trans hd'
            injection this with this
            subst this
            have := HP.out
            omega
          · exact HOK.out j d' (by omega) hd'
        have HST := Lib.hid hst
        clear hst
        go_wp2_with fail
        go_roundw
        case rel => exact ⟨k + 1, by omega, by go_num, hb, HST.out⟩
        case measure => simp [intOf]; omega
    · obtain rfl : k = n := by omega
      have hkn : ¬ ((k : Int) < (k : Int)) := by omega
      have hal : ∀ d ∈ ds, 0 ≤ d.pts ∧ d.pts ≤ 10000 := fun d hd => by
        obtain ⟨j, hj⟩ := List.getElem?_of_mem hd
        have := (List.getElem?_eq_some_iff.1 hj).1
        have h2 := HDL.out
        exact HOK.out j d (by omega) hj
      have HAL := Lib.hid hal
      clear hal HOK
      (have hzhb := hb.size; replace qa0 := (hb.cell (p := ⟨_, _, none⟩) (by (try dsimp only) <;> omega)).trans qa0; replace qa1 := (hb.cell (p := ⟨_, _, none⟩) (by (try dsimp only) <;> omega)).trans qa1; replace qa2 := (hb.cell (p := ⟨_, _, none⟩) (by (try dsimp only) <;> omega)).trans qa2; replace qa3 := (hb.cell (p := ⟨_, _, none⟩) (by (try dsimp only) <;> omega)).trans qa3; replace qa4 := (hb.cell (p := ⟨_, _, none⟩) (by (try dsimp only) <;> omega)).trans qa4; replace qa5 := (hb.cell (p := ⟨_, _, none⟩) (by (try dsimp only) <;> omega)).trans qa5; replace qa6 := (hb.cell (p := ⟨_, _, none⟩) (by (try dsimp only) <;> omega)).trans qa6; replace qa7 := (hb.cell (p := ⟨_, _, none⟩) (by (try dsimp only) <;> omega)).trans qa7; replace qa8 := (hb.cell (p := ⟨_, _, none⟩) (by (try dsimp only) <;> omega)).trans qa8; replace hT := Below.trans hT (Below.mono hb (by omega)))
      replace H := Lib.hid (H.out.below hb)
      replace HD := Lib.hid (HD.out.below hb)
      have hg2 : w.heap.size < wr.heap.size := by omega
      clear hb
      have HFU := Lib.hid (full_ok v g ds (by omega) (by omega) HAL.out)
      have HNO := Lib.hid (none_ok v g ds)
      have HKO := Lib.hid (ok_ok v g ds (by omega) (by omega) HAL.out)
      rw [HR.out] at HNO HKO
      go_wp2_with fail
      refine (always_any _).mono ?_
      rintro r w3 ⟨z, rfl, hb3, hz⟩
      (have hzhb3 := hb3.size; replace qa0 := (hb3.cell (p := ⟨_, _, none⟩) (by (try dsimp only) <;> omega)).trans qa0; replace qa1 := (hb3.cell (p := ⟨_, _, none⟩) (by (try dsimp only) <;> omega)).trans qa1; replace qa2 := (hb3.cell (p := ⟨_, _, none⟩) (by (try dsimp only) <;> omega)).trans qa2; replace qa3 := (hb3.cell (p := ⟨_, _, none⟩) (by (try dsimp only) <;> omega)).trans qa3; replace qa4 := (hb3.cell (p := ⟨_, _, none⟩) (by (try dsimp only) <;> omega)).trans qa4; replace qa5 := (hb3.cell (p := ⟨_, _, none⟩) (by (try dsimp only) <;> omega)).trans qa5; replace qa6 := (hb3.cell (p := ⟨_, _, none⟩) (by (try dsimp only) <;> omega)).trans qa6; replace qa7 := (hb3.cell (p := ⟨_, _, none⟩) (by (try dsimp only) <;> omega)).trans qa7; replace qa8 := (hb3.cell (p := ⟨_, _, none⟩) (by (try dsimp only) <;> omega)).trans qa8; replace hT := Below.trans hT (Below.mono hb3 (by omega)))
      replace H := Lib.hid (H.out.below hb3)
      have HDF := Lib.hid (Dl.cons (x := ⟨nFull, z, 10000⟩) (d := ⟨nFull, alw, 10000⟩) (HD.out.below hb3) rfl rfl hz)
      replace HD := Lib.hid (HD.out.below hb3)
      have hg3 : w.heap.size < w3.heap.size := by omega
      clear hb3 hz
      unfold It.val
      go_wp2_with (at_builtin; go_must (
        refine wpl_appendS _ rfl (.tmp 55) (.tmp 56) 33 rfl w3.heap.size 47 _ 80 Try.underlying33 info_dit rfl (.slice (some ⟨w3.heap.size, 0, none⟩) 1 1) ([⟨nFull, z, 10000⟩] : List Dit) rfl (World.ownsRow_lit w3 #[.string nFull, .int .i64 z.op, .int .i64 z.num, .string z.text, .slice z.A z.n z.c, .int .i64 10000] 1 (Nat.le_refl _) (by unfold maxLen; decide) rfl) A k c items rfl HNIL.out (H.out.below ((Below.refl _ _).alloc (Nat.le_refl _) _)) (by simp; omega) (by omega) (by rw [alloc_size]; omega) ?_
        intro v4 w4 hown4 hu4
        have hbv4 : Below w3.heap.size w3 w4 := ((Below.refl _ _).alloc (Nat.le_refl _) _).grown hu4.grew (by simp) (by simp [Value.ownBlock])
        have HO4 := Lib.hid hown4
        clear hu4 hown4
        (have hzhbv4 := hbv4.size; replace qa0 := (hbv4.cell (p := ⟨_, _, none⟩) (by (try dsimp only) <;> omega)).trans qa0; replace qa1 := (hbv4.cell (p := ⟨_, _, none⟩) (by (try dsimp only) <;> omega)).trans qa1; replace qa2 := (hbv4.cell (p := ⟨_, _, none⟩) (by (try dsimp only) <;> omega)).trans qa2; replace qa3 := (hbv4.cell (p := ⟨_, _, none⟩) (by (try dsimp only) <;> omega)).trans qa3; replace qa4 := (hbv4.cell (p := ⟨_, _, none⟩) (by (try dsimp only) <;> omega)).trans qa4; replace qa5 := (hbv4.cell (p := ⟨_, _, none⟩) (by (try dsimp only) <;> omega)).trans qa5; replace qa6 := (hbv4.cell (p := ⟨_, _, none⟩) (by (try dsimp only) <;> omega)).trans qa6; replace qa7 := (hbv4.cell (p := ⟨_, _, none⟩) (by (try dsimp only) <;> omega)).trans qa7; replace qa8 := (hbv4.cell (p := ⟨_, _, none⟩) (by (try dsimp only) <;> omega)).trans qa8; replace hT := Below.trans hT (Below.mono hbv4 (by omega)))
        replace H := Lib.hid (H.out.below hbv4)
        replace HD := Lib.hid (HD.out.below hbv4)
        replace HDF := Lib.hid (HDF.out.below hbv4)
        have hg4 : w.heap.size < w4.heap.size := by omega
        clear hbv4
        obtain ⟨A4, c4, hv4, hs4⟩ := HO4.out.sl
        rw [List.length_append, List.length_singleton, hlen] at hv4 hs4
        have HS4 := Lib.hid hs4
        subst hv4
        clear hs4 HO4))
      refine (apply_any v g (⟨nFull, alw, 10000⟩ :: ds) A4 (1 + k) c4 _ _ (by omega) HS4.out HDF.out).mono ?_
      rintro r w5 ⟨u5, rfl, ho5, hb5⟩
      rw [HFU.out] at ho5 ⊢
      (have hzhb5 := hb5.size; replace qa0 := (hb5.cell (p := ⟨_, _, none⟩) (by (try dsimp only) <;> omega)).trans qa0; replace qa1 := (hb5.cell (p := ⟨_, _, none⟩) (by (try dsimp only) <;> omega)).trans qa1; replace qa2 := (hb5.cell (p := ⟨_, _, none⟩) (by (try dsimp only) <;> omega)).trans qa2; replace qa3 := (hb5.cell (p := ⟨_, _, none⟩) (by (try dsimp only) <;> omega)).trans qa3; replace qa4 := (hb5.cell (p := ⟨_, _, none⟩) (by (try dsimp only) <;> omega)).trans qa4; replace qa5 := (hb5.cell (p := ⟨_, _, none⟩) (by (try dsimp only) <;> omega)).trans qa5; replace qa6 := (hb5.cell (p := ⟨_, _, none⟩) (by (try dsimp only) <;> omega)).trans qa6; replace qa7 := (hb5.cell (p := ⟨_, _, none⟩) (by (try dsimp only) <;> omega)).trans qa7; replace qa8 := (hb5.cell (p := ⟨_, _, none⟩) (by (try dsimp only) <;> omega)).trans qa8; replace hT := Below.trans hT (Below.mono hb5 (by omega)))
      replace H := Lib.hid (H.out.below hb5)
      replace HD := Lib.hid (HD.out.below hb5)
      have hg5 : w.heap.size < w5.heap.size := by omega
      obtain ⟨A5, c5, rfl, hs5⟩ := ho5.sl
      have HS5 := Lib.hid hs5
      clear ho5 hs5 hb5 HS4 HDF
      have hrow : (if g = 0 then ([] : List Giv) else [⟨nFull, g⟩]) = [] ∧ g = 0 ∨ (if g = 0 then ([] : List Giv) else [⟨nFull, g⟩]) = [⟨nFull, g⟩] ∧ 0 < g := by
        by_cases h0 : g = 0
        · exact .inl ⟨if_pos h0, h0⟩
        · exact .inr ⟨if_neg h0, by omega⟩
      have q0 : (g == g) = true := by simp
      rcases hrow with ⟨hr, h0⟩ | ⟨hr, h0⟩
      · rw [hr] at HS5 ⊢
        clear hr HS5
        have hgf : ¬ 0 < g := by omega
        clear h0
        go_wp2_with fail
        refine (always_any _).mono ?_
        rintro r w6 ⟨z2, rfl, hb6, hz2⟩
        (have hzhb6 := hb6.size; replace qa0 := (hb6.cell (p := ⟨_, _, none⟩) (by (try dsimp only) <;> omega)).trans qa0; replace qa1 := (hb6.cell (p := ⟨_, _, none⟩) (by (try dsimp only) <;> omega)).trans qa1; replace qa2 := (hb6.cell (p := ⟨_, _, none⟩) (by (try dsimp only) <;> omega)).trans qa2; replace qa3 := (hb6.cell (p := ⟨_, _, none⟩) (by (try dsimp only) <;> omega)).trans qa3; replace qa4 := (hb6.cell (p := ⟨_, _, none⟩) (by (try dsimp only) <;> omega)).trans qa4; replace qa5 := (hb6.cell (p := ⟨_, _, none⟩) (by (try dsimp only) <;> omega)).trans qa5; replace qa6 := (hb6.cell (p := ⟨_, _, none⟩) (by (try dsimp only) <;> omega)).trans qa6; replace qa7 := (hb6.cell (p := ⟨_, _, none⟩) (by (try dsimp only) <;> omega)).trans qa7; replace qa8 := (hb6.cell (p := ⟨_, _, none⟩) (by (try dsimp only) <;> omega)).trans qa8; replace hT := Below.trans hT (Below.mono hb6 (by omega)))
        replace H := Lib.hid (H.out.below hb6)
        replace HD := Lib.hid (HD.out.below hb6)
        have hg6 : w.heap.size < w6.heap.size := by omega
        clear hb6
        have hone := (one_new w6 4 0 ⟨#[]⟩ 45 alw z2 hz2).on ((Below.refl _ _).alloc (Nat.le_refl _) (.cells #[.int .i64 4, .int .i64 0, .string ⟨#[]⟩, .slice (some ⟨w6.heap.size, 0, none⟩) 1 1] 45))
        unfold It.val
        go_upto_region 13 with (fail)
        obtain ⟨W7, hW7, hb7, hz7, f1, f2, -, -⟩ := box2 w6 #[.int .i64 z2.op, .int .i64 z2.num, .string z2.text, .slice z2.A z2.n z2.c] 45 #[.int .i64 4, .int .i64 0, .string ⟨#[]⟩, .slice (some ⟨w6.heap.size, 0, none⟩) 1 1] 45
        rw [← hW7] at hone
        rw [← hW7]
        have na0 : W7.cell? ⟨w6.heap.size + 1, 0, none⟩ = some (.int .i64 4) := f2 0 _ rfl
        have na1 : W7.cell? ⟨w6.heap.size + 1, 1, none⟩ = some (.int .i64 0) := f2 1 _ rfl
        have na2 : W7.cell? ⟨w6.heap.size + 1, 2, none⟩ = some (.string ⟨#[]⟩) := f2 2 _ rfl
        have na3 : W7.cell? ⟨w6.heap.size + 1, 3, none⟩ = some (.slice (some ⟨w6.heap.size, 0, none⟩) 1 1) := f2 3 _ rfl
        clear hW7 f1 f2 hz2
        have HONE := Lib.hid hone
        clear hone
        (have hzhb7 := hb7.size; replace qa0 := (hb7.cell (p := ⟨_, _, none⟩) (by (try dsimp only) <;> omega)).trans qa0; replace qa1 := (hb7.cell (p := ⟨_, _, none⟩) (by (try dsimp only) <;> omega)).trans qa1; replace qa2 := (hb7.cell (p := ⟨_, _, none⟩) (by (try dsimp only) <;> omega)).trans qa2; replace qa3 := (hb7.cell (p := ⟨_, _, none⟩) (by (try dsimp only) <;> omega)).trans qa3; replace qa4 := (hb7.cell (p := ⟨_, _, none⟩) (by (try dsimp only) <;> omega)).trans qa4; replace qa5 := (hb7.cell (p := ⟨_, _, none⟩) (by (try dsimp only) <;> omega)).trans qa5; replace qa6 := (hb7.cell (p := ⟨_, _, none⟩) (by (try dsimp only) <;> omega)).trans qa6; replace qa7 := (hb7.cell (p := ⟨_, _, none⟩) (by (try dsimp only) <;> omega)).trans qa7; replace qa8 := (hb7.cell (p := ⟨_, _, none⟩) (by (try dsimp only) <;> omega)).trans qa8; replace hT := Below.trans hT (Below.mono hb7 (by omega)))
        replace H := Lib.hid (H.out.below hb7)
        replace HD := Lib.hid (HD.out.below hb7)
        have hg7 : w.heap.size < W7.heap.size := by omega
        clear hb7
        go_cut [13] (fun s wx => ∃ (A7 : Option Addr) (c7 : Nat) (its : List Dit), s = .slice A7 (2 + k) c7 ∧ Sl wx A7 (2 + k) c7 its ∧ Dl wx (⟨nNever, Nn alw, 10000⟩ :: ⟨nNothing, alw, 0⟩ :: ds) its ∧ Below W7.heap.size W7 wx)
        case first =>
          go_region_law (first
            | (refine step_append rfl (.tmp 105) (.tmp 106) 33 rfl w8.heap.size 47 _ 80 Try.underlying33 info_dit rfl (.slice (some ⟨w8.heap.size, 0, none⟩) 2 2) ([⟨nNever, ⟨4, 0, ⟨#[]⟩, some ⟨w6.heap.size, 0, none⟩, 1, 1⟩, 10000⟩, ⟨nNothing, z3, 0⟩] : List Dit) rfl (World.ownsRow_lit w8 #[.string nNever, .int .i64 4, .int .i64 0, .string ⟨#[]⟩, .slice (some ⟨w6.heap.size, 0, none⟩) 1 1, .int .i64 10000, .string nNothing, .int .i64 z3.op, .int .i64 z3.num, .string z3.text, .slice z3.A z3.n z3.c, .int .i64 0] 2 (Nat.le_refl _) (by unfold maxLen; decide) rfl) A k c items rfl HNIL.out ((H.out.below (Below.refl _ _).drew).below (hb8.trans (((Below.refl _ _).alloc (Nat.le_refl _) _).mono hb8.size))) (by simp; omega) (by omega) (by rw [alloc_size]; omega) ?_; intro v9 w9 hown9 hu9)
            | (go_simp; go_at_call 16; refine (always_any _).mono ?_; rintro r w8 ⟨z3, rfl, hb8, hz3⟩; have hz8 := hb8.size; have nb0 := (hb8.cell (p := ⟨w6.heap.size + 1, 0, none⟩) (show w6.heap.size + 1 < W7.heap.size by omega)).trans na0; have nb1 := (hb8.cell (p := ⟨w6.heap.size + 1, 1, none⟩) (show w6.heap.size + 1 < W7.heap.size by omega)).trans na1; have nb2 := (hb8.cell (p := ⟨w6.heap.size + 1, 2, none⟩) (show w6.heap.size + 1 < W7.heap.size by omega)).trans na2; have nb3 := (hb8.cell (p := ⟨w6.heap.size + 1, 3, none⟩) (show w6.heap.size + 1 < W7.heap.size by omega)).trans na3; unfold It.val))
          all_goals
            obtain ⟨A7, c7, hv7, hs7⟩ := Ow.sl hown9
            rw [List.length_append, hlen] at hv7 hs7
            subst hv7
            have hb89 : Below w8.heap.size w8 w9 := ((Below.refl _ _).alloc (Nat.le_refl _) _).grown hu9.grew (by simp) (by simp [Value.ownBlock])
            have hb79 : Below W7.heap.size W7 w9 := ((Below.refl _ _).drew.trans hb8).trans (hb89.mono hb8.size)
            have hd7 := Lib.hid (Dl.cons (x := ⟨nNever, ⟨4, 0, ⟨#[]⟩, some ⟨w6.heap.size, 0, none⟩, 1, 1⟩, 10000⟩) (d := ⟨nNever, Nn alw, 10000⟩) (Dl.cons (x := ⟨nNothing, z3, 0⟩) (d := ⟨nNothing, alw, 0⟩) (HD.out.below hb79) rfl rfl (hz3.on hb89)) rfl rfl (HONE.out.on hb79))
            have hs7' := Lib.hid hs7
            clear hs7 hu9 hown9
            go_wp2_with fail
            go_meet
            exact ⟨_, _, _, rfl, hs7'.out, hd7.out, hb79⟩
        case rest =>
          obtain ⟨A7, c7, its, rfl, hs7, hd7, hb8⟩ := hcut
          have HS7 := Lib.hid hs7
          have HD7 := Lib.hid hd7
          (have hzhb8 := hb8.size; replace qa0 := (hb8.cell (p := ⟨_, _, none⟩) (by (try dsimp only) <;> omega)).trans qa0; replace qa1 := (hb8.cell (p := ⟨_, _, none⟩) (by (try dsimp only) <;> omega)).trans qa1; replace qa2 := (hb8.cell (p := ⟨_, _, none⟩) (by (try dsimp only) <;> omega)).trans qa2; replace qa3 := (hb8.cell (p := ⟨_, _, none⟩) (by (try dsimp only) <;> omega)).trans qa3; replace qa4 := (hb8.cell (p := ⟨_, _, none⟩) (by (try dsimp only) <;> omega)).trans qa4; replace qa5 := (hb8.cell (p := ⟨_, _, none⟩) (by (try dsimp only) <;> omega)).trans qa5; replace qa6 := (hb8.cell (p := ⟨_, _, none⟩) (by (try dsimp only) <;> omega)).trans qa6; replace qa7 := (hb8.cell (p := ⟨_, _, none⟩) (by (try dsimp only) <;> omega)).trans qa7; replace qa8 := (hb8.cell (p := ⟨_, _, none⟩) (by (try dsimp only) <;> omega)).trans qa8; replace hT := Below.trans hT (Below.mono hb8 (by omega)))
          replace H := Lib.hid (H.out.below hb8)
          replace HD := Lib.hid (HD.out.below hb8)
          have hg8 : w.heap.size < wc.heap.size := by omega
          clear hb8 hs7 hd7
          obtain ⟨oo, ll, ee⟩ := R
          have hke := HKO.out
          dsimp only at hke
          subst hke
          have q1 : (ll == ll) = true := by simp
          go_wp2_with fail
          refine (apply_any v g (⟨nNever, Nn alw, 10000⟩ :: ⟨nNothing, alw, 0⟩ :: ds) A7 (2 + k) c7 its _ (by omega) HS7.out HD7.out).mono ?_
          rintro r w9 ⟨u9, rfl, ho9, hb9⟩
          rw [HNO.out] at ho9 ⊢
          (have hzhb9 := hb9.size; replace qa0 := (hb9.cell (p := ⟨_, _, none⟩) (by (try dsimp only) <;> omega)).trans qa0; replace qa1 := (hb9.cell (p := ⟨_, _, none⟩) (by (try dsimp only) <;> omega)).trans qa1; replace qa2 := (hb9.cell (p := ⟨_, _, none⟩) (by (try dsimp only) <;> omega)).trans qa2; replace qa3 := (hb9.cell (p := ⟨_, _, none⟩) (by (try dsimp only) <;> omega)).trans qa3; replace qa4 := (hb9.cell (p := ⟨_, _, none⟩) (by (try dsimp only) <;> omega)).trans qa4; replace qa5 := (hb9.cell (p := ⟨_, _, none⟩) (by (try dsimp only) <;> omega)).trans qa5; replace qa6 := (hb9.cell (p := ⟨_, _, none⟩) (by (try dsimp only) <;> omega)).trans qa6; replace qa7 := (hb9.cell (p := ⟨_, _, none⟩) (by (try dsimp only) <;> omega)).trans qa7; replace qa8 := (hb9.cell (p := ⟨_, _, none⟩) (by (try dsimp only) <;> omega)).trans qa8; replace hT := Below.trans hT (Below.mono hb9 (by omega)))
          replace H := Lib.hid (H.out.below hb9)
          replace HD := Lib.hid (HD.out.below hb9)
          have hg9 : w.heap.size < w9.heap.size := by omega
          obtain ⟨A9, c9, rfl, hs9⟩ := ho9.sl
          have HS9 := Lib.hid hs9
          clear ho9 hs9 hb9 HS7 HD7
          go_wp2_with fail
          refine (apply_any v g ds A k c items _ (by omega) H.out HD.out).mono ?_
          rintro r w10 ⟨u10, rfl, ho10, hb10⟩
          rw [HR.out] at ho10 ⊢
          replace hT := hT.trans (hb10.mono (by omega))
          have hz10 := hb10.size
          replace HS9 := Lib.hid (HS9.out.below hb10)
          obtain ⟨A10, c10, rfl, hs10⟩ := ho10.sl
          have HS10 := Lib.hid hs10
          clear ho10 hs10 hb10
          go_wp2_with fail
          refine (same_any oo oo A9 A10 oo.length c9 oo.length c10 _ HS9.out HS10.out).mono ?_
          rintro r w11 ⟨rfl, hb11⟩
          rw [decide_eq_true rfl]
          replace hT := hT.trans (hb11.mono (by omega))
          have hz11 := hb11.size
          clear hb11
          go_wp2_with fail
          refine (awake_any _).mono ?_
          rintro r wz ⟨rfl, hbz⟩
          replace hT := hT.trans (hbz.mono (by omega))
          go_wp2_with fail
          go_ret
          exact ⟨rfl, hT⟩
      · rw [hr] at HS5 ⊢
        clear hr
        obtain ⟨b5, off5, hA5, hbl5, hcells5⟩ := HS5.out.baseIn (Below.refl _ _) (by simp)
        subst hA5
        have ga0 : w5.cell? ⟨b5, off5, none⟩ = some (.string nFull) := Sl.at_ hcells5 (i := 0) rfl 0 rfl
        have ga1 : w5.cell? ⟨b5, off5 + 1, none⟩ = some (.int .i64 g) := Sl.at_ hcells5 (i := 0) rfl 1 rfl
        clear hcells5 HS5
        go_wp2_with fail
        clear ga0 ga1
        refine (always_any _).mono ?_
        rintro r w6 ⟨z2, rfl, hb6, hz2⟩
        (have hzhb6 := hb6.size; replace qa0 := (hb6.cell (p := ⟨_, _, none⟩) (by (try dsimp only) <;> omega)).trans qa0; replace qa1 := (hb6.cell (p := ⟨_, _, none⟩) (by (try dsimp only) <;> omega)).trans qa1; replace qa2 := (hb6.cell (p := ⟨_, _, none⟩) (by (try dsimp only) <;> omega)).trans qa2; replace qa3 := (hb6.cell (p := ⟨_, _, none⟩) (by (try dsimp only) <;> omega)).trans qa3; replace qa4 := (hb6.cell (p := ⟨_, _, none⟩) (by (try dsimp only) <;> omega)).trans qa4; replace qa5 := (hb6.cell (p := ⟨_, _, none⟩) (by (try dsimp only) <;> omega)).trans qa5; replace qa6 := (hb6.cell (p := ⟨_, _, none⟩) (by (try dsimp only) <;> omega)).trans qa6; replace qa7 := (hb6.cell (p := ⟨_, _, none⟩) (by (try dsimp only) <;> omega)).trans qa7; replace qa8 := (hb6.cell (p := ⟨_, _, none⟩) (by (try dsimp only) <;> omega)).trans qa8; replace hT := Below.trans hT (Below.mono hb6 (by omega)))
        replace H := Lib.hid (H.out.below hb6)
        replace HD := Lib.hid (HD.out.below hb6)
        have hg6 : w.heap.size < w6.heap.size := by omega
        clear hb6
        have hone := (one_new w6 4 0 ⟨#[]⟩ 45 alw z2 hz2).on ((Below.refl _ _).alloc (Nat.le_refl _) (.cells #[.int .i64 4, .int .i64 0, .string ⟨#[]⟩, .slice (some ⟨w6.heap.size, 0, none⟩) 1 1] 45))
        unfold It.val
        go_upto_region 13 with (fail)
        obtain ⟨W7, hW7, hb7, hz7, f1, f2, -, -⟩ := box2 w6 #[.int .i64 z2.op, .int .i64 z2.num, .string z2.text, .slice z2.A z2.n z2.c] 45 #[.int .i64 4, .int .i64 0, .string ⟨#[]⟩, .slice (some ⟨w6.heap.size, 0, none⟩) 1 1] 45
        rw [← hW7] at hone
        rw [← hW7]
        have na0 : W7.cell? ⟨w6.heap.size + 1, 0, none⟩ = some (.int .i64 4) := f2 0 _ rfl
        have na1 : W7.cell? ⟨w6.heap.size + 1, 1, none⟩ = some (.int .i64 0) := f2 1 _ rfl
        have na2 : W7.cell? ⟨w6.heap.size + 1, 2, none⟩ = some (.string ⟨#[]⟩) := f2 2 _ rfl
        have na3 : W7.cell? ⟨w6.heap.size + 1, 3, none⟩ = some (.slice (some ⟨w6.heap.size, 0, none⟩) 1 1) := f2 3 _ rfl
        clear hW7 f1 f2 hz2
        have HONE := Lib.hid hone
        clear hone
        (have hzhb7 := hb7.size; replace qa0 := (hb7.cell (p := ⟨_, _, none⟩) (by (try dsimp only) <;> omega)).trans qa0; replace qa1 := (hb7.cell (p := ⟨_, _, none⟩) (by (try dsimp only) <;> omega)).trans qa1; replace qa2 := (hb7.cell (p := ⟨_, _, none⟩) (by (try dsimp only) <;> omega)).trans qa2; replace qa3 := (hb7.cell (p := ⟨_, _, none⟩) (by (try dsimp only) <;> omega)).trans qa3; replace qa4 := (hb7.cell (p := ⟨_, _, none⟩) (by (try dsimp only) <;> omega)).trans qa4; replace qa5 := (hb7.cell (p := ⟨_, _, none⟩) (by (try dsimp only) <;> omega)).trans qa5; replace qa6 := (hb7.cell (p := ⟨_, _, none⟩) (by (try dsimp only) <;> omega)).trans qa6; replace qa7 := (hb7.cell (p := ⟨_, _, none⟩) (by (try dsimp only) <;> omega)).trans qa7; replace qa8 := (hb7.cell (p := ⟨_, _, none⟩) (by (try dsimp only) <;> omega)).trans qa8; replace hT := Below.trans hT (Below.mono hb7 (by omega)))
        replace H := Lib.hid (H.out.below hb7)
        replace HD := Lib.hid (HD.out.below hb7)
        have hg7 : w.heap.size < W7.heap.size := by omega
        clear hb7
        go_cut [13] (fun s wx => ∃ (A7 : Option Addr) (c7 : Nat) (its : List Dit), s = .slice A7 (2 + k) c7 ∧ Sl wx A7 (2 + k) c7 its ∧ Dl wx (⟨nNever, Nn alw, 10000⟩ :: ⟨nNothing, alw, 0⟩ :: ds) its ∧ Below W7.heap.size W7 wx)
        case first =>
          go_region_law (first
            | (refine step_append rfl (.tmp 105) (.tmp 106) 33 rfl w8.heap.size 47 _ 80 Try.underlying33 info_dit rfl (.slice (some ⟨w8.heap.size, 0, none⟩) 2 2) ([⟨nNever, ⟨4, 0, ⟨#[]⟩, some ⟨w6.heap.size, 0, none⟩, 1, 1⟩, 10000⟩, ⟨nNothing, z3, 0⟩] : List Dit) rfl (World.ownsRow_lit w8 #[.string nNever, .int .i64 4, .int .i64 0, .string ⟨#[]⟩, .slice (some ⟨w6.heap.size, 0, none⟩) 1 1, .int .i64 10000, .string nNothing, .int .i64 z3.op, .int .i64 z3.num, .string z3.text, .slice z3.A z3.n z3.c, .int .i64 0] 2 (Nat.le_refl _) (by unfold maxLen; decide) rfl) A k c items rfl HNIL.out ((H.out.below (Below.refl _ _).drew).below (hb8.trans (((Below.refl _ _).alloc (Nat.le_refl _) _).mono hb8.size))) (by simp; omega) (by omega) (by rw [alloc_size]; omega) ?_; intro v9 w9 hown9 hu9)
            | (go_simp; go_at_call 16; refine (always_any _).mono ?_; rintro r w8 ⟨z3, rfl, hb8, hz3⟩; have hz8 := hb8.size; have nb0 := (hb8.cell (p := ⟨w6.heap.size + 1, 0, none⟩) (show w6.heap.size + 1 < W7.heap.size by omega)).trans na0; have nb1 := (hb8.cell (p := ⟨w6.heap.size + 1, 1, none⟩) (show w6.heap.size + 1 < W7.heap.size by omega)).trans na1; have nb2 := (hb8.cell (p := ⟨w6.heap.size + 1, 2, none⟩) (show w6.heap.size + 1 < W7.heap.size by omega)).trans na2; have nb3 := (hb8.cell (p := ⟨w6.heap.size + 1, 3, none⟩) (show w6.heap.size + 1 < W7.heap.size by omega)).trans na3; unfold It.val))
          all_goals
            obtain ⟨A7, c7, hv7, hs7⟩ := Ow.sl hown9
            rw [List.length_append, hlen] at hv7 hs7
            subst hv7
            have hb89 : Below w8.heap.size w8 w9 := ((Below.refl _ _).alloc (Nat.le_refl _) _).grown hu9.grew (by simp) (by simp [Value.ownBlock])
            have hb79 : Below W7.heap.size W7 w9 := ((Below.refl _ _).drew.trans hb8).trans (hb89.mono hb8.size)
            have hd7 := Lib.hid (Dl.cons (x := ⟨nNever, ⟨4, 0, ⟨#[]⟩, some ⟨w6.heap.size, 0, none⟩, 1, 1⟩, 10000⟩) (d := ⟨nNever, Nn alw, 10000⟩) (Dl.cons (x := ⟨nNothing, z3, 0⟩) (d := ⟨nNothing, alw, 0⟩) (HD.out.below hb79) rfl rfl (hz3.on hb89)) rfl rfl (HONE.out.on hb79))
            have hs7' := Lib.hid hs7
            clear hs7 hu9 hown9
            go_wp2_with fail
            go_meet
            exact ⟨_, _, _, rfl, hs7'.out, hd7.out, hb79⟩
        case rest =>
          obtain ⟨A7, c7, its, rfl, hs7, hd7, hb8⟩ := hcut
          have HS7 := Lib.hid hs7
          have HD7 := Lib.hid hd7
          (have hzhb8 := hb8.size; replace qa0 := (hb8.cell (p := ⟨_, _, none⟩) (by (try dsimp only) <;> omega)).trans qa0; replace qa1 := (hb8.cell (p := ⟨_, _, none⟩) (by (try dsimp only) <;> omega)).trans qa1; replace qa2 := (hb8.cell (p := ⟨_, _, none⟩) (by (try dsimp only) <;> omega)).trans qa2; replace qa3 := (hb8.cell (p := ⟨_, _, none⟩) (by (try dsimp only) <;> omega)).trans qa3; replace qa4 := (hb8.cell (p := ⟨_, _, none⟩) (by (try dsimp only) <;> omega)).trans qa4; replace qa5 := (hb8.cell (p := ⟨_, _, none⟩) (by (try dsimp only) <;> omega)).trans qa5; replace qa6 := (hb8.cell (p := ⟨_, _, none⟩) (by (try dsimp only) <;> omega)).trans qa6; replace qa7 := (hb8.cell (p := ⟨_, _, none⟩) (by (try dsimp only) <;> omega)).trans qa7; replace qa8 := (hb8.cell (p := ⟨_, _, none⟩) (by (try dsimp only) <;> omega)).trans qa8; replace hT := Below.trans hT (Below.mono hb8 (by omega)))
          replace H := Lib.hid (H.out.below hb8)
          replace HD := Lib.hid (HD.out.below hb8)
          have hg8 : w.heap.size < wc.heap.size := by omega
          clear hb8 hs7 hd7
          obtain ⟨oo, ll, ee⟩ := R
          have hke := HKO.out
          dsimp only at hke
          subst hke
          have q1 : (ll == ll) = true := by simp
          go_wp2_with fail
          refine (apply_any v g (⟨nNever, Nn alw, 10000⟩ :: ⟨nNothing, alw, 0⟩ :: ds) A7 (2 + k) c7 its _ (by omega) HS7.out HD7.out).mono ?_
          rintro r w9 ⟨u9, rfl, ho9, hb9⟩
          rw [HNO.out] at ho9 ⊢
          (have hzhb9 := hb9.size; replace qa0 := (hb9.cell (p := ⟨_, _, none⟩) (by (try dsimp only) <;> omega)).trans qa0; replace qa1 := (hb9.cell (p := ⟨_, _, none⟩) (by (try dsimp only) <;> omega)).trans qa1; replace qa2 := (hb9.cell (p := ⟨_, _, none⟩) (by (try dsimp only) <;> omega)).trans qa2; replace qa3 := (hb9.cell (p := ⟨_, _, none⟩) (by (try dsimp only) <;> omega)).trans qa3; replace qa4 := (hb9.cell (p := ⟨_, _, none⟩) (by (try dsimp only) <;> omega)).trans qa4; replace qa5 := (hb9.cell (p := ⟨_, _, none⟩) (by (try dsimp only) <;> omega)).trans qa5; replace qa6 := (hb9.cell (p := ⟨_, _, none⟩) (by (try dsimp only) <;> omega)).trans qa6; replace qa7 := (hb9.cell (p := ⟨_, _, none⟩) (by (try dsimp only) <;> omega)).trans qa7; replace qa8 := (hb9.cell (p := ⟨_, _, none⟩) (by (try dsimp only) <;> omega)).trans qa8; replace hT := Below.trans hT (Below.mono hb9 (by omega)))
          replace H := Lib.hid (H.out.below hb9)
          replace HD := Lib.hid (HD.out.below hb9)
          have hg9 : w.heap.size < w9.heap.size := by omega
          obtain ⟨A9, c9, rfl, hs9⟩ := ho9.sl
          have HS9 := Lib.hid hs9
          clear ho9 hs9 hb9 HS7 HD7
          go_wp2_with fail
          refine (apply_any v g ds A k c items _ (by omega) H.out HD.out).mono ?_
          rintro r w10 ⟨u10, rfl, ho10, hb10⟩
          rw [HR.out] at ho10 ⊢
          replace hT := hT.trans (hb10.mono (by omega))
          have hz10 := hb10.size
          replace HS9 := Lib.hid (HS9.out.below hb10)
          obtain ⟨A10, c10, rfl, hs10⟩ := ho10.sl
          have HS10 := Lib.hid hs10
          clear ho10 hs10 hb10
          go_wp2_with fail
          refine (same_any oo oo A9 A10 oo.length c9 oo.length c10 _ HS9.out HS10.out).mono ?_
          rintro r w11 ⟨rfl, hb11⟩
          rw [decide_eq_true rfl]
          replace hT := hT.trans (hb11.mono (by omega))
          have hz11 := hb11.size
          clear hb11
          go_wp2_with fail
          refine (awake_any _).mono ?_
          rintro r wz ⟨rfl, hbz⟩
          replace hT := hT.trans (hbz.mono (by omega))
          go_wp2_with fail
          go_ret
          exact ⟨rfl, hT⟩
end Dc
end Go.Proofs.Ytdjlfdbdhacmjaa
