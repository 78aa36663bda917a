/-
  Discounts: law Chosen. No condition.
-/
import Derived.Test.YtdjlfdbdhacmjaaDcK
import Derived.BigQuiet
import Derived.StillTailTactics
import Derived.Lib.Overlaps
import Derived.Deep.DeepCutAuto
import Derived.Deep.RegionWith
import Derived.Laws.Rows
set_option maxRecDepth 100000
set_option linter.unusedVariables false
set_option linter.unusedSimpArgs false
namespace Go.Proofs.Ytdjlfdbdhacmjaa
open Go.RowKit

namespace Dc
open Xp
/-- the tree of `always`, at a block -/
structure St (w : World) (x : It) (p : Nat) : Prop where
  it : x = ⟨7, 0, ⟨#[]⟩, some ⟨p, 0, none⟩, 2, 2⟩
  lt : p < w.heap.size
  at_ : ∀ (i : Nat) (y : It), ([⟨1, 0, ⟨#[]⟩, none, 0, 0⟩, ⟨1, 0, ⟨#[]⟩, none, 0, 0⟩] : List It)[i]? = some y → ∀ (j : Nat) (u : Value), (Flat.cells y)[j]? = some u → w.cell? ⟨p, 0 + i * Flat.sz It + j, none⟩ = some u
theorem St.keep {w w' : World} {x : It} {p : Nat} (h : St w x p) (hs : w.heap.size ≤ w'.heap.size) (hc : ∀ j, w'.cell? ⟨p, j, none⟩ = w.cell? ⟨p, j, none⟩) : St w' x p :=
  ⟨h.it, Nat.lt_of_lt_of_le h.lt hs, fun i y hy j u hu => (hc _).trans (h.at_ i y hy j u hu)⟩
theorem St.rp {w : World} {x : It} {p : Nat} (h : St w x p) : Rp w alw x := by
  have e := h.it
  subst e
  exact Rp.two ⟨rfl, Nat.le_refl _, by decide, fun _ => ⟨p, 0, rfl, h.lt, h.at_⟩⟩ (fun h => by cases h) (Rp.leaf _ 1 0 ⟨#[]⟩) (Rp.leaf _ 1 0 ⟨#[]⟩)
set_option maxHeartbeats 4000000 in
theorem always_at (w : World) : Calls Try.prog 16 #[] w fun r w' => ∃ z, r = .returned (It.val z) ∧ Below w.heap.size w w' ∧ ∃ p, St w' z p ∧ w.heap.size ≤ p := by
  unfold It.val
  go_enter Try.func16, Try.ntmps16
  go_wp2_with fail
  refine bodyPost_ret (results_cell_row rfl _ _ _ _ _ _ _ rfl (heap_first _ _ _) rfl rfl rfl) rfl ?_
  refine ⟨⟨7, 0, ⟨#[]⟩, some ⟨w.heap.size + 1, 0, none⟩, 2, 2⟩, rfl, ((Below.refl _ _).alloc (Nat.le_refl _) _).alloc (by rw [alloc_size]; omega) _, w.heap.size + 1, ⟨rfl, by rw [alloc_size, alloc_size]; omega, ?_⟩, by omega⟩
  intro i y hy j u hu
  have h3 := at_new (w.alloc (.cells #[.int .i64 7, .int .i64 0, .string ⟨#[]⟩, .slice (some ⟨w.heap.size + 1, 0, none⟩) 2 2] 45)) #[.int .i64 1, .int .i64 0, .string ⟨#[]⟩, .slice none 0 0, .int .i64 1, .int .i64 0, .string ⟨#[]⟩, .slice none 0 0] 45 (0 + i * Flat.sz It + j) u
  rw [alloc_size] at h3
  refine h3 ?_
  match i with
  | 0 =>
    cases hy
    match j with
    | 0 => exact hu
    | 1 => exact hu
    | 2 => exact hu
    | 3 => exact hu
    | j + 4 => simp [Flat.cells] at hu
  | 1 =>
    cases hy
    match j with
    | 0 => exact hu
    | 1 => exact hu
    | 2 => exact hu
    | 3 => exact hu
    | j + 4 => simp [Flat.cells] at hu
  | i + 2 => simp at hy
/-- the held discounts: each one's tree is an `always`, in a block that is not the row's own -/
def Hl (w : World) (u : Value) (hds : List Dsc) (items : List Dit) : Prop :=
  items.length = hds.length ∧ ∀ (i : Nat) (x : Dit) (d : Dsc), items[i]? = some x → hds[i]? = some d → x.name = d.name ∧ x.pts = d.pts ∧ d.e = alw ∧ ∃ p, St w x.it p ∧ u.ownBlock ≠ some p
theorem Hl.below {w w' : World} {u : Value} {hds : List Dsc} {items : List Dit} (h : Hl w u hds items) (hb : Below w.heap.size w w') : Hl w' u hds items :=
  ⟨h.1, fun i x d hx hd => by
    obtain ⟨a, b, c, p, hp, hq⟩ := h.2 i x d hx hd
    exact ⟨a, b, c, p, hp.keep hb.size (fun j => hb.cell (p := ⟨p, j, none⟩) hp.lt), hq⟩⟩
theorem Hl.upd {w w' : World} {u u' : Value} {hds : List Dsc} {items : List Dit} (h : Hl w u hds items) (hu : Upd w w' u u') : Hl w' u' hds items :=
  ⟨h.1, fun i x d hx hd => by
    obtain ⟨a, b, c, p, hp, hq⟩ := h.2 i x d hx hd
    refine ⟨a, b, c, p, hp.keep hu.size (fun j => World.cell?_of_block (a := ⟨p, j, none⟩) (hu.grew.block p hp.lt (fun e => hq e.symm))), ?_⟩
    rcases hu.at_ with h1 | ⟨g, h1, h2⟩
    · rw [h1]; exact hq
    · rw [h1]
      intro e
      injection e with e
      have := hp.lt
      omega⟩
theorem Hl.snoc {w : World} {u : Value} {hds : List Dsc} {items : List Dit} {x : Dit} {d : Dsc} (h : Hl w u hds items) (h1 : x.name = d.name) (h2 : x.pts = d.pts) (h3 : d.e = alw) {p : Nat} (h4 : St w x.it p) (h5 : u.ownBlock ≠ some p) : Hl w u (hds ++ [d]) (items ++ [x]) := by
  refine ⟨by simp [h.1], fun i y b hy hb => ?_⟩
  have hl := h.1
  by_cases hi : i < items.length
  · rw [List.getElem?_append_left hi] at hy
    rw [List.getElem?_append_left (by omega)] at hb
    exact h.2 i y b hy hb
  · by_cases hi2 : i = items.length
    · subst hi2
      rw [List.getElem?_append_right (Nat.le_refl _)] at hy
      rw [List.getElem?_append_right (by omega)] at hb
      simp [hl] at hy hb
      subst hy hb
      exact ⟨h1, h2, h3, p, h4, h5⟩
    · rw [List.getElem?_eq_none (by simp; omega)] at hy
      cases hy
theorem Hl.dl {w : World} {u : Value} {hds : List Dsc} {items : List Dit} (h : Hl w u hds items) : Dl w hds items :=
  ⟨h.1, fun i x d hx hd => by
    obtain ⟨a, b, c, p, hp, hq⟩ := h.2 i x d hx hd
    exact ⟨a, b, by rw [c]; exact hp.rp⟩⟩
theorem topH_alw (v : Env) : topH v alw = true := by rfl
/-- those that hold, without their conditions -/
def chosen (v : Env) (ds : List Dsc) : List Dsc := (ds.filter (fun d => topH v d.e)).map (fun d => ⟨d.name, alw, d.pts⟩)
theorem chosen_take {v : Env} {ds : List Dsc} {k : Nat} {d : Dsc} (h : ds[k]? = some d) : chosen v (ds.take (k + 1)) = chosen v (ds.take k) ++ if topH v d.e then [⟨d.name, alw, d.pts⟩] else [] := by
  unfold chosen
  rw [List.take_add_one, List.filter_append, List.map_append, h]
  congr 1
  cases ht : topH v d.e <;> simp [ht]
theorem applyF_chosen (v : Env) : ∀ (ds : List Dsc) (out : List Giv) (g : Int), applyF v out g (chosen v ds) = applyF v out g ds
  | [], out, g => rfl
  | d :: ds, out, g => by
    have ih := applyF_chosen v ds
    cases ht : topH v d.e
    · have e1 : chosen v (d :: ds) = chosen v ds := by unfold chosen; rw [List.filter_cons_of_neg (by rw [ht]; decide)]
      rw [e1, ih, applyF, if_pos ht]
    · have e1 : chosen v (d :: ds) = ⟨d.name, alw, d.pts⟩ :: chosen v ds := by simp [chosen, List.filter_cons, ht]
      have f1 : applyF v out g (⟨d.name, alw, d.pts⟩ :: chosen v ds) = if d.pts < 0 ∨ 10000 < d.pts then ([], 0, 6) else applyF v (if pct g d.pts = 0 then out else out ++ [⟨d.name, pct g d.pts⟩]) (g - pct g d.pts) (chosen v ds) := by
        rw [applyF]
        exact if_neg (by rw [topH_alw]; decide)
      have f2 : applyF v out g (d :: ds) = if d.pts < 0 ∨ 10000 < d.pts then ([], 0, 6) else applyF v (if pct g d.pts = 0 then out else out ++ [⟨d.name, pct g d.pts⟩]) (g - pct g d.pts) ds := by
        rw [applyF]
        exact if_neg (by rw [ht]; decide)
      rw [e1, f1, f2]
      split
      · rfl
      · exact ih _ _
theorem applyE_chosen (v : Env) (g : Int) (ds : List Dsc) : applyE v g (chosen v ds) = applyE v g ds := by
  unfold applyE
  split
  · rfl
  · exact applyF_chosen v ds [] g
theorem info_dit : (Try.prog.info? 47).map (fun i => (i.zero, i.size, i.bytes)) = some (some (.agg #[.string ⟨#[]⟩, .int .i64 0, .int .i64 0, .string ⟨#[]⟩, .slice none 0 0, .int .i64 0]), 6, 80) := by kernel_rfl
set_option maxHeartbeats 8000000 in
theorem law_chosen (v : Env) (g : Int) (ds : List Dsc) (A : Option Addr) (n c : Nat) (items : List Dit) (w : World) (h : Sl w A n c items) (hd : Dl w ds items) :
    Calls Try.prog 8 #[.slice A n c, v.val, .int .i64 g] w fun r w' => r = .returned (.bool true) ∧ Below w.heap.size w w' := by
  have hn := h.nmax
  have hlen := h.len
  have H := Lib.hid h
  have HD := Lib.hid hd
  clear h hd
  obtain ⟨R, hR⟩ : ∃ R, applyE v g ds = R := ⟨_, rfl⟩
  have HR := Lib.hid hR
  clear hR
  unfold Env.val
  go_enter Try.func8, Try.ntmps8
  go_upto_region 1 with (fail)
  (obtain ⟨W, hWW, hbW, hzW, f1W, qfa⟩ := box1 w #[.int .i64 v.kind, .int .i64 v.units, .int .i64 v.weekday, .int .i64 v.minute, .int .i64 v.total, .int .i64 v.spent, .string v.zone, .string v.band, .bool v.family] 29; rw [← hWW]; have qa0 : W.cell? ⟨w.heap.size, 0, none⟩ = some (.int .i64 v.kind) := f1W 0 _ rfl; have qa1 : W.cell? ⟨w.heap.size, 1, none⟩ = some (.int .i64 v.units) := f1W 1 _ rfl; have qa2 : W.cell? ⟨w.heap.size, 2, none⟩ = some (.int .i64 v.weekday) := f1W 2 _ rfl; have qa3 : W.cell? ⟨w.heap.size, 3, none⟩ = some (.int .i64 v.minute) := f1W 3 _ rfl; have qa4 : W.cell? ⟨w.heap.size, 4, none⟩ = some (.int .i64 v.total) := f1W 4 _ rfl; have qa5 : W.cell? ⟨w.heap.size, 5, none⟩ = some (.int .i64 v.spent) := f1W 5 _ rfl; have qa6 : W.cell? ⟨w.heap.size, 6, none⟩ = some (.string v.zone) := f1W 6 _ rfl; have qa7 : W.cell? ⟨w.heap.size, 7, none⟩ = some (.string v.band) := f1W 7 _ rfl; have qa8 : W.cell? ⟨w.heap.size, 8, none⟩ = some (.bool v.family) := f1W 8 _ rfl; clear hWW f1W)
  have hT := hbW
  have hg0 : w.heap.size < W.heap.size := hzW
  replace H := Lib.hid (H.out.below hbW)
  replace HD := Lib.hid (HD.out.below hbW)
  go_wp2_with fail
  refine (dsmall_any ds A n c items _ H.out HD.out).mono ?_
  rintro r w1 ⟨m, rfl, hm, hb1⟩
  (have hzhb1 := hb1.size; replace qa0 := (hb1.cell (p := ⟨_, _, none⟩) (by (try dsimp only) <;> omega)).trans qa0; replace qa1 := (hb1.cell (p := ⟨_, _, none⟩) (by (try dsimp only) <;> omega)).trans qa1; replace qa2 := (hb1.cell (p := ⟨_, _, none⟩) (by (try dsimp only) <;> omega)).trans qa2; replace qa3 := (hb1.cell (p := ⟨_, _, none⟩) (by (try dsimp only) <;> omega)).trans qa3; replace qa4 := (hb1.cell (p := ⟨_, _, none⟩) (by (try dsimp only) <;> omega)).trans qa4; replace qa5 := (hb1.cell (p := ⟨_, _, none⟩) (by (try dsimp only) <;> omega)).trans qa5; replace qa6 := (hb1.cell (p := ⟨_, _, none⟩) (by (try dsimp only) <;> omega)).trans qa6; replace qa7 := (hb1.cell (p := ⟨_, _, none⟩) (by (try dsimp only) <;> omega)).trans qa7; replace qa8 := (hb1.cell (p := ⟨_, _, none⟩) (by (try dsimp only) <;> omega)).trans qa8; replace hT := Below.trans hT (Below.mono hb1 (by omega)))
  replace H := Lib.hid (H.out.below hb1)
  replace HD := Lib.hid (HD.out.below hb1)
  have hg1 : w.heap.size < w1.heap.size := by omega
  clear hb1
  cases m
  · go_wp2_with fail
    refine (awake_any _).mono ?_
    rintro r w2 ⟨rfl, hb2⟩
    replace hT := hT.trans (hb2.mono (by omega))
    go_wp2_with fail
    go_ret
    exact ⟨rfl, hT⟩
  · have hn20 : n ≤ 20 := hm rfl
    clear hm
    obtain ⟨oo, ll, ee⟩ := R
    have q1 : (ll == ll) = true := by simp
    have q2 : (ee == ee) = true := by simp
    have hdl : ds.length = n := by rw [← HD.out.1]; exact hlen
    have HDL := Lib.hid hdl
    clear hdl
    have hB0 : w1.heap.size = w1.heap.size := rfl
    go_wp2_with fail
    go_loopw [7, 8] (fun u i wr => ∃ (k : Nat) (items : List Dit), k ≤ n ∧ i = .int .i64 k ∧ Ow wr w1.heap.size 47 u items ∧ items.length ≤ k ∧ Below w1.heap.size w1 wr ∧ Hl wr u (chosen v (ds.take k)) items) (fun _ i _ => n - (intOf i).toNat)
    case atStart => exact ⟨0, [], Nat.zero_le _, rfl, Ow.nil_ _ _ _, Nat.le_refl _, Below.refl _ _, rfl, fun i x d hx => by simp at hx⟩
    case round =>
      obtain ⟨k, hits, hk, rfl, hown, hol, hb, hhl⟩ := hrel
      have HOW := Lib.hid hown
      have HHL := Lib.hid hhl
      clear hown hhl
      have hzb := hb.size
      have hgr : w.heap.size < wr.heap.size := by omega
      by_cases hlt : k < n
      · obtain ⟨b, off, rfl, hbl, hcells⟩ := H.out.baseIn hb (by omega)
        obtain ⟨x, hx⟩ := H.out.get hlt
        obtain ⟨d, hdk⟩ : ∃ d, ds[k]? = some d := ⟨ds[k]'(by have := HDL.out; omega), List.getElem?_eq_getElem _⟩
        obtain ⟨hnm, hpt, hrp⟩ := HD.out.2 k x d hx hdk
        obtain ⟨name, it, pts⟩ := x
        obtain ⟨dn, de, dp⟩ := d
        dsimp only at hnm hpt hrp
        subst hnm hpt
        have HRP := Lib.hid (hrp.on hb)
        have ma0 : wr.cell? ⟨b, off + k * 6, none⟩ = some (.string name) := Sl.at_ hcells hx 0 rfl
        have ma1 : wr.cell? ⟨b, off + k * 6 + 1, none⟩ = some (.int .i64 it.op) := Sl.at_ hcells hx 1 rfl
        have ma2 : wr.cell? ⟨b, off + k * 6 + 2, none⟩ = some (.int .i64 it.num) := Sl.at_ hcells hx 2 rfl
        have ma3 : wr.cell? ⟨b, off + k * 6 + 3, none⟩ = some (.string it.text) := Sl.at_ hcells hx 3 rfl
        have ma4 : wr.cell? ⟨b, off + k * 6 + 4, none⟩ = some (.slice it.A it.n it.c) := Sl.at_ hcells hx 4 rfl
        have ma5 : wr.cell? ⟨b, off + k * 6 + 5, none⟩ = some (.int .i64 pts) := Sl.at_ hcells hx 5 rfl
        have HCH := Lib.hid (chosen_take (v := v) hdk)
        have hkl : k < n := hlt
        have hbr : b < wr.heap.size := by omega
        clear hcells hx hdk hrp
        (have eqa0 := (hb.cell (p := ⟨_, _, none⟩) (by (try dsimp only) <;> omega)).trans qa0; have eqa1 := (hb.cell (p := ⟨_, _, none⟩) (by (try dsimp only) <;> omega)).trans qa1; have eqa2 := (hb.cell (p := ⟨_, _, none⟩) (by (try dsimp only) <;> omega)).trans qa2; have eqa3 := (hb.cell (p := ⟨_, _, none⟩) (by (try dsimp only) <;> omega)).trans qa3; have eqa4 := (hb.cell (p := ⟨_, _, none⟩) (by (try dsimp only) <;> omega)).trans qa4; have eqa5 := (hb.cell (p := ⟨_, _, none⟩) (by (try dsimp only) <;> omega)).trans qa5; have eqa6 := (hb.cell (p := ⟨_, _, none⟩) (by (try dsimp only) <;> omega)).trans qa6; have eqa7 := (hb.cell (p := ⟨_, _, none⟩) (by (try dsimp only) <;> omega)).trans qa7; have eqa8 := (hb.cell (p := ⟨_, _, none⟩) (by (try dsimp only) <;> omega)).trans qa8)
        obtain ⟨ht, hHt⟩ : ∃ ht, topH v de = ht := ⟨_, rfl⟩
        have HTOP := Lib.hid hHt
        dsimp only at HCH
        rw [hHt] at HCH
        clear hHt
        go_upto_region 7 with (fail)
        have hcr : ∀ z : Wd (Below wr.heap.size wr), ∀ b o, b < wr.heap.size → z.w.cell? ⟨b, o, none⟩ = wr.cell? ⟨b, o, none⟩ := fun z => z.cells
        ((with_reducible refine wp_region_class (Below wr.heap.size wr) ?_ ?_ ?_ ?_); kernel_rfl; kernel_rfl; (exact (Below.refl _ _).drew); (intro hnonemp); skip; (repeat (any_goals (first | go_big_quiet_step (((go_at_call 17; (refine (Holds_top v de it _ (HRP.out.on (Wd.h _))).mono ?_); rw [HTOP.out]; rintro e w' ⟨rfl, hb⟩; exact ⟨rfl, ⟨w', below_wd _ hb⟩, rfl⟩))) | (refine wpQuiet_step (fun K hK => ?_); go_simp; (first | (refine hK _ ?_; clear hK K) | (split <;> rename_i hg <;> (refine hK _ ?_; clear hK K) <;> (try simp only [Bool.not_eq_true] at hg) <;> (first | simp only [Int.not_lt.2 hg, decide_false] | simp only [Int.not_le.1 hg, decide_true] | simp only [hg, decide_true, decide_false] | skip)))))));  all_goals (refine wpQuiet_nil ?_; intro wq hgq))
        clear hcr eqa0 eqa1 eqa2 eqa3 eqa4 eqa5 eqa6 eqa7 eqa8 HRP HTOP
        obtain ⟨w2, rfl⟩ : ∃ w2, w2 = wq := ⟨_, rfl⟩
        replace HOW := Lib.hid (HOW.out.below hgq)
        replace HHL := Lib.hid (HHL.out.below hgq)
        (have hzhgq := hgq.size; replace ma0 := (hgq.cell (p := ⟨_, _, none⟩) (by (try dsimp only) <;> omega)).trans ma0; replace ma1 := (hgq.cell (p := ⟨_, _, none⟩) (by (try dsimp only) <;> omega)).trans ma1; replace ma2 := (hgq.cell (p := ⟨_, _, none⟩) (by (try dsimp only) <;> omega)).trans ma2; replace ma3 := (hgq.cell (p := ⟨_, _, none⟩) (by (try dsimp only) <;> omega)).trans ma3; replace ma4 := (hgq.cell (p := ⟨_, _, none⟩) (by (try dsimp only) <;> omega)).trans ma4; replace ma5 := (hgq.cell (p := ⟨_, _, none⟩) (by (try dsimp only) <;> omega)).trans ma5; replace hb := Below.trans hb (Below.mono hgq (by omega)))
        have hg2 : b < w2.heap.size := by omega
        have hg3 : w1.heap.size ≤ w2.heap.size := by omega
        cases ht
        · have HN := HCH.out
          rw [if_neg (by decide), List.append_nil] at HN
          replace HN := Lib.hid HN
          go_wp2_with fail
          go_roundw
          case rel => exact ⟨k + 1, hits, by omega, by go_num, HOW.out, by omega, hb, by rw [HN.out]; exact HHL.out⟩
          case measure => simp [intOf]; omega
        · have HN := HCH.out
          rw [if_pos rfl] at HN
          replace HN := Lib.hid HN
          clear HCH
          go_upto_region 9 with (fail)
          clear hbr hbl
          (obtain ⟨V, hWV, hbV, hzV, f1V, dfa⟩ := box1 w2 #[.string name, .int .i64 it.op, .int .i64 it.num, .string it.text, .slice it.A it.n it.c, .int .i64 pts] 47; rw [← hWV]; have da0 : V.cell? ⟨w2.heap.size, 0, none⟩ = some (.string name) := f1V 0 _ rfl; have da1 : V.cell? ⟨w2.heap.size, 1, none⟩ = some (.int .i64 it.op) := f1V 1 _ rfl; have da2 : V.cell? ⟨w2.heap.size, 2, none⟩ = some (.int .i64 it.num) := f1V 2 _ rfl; have da3 : V.cell? ⟨w2.heap.size, 3, none⟩ = some (.string it.text) := f1V 3 _ rfl; have da4 : V.cell? ⟨w2.heap.size, 4, none⟩ = some (.slice it.A it.n it.c) := f1V 4 _ rfl; have da5 : V.cell? ⟨w2.heap.size, 5, none⟩ = some (.int .i64 pts) := f1V 5 _ rfl; clear hWV f1V)
          clear ma0 ma1 ma2 ma3 ma4 ma5
          have HB := Lib.hid hbV
          clear hbV
          go_wp2_with fail
          refine (always_at _).mono ?_
          rintro r w3 ⟨z, rfl, hb3, p, hst, hpV⟩
          have HST := Lib.hid hst
          replace HB := HB.out.trans (hb3.mono (by omega))
          have hpD : p ≠ w2.heap.size := by omega
          (have hzhb3 := hb3.size; replace da0 := (hb3.cell (p := ⟨_, _, none⟩) (by (try dsimp only) <;> omega)).trans da0; replace da1 := (hb3.cell (p := ⟨_, _, none⟩) (by (try dsimp only) <;> omega)).trans da1; replace da2 := (hb3.cell (p := ⟨_, _, none⟩) (by (try dsimp only) <;> omega)).trans da2; replace da3 := (hb3.cell (p := ⟨_, _, none⟩) (by (try dsimp only) <;> omega)).trans da3; replace da4 := (hb3.cell (p := ⟨_, _, none⟩) (by (try dsimp only) <;> omega)).trans da4; replace da5 := (hb3.cell (p := ⟨_, _, none⟩) (by (try dsimp only) <;> omega)).trans da5; replace dfa := fun j => (hb3.frozen (p := ⟨_, j, none⟩) (by (try dsimp only) <;> omega)).trans (dfa j))
          have hop : u7.ownBlock ≠ some p := fun e => by have := (HOW.out.lt p e).2; omega
          clear hb3 hst
          unfold It.val
          go_upto_region 10 with (fail)
          obtain ⟨x1, hS, hn1, hfar, hfr, hbl, hsz⟩ := set1 w2.heap.size 1 (u := .int .i64 z.op) da1
          rw [← hS]
          clear hS hfr
          replace da1 := hn1
          replace da0 := (hfar w2.heap.size 0 (by omega)).trans da0
          replace da2 := (hfar w2.heap.size 2 (by omega)).trans da2
          replace da3 := (hfar w2.heap.size 3 (by omega)).trans da3
          replace da4 := (hfar w2.heap.size 4 (by omega)).trans da4
          replace da5 := (hfar w2.heap.size 5 (by omega)).trans da5
          replace HST := Lib.hid (HST.out.keep (by omega) (fun j => hfar _ j (.inl hpD)))
          replace HB := HB.trans (hbl _ (by omega))
          clear hn1 hfar hbl
          obtain ⟨x2, hS, hn1, hfar, hfr, hbl, hsz⟩ := set1 w2.heap.size 2 (u := .int .i64 z.num) da2
          rw [← hS]
          clear hS hfr
          replace da2 := hn1
          replace da0 := (hfar w2.heap.size 0 (by omega)).trans da0
          replace da1 := (hfar w2.heap.size 1 (by omega)).trans da1
          replace da3 := (hfar w2.heap.size 3 (by omega)).trans da3
          replace da4 := (hfar w2.heap.size 4 (by omega)).trans da4
          replace da5 := (hfar w2.heap.size 5 (by omega)).trans da5
          replace HST := Lib.hid (HST.out.keep (by omega) (fun j => hfar _ j (.inl hpD)))
          replace HB := HB.trans (hbl _ (by omega))
          clear hn1 hfar hbl
          obtain ⟨x3, hS, hn1, hfar, hfr, hbl, hsz⟩ := set1 w2.heap.size 3 (u := .string z.text) da3
          rw [← hS]
          clear hS hfr
          replace da3 := hn1
          replace da0 := (hfar w2.heap.size 0 (by omega)).trans da0
          replace da1 := (hfar w2.heap.size 1 (by omega)).trans da1
          replace da2 := (hfar w2.heap.size 2 (by omega)).trans da2
          replace da4 := (hfar w2.heap.size 4 (by omega)).trans da4
          replace da5 := (hfar w2.heap.size 5 (by omega)).trans da5
          replace HST := Lib.hid (HST.out.keep (by omega) (fun j => hfar _ j (.inl hpD)))
          replace HB := HB.trans (hbl _ (by omega))
          clear hn1 hfar hbl
          obtain ⟨x4, hS, hn1, hfar, hfr, hbl, hsz⟩ := set1 w2.heap.size 4 (u := .slice z.A z.n z.c) da4
          rw [← hS]
          clear hS hfr
          replace da4 := hn1
          replace da0 := (hfar w2.heap.size 0 (by omega)).trans da0
          replace da1 := (hfar w2.heap.size 1 (by omega)).trans da1
          replace da2 := (hfar w2.heap.size 2 (by omega)).trans da2
          replace da3 := (hfar w2.heap.size 3 (by omega)).trans da3
          replace da5 := (hfar w2.heap.size 5 (by omega)).trans da5
          replace HST := Lib.hid (HST.out.keep (by omega) (fun j => hfar _ j (.inl hpD)))
          replace HB := HB.trans (hbl _ (by omega))
          clear hn1 hfar hbl
          have HDT := Lib.hid (hT.trans ((hb.trans (HB.mono (by omega))).mono (by omega)))
          replace hb := hb.trans (HB.mono (by omega))
          replace HOW := Lib.hid (HOW.out.below HB)
          replace HHL := Lib.hid (HHL.out.below HB)
          have hgx : w2.heap.size < x4.heap.size := by omega
          have hgx1 : w1.heap.size ≤ x4.heap.size := by omega
          go_wp2_with (at_builtin; go_must (
            refine wpl_append1 _ rfl (.tmp 39) (.tmp 41) 33 rfl w1.heap.size 47 _ 80 Try.underlying33 info_dit rfl u7 hits rfl (HOW.out.alloc _) _ ⟨name, z, pts⟩ rfl (fun j u hu => cells_new _ _ _ _ _ (by simp) u hu) (by omega) (by omega) (by rw [alloc_size]; omega) ?_
            intro v2 w5 hown2 hu2
            have hbv2 := hu2.belowBase (HOW.out.alloc _) (hb.alloc hgx1 _) (by rw [alloc_size]; omega)
            have HO2 := Lib.hid hown2
            have HH2 := Lib.hid (((HHL.out.below ((Below.refl _ _).alloc (Nat.le_refl _) _)).snoc (x := ⟨name, z, pts⟩) (d := ⟨name, alw, pts⟩) rfl rfl rfl (HST.out.keep (by rw [alloc_size]; omega) (fun j => ((Below.refl _ _).alloc (Nat.le_refl _) _).cell (p := ⟨p, j, none⟩) HST.out.lt)) hop).upd hu2)
            clear hu2 hown2))
          go_roundw
          case rel => exact ⟨k + 1, hits ++ [⟨name, z, pts⟩], by omega, by go_num, HO2.out, by simp; omega, hbv2, by rw [HN.out]; exact HH2.out⟩
          case measure => simp [intOf]; omega
      · obtain rfl : k = n := by omega
        have hkn : ¬ ((k : Int) < (k : Int)) := by omega
        have HCE := Lib.hid (show chosen v (ds.take k) = chosen v ds by rw [List.take_of_length_le (by have := HDL.out; omega)])
        replace HHL := HHL.out
        rw [HCE.out] at HHL
        have HDH := Lib.hid HHL.dl
        obtain ⟨A7, c7, rfl, hs7⟩ := HOW.out.sl
        have HS7 := Lib.hid hs7
        obtain ⟨z, hz⟩ : ∃ z, z = hits.length := ⟨_, rfl⟩
        rw [← hz] at hol HS7 ⊢
        clear HHL HOW hs7 hz HCE
        (have hzhb := hb.size; replace qa0 := (hb.cell (p := ⟨_, _, none⟩) (by (try dsimp only) <;> omega)).trans qa0; replace qa1 := (hb.cell (p := ⟨_, _, none⟩) (by (try dsimp only) <;> omega)).trans qa1; replace qa2 := (hb.cell (p := ⟨_, _, none⟩) (by (try dsimp only) <;> omega)).trans qa2; replace qa3 := (hb.cell (p := ⟨_, _, none⟩) (by (try dsimp only) <;> omega)).trans qa3; replace qa4 := (hb.cell (p := ⟨_, _, none⟩) (by (try dsimp only) <;> omega)).trans qa4; replace qa5 := (hb.cell (p := ⟨_, _, none⟩) (by (try dsimp only) <;> omega)).trans qa5; replace qa6 := (hb.cell (p := ⟨_, _, none⟩) (by (try dsimp only) <;> omega)).trans qa6; replace qa7 := (hb.cell (p := ⟨_, _, none⟩) (by (try dsimp only) <;> omega)).trans qa7; replace qa8 := (hb.cell (p := ⟨_, _, none⟩) (by (try dsimp only) <;> omega)).trans qa8; replace hT := Below.trans hT (Below.mono hb (by omega)))
        replace H := Lib.hid (H.out.below hb)
        replace HD := Lib.hid (HD.out.below hb)
        clear hb
        go_wp2_with fail
        refine (apply_any v g ds A k c items _ (by omega) H.out HD.out).mono ?_
        rintro r w5 ⟨u1, rfl, ho1, hb5⟩
        (have hzhb5 := hb5.size; replace qa0 := (hb5.cell (p := ⟨_, _, none⟩) (by (try dsimp only) <;> omega)).trans qa0; replace qa1 := (hb5.cell (p := ⟨_, _, none⟩) (by (try dsimp only) <;> omega)).trans qa1; replace qa2 := (hb5.cell (p := ⟨_, _, none⟩) (by (try dsimp only) <;> omega)).trans qa2; replace qa3 := (hb5.cell (p := ⟨_, _, none⟩) (by (try dsimp only) <;> omega)).trans qa3; replace qa4 := (hb5.cell (p := ⟨_, _, none⟩) (by (try dsimp only) <;> omega)).trans qa4; replace qa5 := (hb5.cell (p := ⟨_, _, none⟩) (by (try dsimp only) <;> omega)).trans qa5; replace qa6 := (hb5.cell (p := ⟨_, _, none⟩) (by (try dsimp only) <;> omega)).trans qa6; replace qa7 := (hb5.cell (p := ⟨_, _, none⟩) (by (try dsimp only) <;> omega)).trans qa7; replace qa8 := (hb5.cell (p := ⟨_, _, none⟩) (by (try dsimp only) <;> omega)).trans qa8; replace hT := Below.trans hT (Below.mono hb5 (by omega)))
        replace HS7 := Lib.hid (HS7.out.below hb5)
        replace HDH := Lib.hid (HDH.out.below hb5)
        have hg5 : w.heap.size < w5.heap.size := by omega
        rw [HR.out] at ho1 ⊢
        obtain ⟨A1, c1, rfl, hs1⟩ := ho1.sl
        have HS1 := Lib.hid hs1
        clear ho1 hs1 hb5
        go_wp2_with fail
        refine (apply_any v g (chosen v ds) A7 z c7 hits _ (by omega) HS7.out HDH.out).mono ?_
        rintro r w6 ⟨u2, rfl, ho2, hb6⟩
        replace hT := hT.trans (hb6.mono (by omega))
        have hz6 := hb6.size
        replace HS1 := Lib.hid (HS1.out.below hb6)
        rw [applyE_chosen, HR.out] at ho2 ⊢
        obtain ⟨A2, c2, rfl, hs2⟩ := ho2.sl
        have HS2 := Lib.hid hs2
        clear ho2 hs2 hb6 HS7 HDH
        go_wp2_with fail
        refine (same_any oo oo A1 A2 oo.length c1 oo.length c2 _ HS1.out HS2.out).mono ?_
        rintro r w7 ⟨rfl, hb7⟩
        rw [decide_eq_true rfl]
        replace hT := hT.trans (hb7.mono (by omega))
        have hz7 := hb7.size
        clear hb7
        go_wp2_with fail
        refine (awake_any _).mono ?_
        rintro r w8 ⟨rfl, hb8⟩
        replace hT := hT.trans (hb8.mono (by omega))
        go_wp2_with fail
        go_ret
        exact ⟨rfl, hT⟩
end Dc
end Go.Proofs.Ytdjlfdbdhacmjaa
