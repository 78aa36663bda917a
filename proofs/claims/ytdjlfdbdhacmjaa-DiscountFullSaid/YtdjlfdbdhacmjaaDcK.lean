/-
  Discounts: laws Applies, Sums. No condition.
-/
import Derived.Test.YtdjlfdbdhacmjaaDcI
import Derived.BigQuiet
import Derived.StillTailTactics
import Derived.Lib.Overlaps
import Derived.Deep.DeepCutAuto
import Derived.Deep.RegionWith
import Derived.Laws.Rows
set_option maxRecDepth 100000
set_option linter.unusedVariables false
set_option linter.unusedSimpArgs false
namespace Go.Proofs.Ytdjlfdbdhacmjaa
open Go.RowKit

namespace Dc
open Xp
set_option maxHeartbeats 8000000 in
theorem law_applies (v : Env) (g : Int) (ds : List Dsc) (A : Option Addr) (n c : Nat) (items : List Dit) (w : World) (h : Sl w A n c items) (hd : Dl w ds items) :
    Calls Try.prog 4 #[.slice A n c, v.val, .int .i64 g] w fun r w' => r = .returned (.bool true) ∧ Below w.heap.size w w' := by
  have hn := h.nmax
  have hlen := h.len
  have H := Lib.hid h
  have HD := Lib.hid hd
  clear h hd
  obtain ⟨R, hR⟩ : ∃ R, applyE v g ds = R := ⟨_, rfl⟩
  have HR := Lib.hid hR
  clear hR
  unfold Env.val
  go_enter Try.func4, Try.ntmps4
  go_upto_region 1 with (fail)
  (obtain ⟨W, hWW, hbW, hzW, f1W, qfa⟩ := box1 w #[.int .i64 v.kind, .int .i64 v.units, .int .i64 v.weekday, .int .i64 v.minute, .int .i64 v.total, .int .i64 v.spent, .string v.zone, .string v.band, .bool v.family] 29; rw [← hWW]; have qa0 : W.cell? ⟨w.heap.size, 0, none⟩ = some (.int .i64 v.kind) := f1W 0 _ rfl; have qa1 : W.cell? ⟨w.heap.size, 1, none⟩ = some (.int .i64 v.units) := f1W 1 _ rfl; have qa2 : W.cell? ⟨w.heap.size, 2, none⟩ = some (.int .i64 v.weekday) := f1W 2 _ rfl; have qa3 : W.cell? ⟨w.heap.size, 3, none⟩ = some (.int .i64 v.minute) := f1W 3 _ rfl; have qa4 : W.cell? ⟨w.heap.size, 4, none⟩ = some (.int .i64 v.total) := f1W 4 _ rfl; have qa5 : W.cell? ⟨w.heap.size, 5, none⟩ = some (.int .i64 v.spent) := f1W 5 _ rfl; have qa6 : W.cell? ⟨w.heap.size, 6, none⟩ = some (.string v.zone) := f1W 6 _ rfl; have qa7 : W.cell? ⟨w.heap.size, 7, none⟩ = some (.string v.band) := f1W 7 _ rfl; have qa8 : W.cell? ⟨w.heap.size, 8, none⟩ = some (.bool v.family) := f1W 8 _ rfl; clear hWW f1W)
  have hT := hbW
  have hg0 : w.heap.size < W.heap.size := hzW
  replace H := Lib.hid (H.out.below hbW)
  replace HD := Lib.hid (HD.out.below hbW)
  go_wp2_with fail
  refine (dsmall_any ds A n c items _ H.out HD.out).mono ?_
  rintro r w1 ⟨m, rfl, hm, hb1⟩
  (have hzhb1 := hb1.size; replace qa0 := (hb1.cell (p := ⟨_, _, none⟩) (by (try dsimp only) <;> omega)).trans qa0; replace qa1 := (hb1.cell (p := ⟨_, _, none⟩) (by (try dsimp only) <;> omega)).trans qa1; replace qa2 := (hb1.cell (p := ⟨_, _, none⟩) (by (try dsimp only) <;> omega)).trans qa2; replace qa3 := (hb1.cell (p := ⟨_, _, none⟩) (by (try dsimp only) <;> omega)).trans qa3; replace qa4 := (hb1.cell (p := ⟨_, _, none⟩) (by (try dsimp only) <;> omega)).trans qa4; replace qa5 := (hb1.cell (p := ⟨_, _, none⟩) (by (try dsimp only) <;> omega)).trans qa5; replace qa6 := (hb1.cell (p := ⟨_, _, none⟩) (by (try dsimp only) <;> omega)).trans qa6; replace qa7 := (hb1.cell (p := ⟨_, _, none⟩) (by (try dsimp only) <;> omega)).trans qa7; replace qa8 := (hb1.cell (p := ⟨_, _, none⟩) (by (try dsimp only) <;> omega)).trans qa8; replace hT := Below.trans hT (Below.mono hb1 (by omega)))
  replace H := Lib.hid (H.out.below hb1)
  replace HD := Lib.hid (HD.out.below hb1)
  have hg1 : w.heap.size < w1.heap.size := by omega
  clear hb1
  cases m
  · go_wp2_with fail
    refine (awake_any _).mono ?_
    rintro r w2 ⟨rfl, hb2⟩
    replace hT := hT.trans (hb2.mono (by omega))
    go_wp2_with fail
    go_ret
    exact ⟨rfl, hT⟩
  · have hn20 : n ≤ 20 := hm rfl
    clear hm
    obtain ⟨o, l, e⟩ := R
    have q1 : (l == l) = true := by simp
    have q2 : (e == e) = true := by simp
    go_wp2_with fail
    refine (apply_any v g ds A n c items _ (by omega) H.out HD.out).mono ?_
    rintro r w2 ⟨u1, rfl, ho1, hb2⟩
    (have hzhb2 := hb2.size; replace qa0 := (hb2.cell (p := ⟨_, _, none⟩) (by (try dsimp only) <;> omega)).trans qa0; replace qa1 := (hb2.cell (p := ⟨_, _, none⟩) (by (try dsimp only) <;> omega)).trans qa1; replace qa2 := (hb2.cell (p := ⟨_, _, none⟩) (by (try dsimp only) <;> omega)).trans qa2; replace qa3 := (hb2.cell (p := ⟨_, _, none⟩) (by (try dsimp only) <;> omega)).trans qa3; replace qa4 := (hb2.cell (p := ⟨_, _, none⟩) (by (try dsimp only) <;> omega)).trans qa4; replace qa5 := (hb2.cell (p := ⟨_, _, none⟩) (by (try dsimp only) <;> omega)).trans qa5; replace qa6 := (hb2.cell (p := ⟨_, _, none⟩) (by (try dsimp only) <;> omega)).trans qa6; replace qa7 := (hb2.cell (p := ⟨_, _, none⟩) (by (try dsimp only) <;> omega)).trans qa7; replace qa8 := (hb2.cell (p := ⟨_, _, none⟩) (by (try dsimp only) <;> omega)).trans qa8; replace hT := Below.trans hT (Below.mono hb2 (by omega)))
    replace H := Lib.hid (H.out.below hb2)
    replace HD := Lib.hid (HD.out.below hb2)
    have hg2 : w.heap.size < w2.heap.size := by omega
    rw [HR.out] at ho1 ⊢
    obtain ⟨A1, c1, rfl, hs1⟩ := ho1.sl
    have HS1 := Lib.hid hs1
    clear ho1 hs1 hb2
    go_wp2_with fail
    refine (refapply_any v g ds A n c items _ (by omega) H.out HD.out).mono ?_
    rintro r w3 ⟨u2, rfl, ho2, hb3⟩
    (have hzhb3 := hb3.size; replace qa0 := (hb3.cell (p := ⟨_, _, none⟩) (by (try dsimp only) <;> omega)).trans qa0; replace qa1 := (hb3.cell (p := ⟨_, _, none⟩) (by (try dsimp only) <;> omega)).trans qa1; replace qa2 := (hb3.cell (p := ⟨_, _, none⟩) (by (try dsimp only) <;> omega)).trans qa2; replace qa3 := (hb3.cell (p := ⟨_, _, none⟩) (by (try dsimp only) <;> omega)).trans qa3; replace qa4 := (hb3.cell (p := ⟨_, _, none⟩) (by (try dsimp only) <;> omega)).trans qa4; replace qa5 := (hb3.cell (p := ⟨_, _, none⟩) (by (try dsimp only) <;> omega)).trans qa5; replace qa6 := (hb3.cell (p := ⟨_, _, none⟩) (by (try dsimp only) <;> omega)).trans qa6; replace qa7 := (hb3.cell (p := ⟨_, _, none⟩) (by (try dsimp only) <;> omega)).trans qa7; replace qa8 := (hb3.cell (p := ⟨_, _, none⟩) (by (try dsimp only) <;> omega)).trans qa8; replace hT := Below.trans hT (Below.mono hb3 (by omega)))
    replace H := Lib.hid (H.out.below hb3)
    replace HD := Lib.hid (HD.out.below hb3)
    have hg3 : w.heap.size < w3.heap.size := by omega
    rw [HR.out] at ho2 ⊢
    obtain ⟨A2, c2, rfl, hs2⟩ := ho2.sl
    have HS2 := Lib.hid hs2
    replace HS1 := Lib.hid (HS1.out.below hb3)
    clear ho2 hs2 hb3
    go_wp2_with fail
    refine (same_any o o A1 A2 o.length c1 o.length c2 _ HS1.out HS2.out).mono ?_
    rintro r w4 ⟨rfl, hb4⟩
    rw [decide_eq_true rfl]
    replace hT := hT.trans (hb4.mono (by omega))
    have hz4 := hb4.size
    clear hb4
    go_wp2_with fail
    refine (awake_any _).mono ?_
    rintro r w5 ⟨rfl, hb5⟩
    replace hT := hT.trans (hb5.mono (by omega))
    go_wp2_with fail
    go_ret
    exact ⟨rfl, hT⟩
/-- what is given is above 0, and adds up -/
def sumG : List Giv → Int
  | [] => 0
  | x :: l => x.amt + sumG l
theorem sumG_append (a b : List Giv) : sumG (a ++ b) = sumG a + sumG b := by
  induction a with
  | nil => simp [sumG]
  | cons x a ih => simp [sumG, ih]; omega
theorem applyF_spec (v : Env) : ∀ (ds : List Dsc) (out : List Giv) (g : Int), 0 ≤ g → (∀ x ∈ out, 0 < x.amt) →
    (applyF v out g ds).2.2 = 0 ∧ 0 ≤ (applyF v out g ds).2.1 ∧ (applyF v out g ds).2.1 + sumG (applyF v out g ds).1 = g + sumG out ∧ (∀ x ∈ (applyF v out g ds).1, 0 < x.amt) ∧ (applyF v out g ds).1.length ≤ out.length + ds.length ∨ applyF v out g ds = ([], 0, 6)
  | [], out, g, hg, ho => .inl ⟨rfl, hg, rfl, ho, by simp [applyF]⟩
  | d :: ds, out, g, hg, ho => by
    unfold applyF
    split
    · rcases applyF_spec v ds out g hg ho with h | h
      · exact .inl ⟨h.1, h.2.1, h.2.2.1, h.2.2.2.1, by have := h.2.2.2.2; simp; omega⟩
      · exact .inr h
    · split
      · exact .inr rfl
      · rename_i hp
        have hb := pct_bd (a := g) (p := d.pts) hg ⟨by omega, by omega⟩
        split
        · rename_i h0
          rw [h0, Int.sub_zero]
          rcases applyF_spec v ds out g hg ho with h | h
          · exact .inl ⟨h.1, h.2.1, h.2.2.1, h.2.2.2.1, by have := h.2.2.2.2; simp; omega⟩
          · exact .inr h
        · rename_i h0
          rcases applyF_spec v ds (out ++ [⟨d.name, pct g d.pts⟩]) (g - pct g d.pts) (by omega) (fun x hx => by
            rcases List.mem_append.1 hx with h | h
            · exact ho x h
            · simp at h
              subst h
              show 0 < pct g d.pts
              omega) with h | h
          · refine .inl ⟨h.1, h.2.1, ?_, h.2.2.2.1, by have := h.2.2.2.2; simp at this ⊢; omega⟩
            have := h.2.2.1
            rw [sumG_append] at this
            simp only [sumG] at this
            omega
          · exact .inr h
theorem applyE_spec (v : Env) (g : Int) (ds : List Dsc) :
    ((applyE v g ds).2.2 = 0 ∧ 0 ≤ (applyE v g ds).2.1 ∧ (applyE v g ds).2.1 + sumG (applyE v g ds).1 = g ∧ (∀ x ∈ (applyE v g ds).1, 0 < x.amt) ∧ (applyE v g ds).1.length ≤ ds.length ∧ 0 ≤ g ∧ g ≤ 1125899906842624) ∨ applyE v g ds = ([], 0, 6) := by
  unfold applyE
  split
  · exact .inr rfl
  · rename_i hg
    rcases applyF_spec v ds [] g (by omega) (by simp) with h | h
    · exact .inl ⟨h.1, h.2.1, by have := h.2.2.1; simp only [sumG] at this; omega, h.2.2.2.1, by have := h.2.2.2.2; simp at this; omega, by omega, by omega⟩
    · exact .inr h
theorem sumG_take {l : List Giv} {k : Nat} {x : Giv} (h : l[k]? = some x) : sumG (l.take (k + 1)) = sumG (l.take k) + x.amt := by
  rw [List.take_add_one, sumG_append, h]
  simp [sumG]
theorem sumG_nonneg : ∀ {l : List Giv}, (∀ x ∈ l, 0 < x.amt) → 0 ≤ sumG l
  | [], _ => Int.le_refl _
  | x :: l, h => by
    have h1 := h x (by simp)
    have h2 := sumG_nonneg (l := l) fun y hy => h y (by simp [hy])
    simp only [sumG]
    omega
theorem sumG_take_le {l : List Giv} (h : ∀ x ∈ l, 0 < x.amt) (k : Nat) : 0 ≤ sumG (l.take k) ∧ sumG (l.take k) ≤ sumG l := by
  have h1 := sumG_append (l.take k) (l.drop k)
  rw [List.take_append_drop] at h1
  have h2 := sumG_nonneg (l := l.drop k) fun y hy => h y (List.mem_of_mem_drop hy)
  have h3 := sumG_nonneg (l := l.take k) fun y hy => h y (List.mem_of_mem_take hy)
  omega
set_option maxHeartbeats 8000000 in
theorem law_sums (v : Env) (g : Int) (ds : List Dsc) (A : Option Addr) (n c : Nat) (items : List Dit) (w : World) (h : Sl w A n c items) (hd : Dl w ds items) :
    Calls Try.prog 5 #[.slice A n c, v.val, .int .i64 g] w fun r w' => r = .returned (.bool true) ∧ Below w.heap.size w w' := by
  have hn := h.nmax
  have hlen := h.len
  have H := Lib.hid h
  have HD := Lib.hid hd
  clear h hd
  obtain ⟨R, hR⟩ : ∃ R, applyE v g ds = R := ⟨_, rfl⟩
  have HR := Lib.hid hR
  clear hR
  unfold Env.val
  go_enter Try.func5, Try.ntmps5
  go_upto_region 1 with (fail)
  (obtain ⟨W, hWW, hbW, hzW, f1W, qfa⟩ := box1 w #[.int .i64 v.kind, .int .i64 v.units, .int .i64 v.weekday, .int .i64 v.minute, .int .i64 v.total, .int .i64 v.spent, .string v.zone, .string v.band, .bool v.family] 29; rw [← hWW]; have qa0 : W.cell? ⟨w.heap.size, 0, none⟩ = some (.int .i64 v.kind) := f1W 0 _ rfl; have qa1 : W.cell? ⟨w.heap.size, 1, none⟩ = some (.int .i64 v.units) := f1W 1 _ rfl; have qa2 : W.cell? ⟨w.heap.size, 2, none⟩ = some (.int .i64 v.weekday) := f1W 2 _ rfl; have qa3 : W.cell? ⟨w.heap.size, 3, none⟩ = some (.int .i64 v.minute) := f1W 3 _ rfl; have qa4 : W.cell? ⟨w.heap.size, 4, none⟩ = some (.int .i64 v.total) := f1W 4 _ rfl; have qa5 : W.cell? ⟨w.heap.size, 5, none⟩ = some (.int .i64 v.spent) := f1W 5 _ rfl; have qa6 : W.cell? ⟨w.heap.size, 6, none⟩ = some (.string v.zone) := f1W 6 _ rfl; have qa7 : W.cell? ⟨w.heap.size, 7, none⟩ = some (.string v.band) := f1W 7 _ rfl; have qa8 : W.cell? ⟨w.heap.size, 8, none⟩ = some (.bool v.family) := f1W 8 _ rfl; clear hWW f1W)
  have hT := hbW
  have hg0 : w.heap.size < W.heap.size := hzW
  replace H := Lib.hid (H.out.below hbW)
  replace HD := Lib.hid (HD.out.below hbW)
  go_wp2_with fail
  refine (dsmall_any ds A n c items _ H.out HD.out).mono ?_
  rintro r w1 ⟨m, rfl, hm, hb1⟩
  (have hzhb1 := hb1.size; replace qa0 := (hb1.cell (p := ⟨_, _, none⟩) (by (try dsimp only) <;> omega)).trans qa0; replace qa1 := (hb1.cell (p := ⟨_, _, none⟩) (by (try dsimp only) <;> omega)).trans qa1; replace qa2 := (hb1.cell (p := ⟨_, _, none⟩) (by (try dsimp only) <;> omega)).trans qa2; replace qa3 := (hb1.cell (p := ⟨_, _, none⟩) (by (try dsimp only) <;> omega)).trans qa3; replace qa4 := (hb1.cell (p := ⟨_, _, none⟩) (by (try dsimp only) <;> omega)).trans qa4; replace qa5 := (hb1.cell (p := ⟨_, _, none⟩) (by (try dsimp only) <;> omega)).trans qa5; replace qa6 := (hb1.cell (p := ⟨_, _, none⟩) (by (try dsimp only) <;> omega)).trans qa6; replace qa7 := (hb1.cell (p := ⟨_, _, none⟩) (by (try dsimp only) <;> omega)).trans qa7; replace qa8 := (hb1.cell (p := ⟨_, _, none⟩) (by (try dsimp only) <;> omega)).trans qa8; replace hT := Below.trans hT (Below.mono hb1 (by omega)))
  replace H := Lib.hid (H.out.below hb1)
  replace HD := Lib.hid (HD.out.below hb1)
  have hg1 : w.heap.size < w1.heap.size := by omega
  clear hb1
  cases m
  · go_wp2_with fail
    refine (awake_any _).mono ?_
    rintro r w2 ⟨rfl, hb2⟩
    replace hT := hT.trans (hb2.mono (by omega))
    go_wp2_with fail
    go_ret
    exact ⟨rfl, hT⟩
  · have hn20 : n ≤ 20 := hm rfl
    clear hm
    go_wp2_with fail
    refine (apply_any v g ds A n c items _ (by omega) H.out HD.out).mono ?_
    rintro r w2 ⟨u1, rfl, ho1, hb2⟩
    (have hzhb2 := hb2.size; replace qa0 := (hb2.cell (p := ⟨_, _, none⟩) (by (try dsimp only) <;> omega)).trans qa0; replace qa1 := (hb2.cell (p := ⟨_, _, none⟩) (by (try dsimp only) <;> omega)).trans qa1; replace qa2 := (hb2.cell (p := ⟨_, _, none⟩) (by (try dsimp only) <;> omega)).trans qa2; replace qa3 := (hb2.cell (p := ⟨_, _, none⟩) (by (try dsimp only) <;> omega)).trans qa3; replace qa4 := (hb2.cell (p := ⟨_, _, none⟩) (by (try dsimp only) <;> omega)).trans qa4; replace qa5 := (hb2.cell (p := ⟨_, _, none⟩) (by (try dsimp only) <;> omega)).trans qa5; replace qa6 := (hb2.cell (p := ⟨_, _, none⟩) (by (try dsimp only) <;> omega)).trans qa6; replace qa7 := (hb2.cell (p := ⟨_, _, none⟩) (by (try dsimp only) <;> omega)).trans qa7; replace qa8 := (hb2.cell (p := ⟨_, _, none⟩) (by (try dsimp only) <;> omega)).trans qa8; replace hT := Below.trans hT (Below.mono hb2 (by omega)))
    replace H := Lib.hid (H.out.below hb2)
    replace HD := Lib.hid (HD.out.below hb2)
    have hg2 : w.heap.size < w2.heap.size := by omega
    rw [HR.out] at ho1 ⊢
    obtain ⟨A1, c1, rfl, hs1⟩ := ho1.sl
    have HS1 := Lib.hid hs1
    clear ho1 hs1 hb2
    have hsp := applyE_spec v g ds
    rw [HR.out] at hsp
    obtain ⟨o, l, e⟩ := R
    have hdl : ds.length = n := by rw [← HD.out.1]; exact hlen
    dsimp only at hsp HS1 ⊢
    rcases hsp with ⟨he, hl0, hsum, hpos, hlo, hgr0, hgr1⟩ | he
    · subst he
      have HP := Lib.hid hpos
      have HM := Lib.hid hsum
      have hsl := sumG_nonneg hpos
      have hlg : l ≤ g := by omega
      rw [hdl] at hlo
      clear hpos hsum hdl hsl
      obtain ⟨z, hz⟩ : ∃ z, z = o.length := ⟨_, rfl⟩
      rw [← hz] at hlo HS1 ⊢
      have HZ := Lib.hid hz
      clear hz
      go_wp2_with fail
      go_loopw [10, 11] (fun s i wr => ∃ k : Nat, k ≤ z ∧ i = .int .i64 k ∧ s = .int .i64 (l + sumG (o.take k)) ∧ Below w2.heap.size w2 wr) (fun _ i _ => z - (intOf i).toNat)
      case atStart => exact ⟨0, Nat.zero_le _, rfl, by simp [sumG], Below.refl _ _⟩
      case round =>
        obtain ⟨k, hk, rfl, rfl, hb⟩ := hrel
        have hzb := hb.size
        obtain ⟨s, hs⟩ : ∃ s, l + sumG (o.take k) = s := ⟨_, rfl⟩
        have hsb := sumG_take_le HP.out k
        have hm1 := HM.out
        have hs0 : 0 ≤ s ∧ s ≤ 1125899906842624 := by omega
        rw [hs]
        have HSS := Lib.hid hs
        clear hs hsb hm1
        obtain ⟨hs1, hs2⟩ := hs0
        by_cases hlt : k < z
        · obtain ⟨b, off, rfl, hbl, hcells⟩ := HS1.out.baseIn hb (by omega)
          obtain ⟨x, hx⟩ := HS1.out.get hlt
          have ma0 : wr.cell? ⟨b, off + k * 2, none⟩ = some (.string x.name) := Sl.at_ hcells hx 0 rfl
          have ma1 : wr.cell? ⟨b, off + k * 2 + 1, none⟩ = some (.int .i64 x.amt) := Sl.at_ hcells hx 1 rfl
          have hx0 := HP.out x (List.mem_of_getElem? hx)
          have hx1 : ¬ x.amt ≤ 0 := by omega
          have hst := sumG_take hx
          have hsb := sumG_take_le HP.out (k + 1)
          have hm1 := HM.out
          have hs9 := HSS.out
          have hsx : 0 ≤ s + x.amt ∧ s + x.amt ≤ 1125899906842624 := by omega
          obtain ⟨hsx1, hsx2⟩ := hsx
          have HN := Lib.hid (show s + x.amt = l + sumG (o.take (k + 1)) by omega)
          have hws : IntKind.i64.wrap (s + x.amt) = s + x.amt := IntWalk.i64_in _ (by omega)
          clear hst hsb hm1 hs9 hx hcells
          go_wp2_with fail
          go_roundw
          case rel => exact ⟨k + 1, by omega, by go_num, by rw [HN.out], hb⟩
          case measure => simp [intOf]; omega
        · obtain rfl : k = z := by omega
          have hkn : ¬ ((k : Int) < (k : Int)) := by omega
          have hsg : s = g := by
            have h1 := HSS.out
            rw [List.take_of_length_le (by rw [← HZ.out]; omega)] at h1
            have := HM.out
            omega
          subst hsg
          have hlo2 : (k : Int) ≤ (n : Int) := by omega
          have hsq : (s == s) = true := by simp
          replace hT := hT.trans (hb.mono (by omega))
          clear hlo
          go_wp2_with fail
          refine (awake_any _).mono ?_
          rintro r w5 ⟨rfl, hb5⟩
          replace hT := hT.trans (hb5.mono (by omega))
          go_wp2_with fail
          go_ret
          exact ⟨rfl, hT⟩
    · cases he
      go_wp2_with fail
      refine (awake_any _).mono ?_
      rintro r w5 ⟨rfl, hb5⟩
      replace hT := hT.trans (hb5.mono (by omega))
      go_wp2_with fail
      go_ret
      exact ⟨rfl, hT⟩
end Dc
end Go.Proofs.Ytdjlfdbdhacmjaa
