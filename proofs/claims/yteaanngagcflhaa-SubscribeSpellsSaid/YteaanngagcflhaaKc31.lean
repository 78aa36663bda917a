/-
  Customers: the arguments of the laws, opened. No condition.
-/
import Derived.Test.YteaanngagcflhaaKc17
import Derived.Test.YteaanngagcflhaaKc30
import Derived.Test.YteaanngagcflhaaKc28
import Derived.BigQuiet
import Derived.StillTailTactics
import Derived.Lib.Overlaps
import Derived.Deep.DeepCutAuto
import Derived.Deep.RegionWith
import Derived.Laws.RangeAny
import Derived.Test.YteaanngagcflhaaChecked
import Derived.Test.YteaanngagcflhaaRows
import Derived.JoinedOf
set_option maxRecDepth 100000
set_option linter.unusedVariables false
set_option linter.unusedSimpArgs false
namespace Go.Proofs.Yteaanngagcflhaa
open Go.RowKit
open Go.ChangeShapes Go.WideShapes Go.ChangeAt
section
variable {H : Type} {enc : TypeId × Value → H} {P : Program} {w : World} {base : Nat} {spare : Nat → Bool} {held : Bool}
theorem open_flatK {α : Type} [Flat α] (K : α → Prop) {t e : TypeId} {v : Value} {d : DataW H} {p : List MemPlace} {r : Reach} {b0 : Nat} (ht : P.underlying t = some (.slice e)) (hC : P.cellsOf e = Flat.sz α)
    (hread : ∀ (n : Nat) (cs : List Value) (y : DataW H × List MemPlace), cs.length = Flat.sz α → DataW.trod enc P w base spare held n e cs = some y → ∃ x : α, cs = Flat.cells x ∧ K x)
    (hv : Value.okWide P w r b0 t v) (h : DataW.Trod enc P w base spare held t v d p) : ∃ (A : Option Addr) (n c : Nat) (xs : List α), v = .slice A n c ∧ (A = none → c = 0) ∧ Sl w A n c xs ∧ ∀ x ∈ xs, K x := by
  obtain ⟨a0, n0, c0, rfl⟩ := okWide_slice ht hv
  obtain ⟨fuel, hf⟩ := h
  rcases Go.Deep.open_slice ht hf with ⟨h0, _⟩ | ⟨a, len, cap, m, n, D, Pl, hcs, hb, hl, hm, hmm, hx, hi⟩
  · simp [Value.cells] at h0
    obtain ⟨rfl, rfl, rfl⟩ := h0
    exact ⟨none, 0, 0, [], rfl, fun _ => rfl, Sl.nil_ _, fun x hx => by cases hx⟩
  · simp [Value.cells] at hcs
    obtain ⟨rfl, rfl, rfl⟩ := hcs
    have hlm : n0 ≤ m := by rw [hmm]; split <;> omega
    have key : ∀ i, i < n0 → ∃ x : α, (∀ j u, (Flat.cells x)[j]? = some u → w.cell? (a.add (i * Flat.sz α + j)) = some u) ∧ K x := by
      intro i hin
      obtain ⟨cs', hc, ht'⟩ := hi i (by omega)
      rw [hC] at hc
      obtain ⟨_, hcl, hat⟩ := World.cells?_some hc
      obtain ⟨x, hx, hK⟩ := hread _ _ _ hcl ht'
      refine ⟨x, fun j u hu => ?_, hK⟩
      have hj : j < Flat.sz α := by rw [← Flat.len x]; exact (List.getElem?_eq_some_iff.1 hu).1
      have h1 := hat j hj
      rw [Go.Deep.add_add, hx, hu] at h1
      exact h1
    by_cases hn : n0 = 0
    · subst hn
      exact ⟨some a, 0, c0, [], rfl, fun h => (by cases h), ⟨rfl, by omega, hm, fun h => absurd h (by omega)⟩, fun x hx => by cases hx⟩
    · have h0 : ∃ u, w.cell? a = some u := by
        obtain ⟨x, hx, _⟩ := key 0 (by omega)
        have hp := Flat.pos (α := α)
        have hl0 := Flat.len x
        have h1 := hx 0 _ (List.getElem?_eq_getElem (show 0 < (Flat.cells x).length by omega))
        exact ⟨(Flat.cells x)[0]'(by omega), by simpa [Addr.add] using h1⟩
      obtain ⟨u0, h0⟩ := h0
      have hsp := World.cell?_spot h0
      have hbl := lt_of_cell h0
      obtain ⟨b, off, spot⟩ := a
      dsimp only at hsp hbl
      subst hsp
      refine ⟨some ⟨b, off, none⟩, n0, c0, List.ofFn (fun i : Fin n0 => Classical.choose (key i.1 i.2)), rfl, fun h => (by cases h), ⟨by simp, hl, hm, fun _ => ⟨b, off, rfl, hbl, fun i x hx j u hu => ?_⟩⟩, ?_⟩
      · rw [List.getElem?_ofFn] at hx
        split at hx
        · rename_i hin
          cases hx
          have h1 := (Classical.choose_spec (key i hin)).1 j u hu
          rw [add_mk] at h1
          rw [Nat.add_assoc]
          exact h1
        · cases hx
      · intro x hx
        obtain ⟨i, rfl⟩ := List.mem_ofFn.1 hx
        exact (Classical.choose_spec (key i.1 i.2)).2
end
namespace Cu
def evOk (e : Ev) : Prop := e.num.size ≤ maxLen ∧ e.name.size ≤ maxLen
section
variable {H : Type} {enc : TypeId × Value → H} {w : World} {base : Nat} {spare : Nat → Bool} {held : Bool}
theorem ev_read (n : Nat) (cs : List Value) (y : DataW H × List MemPlace) (hl : cs.length = Flat.sz Ev)
    (h : DataW.trod enc Try.prog w base spare held n 36 cs = some y) : ∃ x : Ev, cs = Flat.cells x ∧ evOk x := by
  have h7 : cs.length = 7 := hl
  obtain ⟨a0, h0, _⟩ := sub_int Try.underlying36 h (i := 0) rfl (o := 0) rfl (by kernel_rfl) (by omega) Try.underlying3
  obtain ⟨a1, h1, _⟩ := sub_int Try.underlying36 h (i := 1) rfl (o := 1) rfl (by kernel_rfl) (by omega) Try.underlying3
  obtain ⟨a2, h2, _⟩ := sub_int Try.underlying36 h (i := 2) rfl (o := 2) rfl (by kernel_rfl) (by omega) Try.underlying3
  obtain ⟨a3, h3, _⟩ := sub_int Try.underlying36 h (i := 3) rfl (o := 3) rfl (by kernel_rfl) (by omega) Try.underlying3
  obtain ⟨a4, h4, k4⟩ := sub_str Try.underlying36 h (i := 4) rfl (o := 4) rfl (by kernel_rfl) (by omega) Try.underlying9
  obtain ⟨a5, h5, k5⟩ := sub_str Try.underlying36 h (i := 5) rfl (o := 5) rfl (by kernel_rfl) (by omega) Try.underlying9
  obtain ⟨a6, h6, _⟩ := sub_int Try.underlying36 h (i := 6) rfl (o := 6) rfl (by kernel_rfl) (by omega) Try.underlying3
  refine ⟨⟨a0, a1, a2, a3, a4, a5, a6⟩, ?_, k4, k5⟩
  match cs, h7 with
  | [_, _, _, _, _, _, _], _ =>
    cases h0; cases h1; cases h2; cases h3; cases h4; cases h5; cases h6
    rfl
theorem open_evs {v : Value} {d : DataW H} {p : List MemPlace} {r : Reach} {b0 : Nat} (hv : Value.okWide Try.prog w r b0 22 v) (h : DataW.Trod enc Try.prog w base spare held 22 v d p) :
    ∃ (A : Option Addr) (n c : Nat) (l : List Ev), v = .slice A n c ∧ (A = none → c = 0) ∧ Sl w A n c l ∧ SzOk l :=
  open_flatK evOk Try.underlying22 (by kernel_rfl) ev_read hv h
end
end Cu
end Go.Proofs.Yteaanngagcflhaa
namespace Go.Proofs.Yteaanngagcflhaa
open Go.RowKit
namespace Ss
open Cu
set_option maxHeartbeats 16000000 in
theorem law_parts (A : Option Addr) (n c : Nat) (l : List Ev) (x : Int) (w : World) (hs : Sl w A n c l) (hz : SzOk l) :
    Calls Try.prog 19 #[.slice A n c, .int .i64 x] w fun r w' => r = .returned (.bool true) ∧ Below w.heap.size w w' := by
  have HS := Lib.hid hs
  have HZ := Lib.hid hz
  clear hs hz
  go_enter Try.func19, Try.ntmps19
  cases hvl : vlB l
  · have HVB := Lib.hid hvl
    clear hvl
    go_wp2_with (first
      | (go_at_call 25; go_must (refine (rValid_any A n c l _ HS.out HZ.out).mono ?_; rintro r w1 ⟨rfl, hb1⟩; rw [HVB.out]))
      | (go_at_call 51; go_must (refine (awake20_any _).mono ?_; rintro r w2 ⟨rfl, hb2⟩)))
    go_ret
    exact ⟨rfl, (hb1.trans (hb2.mono hb1.size))⟩
  have HVB := Lib.hid hvl
  have HV := Lib.hid (vlB_true hvl)
  have h1000 : n ≤ 1000 := by have := HS.out.len; have := HV.out.1; omega
  clear hvl
  go_upto_region 3 with (go_at_call 25; go_must (refine (rValid_any A n c l _ HS.out HZ.out).mono ?_; rintro r w1 ⟨rfl, hb1⟩; rw [HVB.out]))
  replace HS := Lib.hid (HS.out.below hb1)
  go_upto_region 4 with (go_at_call 55; go_must (refine (Spells_any A n c l x _ HS.out h1000).mono ?_; rintro r w2 ⟨⟨A2, n2, c2, rfl, h2⟩, hb2⟩; have H2 := Lib.hid h2; clear h2))
  replace HS := Lib.hid (HS.out.below hb2)
  have hbw2 := hb1.trans (hb2.mono hb1.size)
  obtain ⟨_, xs, hxs, hall⟩ := H2.out
  have HX := Lib.hid hxs
  have HA := Lib.hid hall
  have HXL := Lib.hid hxs.len
  have hn2 : n2 ≤ 1000 := by have := hall.1; have := hxs.len; have := spE_len (l := l) (x := x); have := HS.out.len; omega
  have HGOOD : Hid (∀ d ∈ spE l x, 0 ≤ d.from_ ∧ d.from_ < d.to_ ∧ d.to_ ≤ 12622780800) := Lib.hid fun d h => spE_good HV.out h
  have HNEXT : Hid (∀ (k : Nat) (u v : Iv Q), (spE l x)[k]? = some u → (spE l x)[k + 1]? = some v → u.to_ = v.from_ ∧ u.q ≠ v.q) := Lib.hid fun k u v hu hv => sp_next HV.out hu hv
  have HFIRST : Hid (∀ d, (spE l x)[0]? = some d → ∃ s, liveS (bkAt l d.from_) x = some s ∧ s.since = d.from_) := Lib.hid fun d h => sp_since HV.out h
  have HLATE : Hid (∀ d, (spE l x)[n2 - 1]? = some d → ((cSubs (bkAt l d.to_)).find? (fun y => y.id == x)).isSome = decide (d.to_ = 12622780800)) := Lib.hid fun d h => sp_late HV.out (by rw [List.getLast?_eq_getElem?, ← hall.1, hxs.len]; exact h)
  obtain ⟨SP, hSP⟩ : ∃ SP, spE l x = SP := ⟨_, rfl⟩
  rw [hSP] at HA HGOOD HNEXT HFIRST HLATE
  clear hxs hall hSP H2 hb1 hb2
  go_wp2_with fail
  go_loopw [6] (fun i wr => ∃ k : Nat, k ≤ n2 ∧ i = .int .i64 k ∧ Below w2.heap.size w2 wr) (fun i _ => n2 - (intOf i).toNat)
  case atStart => exact ⟨0, Nat.zero_le _, rfl, Below.refl _ _⟩
  case round =>
    obtain ⟨k, hk, rfl, hbr⟩ := hrel
    have hgr := hbr.size
    by_cases hlt : k < n2
    · obtain ⟨g, off, hAe, hbl, hcells⟩ := HX.out.baseIn hbr (by omega)
      obtain ⟨v, hv⟩ := HX.out.get hlt
      obtain ⟨d, hd, hlr⟩ := HA.out.at_ hv
      have hblr := Nat.lt_of_lt_of_le hbl hgr
      obtain ⟨g1, g2, g3⟩ := HGOOD.out d (List.mem_of_getElem? hd)
      rw [← hlr.f] at g1 g2
      rw [← hlr.t] at g2 g3
      have e0 : wr.cell? ⟨g, off + k * 6, none⟩ = some (.int .i64 v.f) := Sl.at_ hcells hv 0 rfl
      have e1 : wr.cell? ⟨g, off + k * 6 + 1, none⟩ = some (.int .i64 v.t) := Sl.at_ hcells hv 1 rfl
      have e2 : wr.cell? ⟨g, off + k * 6 + 2, none⟩ = some (.string v.plan) := Sl.at_ hcells hv 2 rfl
      have e3 : wr.cell? ⟨g, off + k * 6 + 3, none⟩ = some (.slice v.A v.n v.c) := Sl.at_ hcells hv 3 rfl
      have e4 : wr.cell? ⟨g, off + k * 6 + 4, none⟩ = some (.bool v.susp) := Sl.at_ hcells hv 4 rfl
      have e5 : wr.cell? ⟨g, off + k * 6 + 5, none⟩ = some (.bool v.fam) := Sl.at_ hcells hv 5 rfl
      have HC := Lib.hid @hcells
      have HD := Lib.hid hd
      have HLR := Lib.hid hlr
      have hkw : IntKind.i64.wrap ((k : Int) + 1) = (k : Int) + 1 := IntWalk.i64_in _ (by omega)
      subst hAe
      clear hcells hv hd hlr
      go_upto_region 8 with (fail)
      (obtain ⟨Y, hWY, hbY, hzY, f1Y, yfa⟩ := box1 wr #[.int .i64 v.f, .int .i64 v.t] 68; rw [← hWY]; have ya0 : Y.cell? ⟨wr.heap.size, 0, none⟩ = some (.int .i64 v.f) := f1Y 0 _ rfl; have ya1 : Y.cell? ⟨wr.heap.size, 1, none⟩ = some (.int .i64 v.t) := f1Y 1 _ rfl; clear hWY f1Y)
      have hbrY := hbr.trans (hbY.mono hbr.size)
      have HBY := Lib.hid hbY
      have hglY := Nat.lt_of_lt_of_le hblr hbY.size
      replace e0 := cl hbY e0
      replace e1 := cl hbY e1
      replace e2 := cl hbY e2
      replace e3 := cl hbY e3
      replace e4 := cl hbY e4
      replace e5 := cl hbY e5
      have m0 : decide (v.f < 0) = false := decide_eq_false (by omega)
      have m1 : decide (v.t ≤ v.f) = false := decide_eq_false (by omega)
      have m2 : decide (12622780800 < v.t) = false := decide_eq_false (by omega)
      have n0 : ¬ v.f < 0 := by omega
      have n1 : ¬ v.t ≤ v.f := by omega
      have n3 : ¬ 12622780800 < v.t := by omega
      clear g1 g2 g3 hbY hbr
      go_cut [72] from 129 (fun v wx => v = .bool false ∧ Below Y.heap.size Y wx)
      case first =>
        rcases Nat.eq_zero_or_pos k with hk0 | hk0
        · subst hk0
          have kd : decide ((0 : Int) < 0) = false := rfl
          clear HC HBY
          ((with_reducible refine wp_region_quiet_lit ?_ ?_ ?_); kernel_rfl; kernel_rfl; (repeat (any_goals (first | go_big_quiet_step (fail) | (refine wpQuiet_step (fun K hK => ?_); go_simp; (first | (refine hK _ ?_; clear hK K) | (split <;> rename_i hg <;> (refine hK _ ?_; clear hK K) <;> (try simp only [Bool.not_eq_true] at hg) <;> (first | simp only [Int.not_lt.2 hg, decide_false] | simp only [Int.not_le.1 hg, decide_true] | simp only [hg, decide_true, decide_false] | skip))))))); all_goals (refine wpQuiet_nil ?_; intro _ hw'; obtain ⟨nq, hw''⟩ := hw'; subst hw''))
          go_wp2_with fail
          go_meet
          exact ⟨rfl, below_drewN (Below.refl _ _) _⟩
        · obtain ⟨u, hu⟩ := HX.out.get (show k - 1 < n2 by omega)
          obtain ⟨b, hb, hlb⟩ := HA.out.at_ hu
          obtain ⟨nx1, nx2⟩ := HNEXT.out (k - 1) b d hb (by rw [show k - 1 + 1 = k by omega]; exact HD.out)
          have huv : u.t = v.f := by rw [hlb.t, HLR.out.f, nx1]
          have f0 : Y.cell? ⟨g, off + (k - 1) * 6, none⟩ = some (.int .i64 u.f) := cl HBY.out (Sl.at_ HC.out hu 0 rfl)
          have f1 : Y.cell? ⟨g, off + (k - 1) * 6 + 1, none⟩ = some (.int .i64 u.t) := cl HBY.out (Sl.at_ HC.out hu 1 rfl)
          have f2 : Y.cell? ⟨g, off + (k - 1) * 6 + 2, none⟩ = some (.string u.plan) := cl HBY.out (Sl.at_ HC.out hu 2 rfl)
          have f3 : Y.cell? ⟨g, off + (k - 1) * 6 + 3, none⟩ = some (.slice u.A u.n u.c) := cl HBY.out (Sl.at_ HC.out hu 3 rfl)
          have f4 : Y.cell? ⟨g, off + (k - 1) * 6 + 4, none⟩ = some (.bool u.susp) := cl HBY.out (Sl.at_ HC.out hu 4 rfl)
          have f5 : Y.cell? ⟨g, off + (k - 1) * 6 + 5, none⟩ = some (.bool u.fam) := cl HBY.out (Sl.at_ HC.out hu 5 rfl)
          have kd : decide ((0 : Int) < (k : Int)) = true := decide_eq_true (by omega)
          have kn : decide (0 < k) = true := decide_eq_true hk0
          have hm1 : IntKind.i64.wrap ((k : Int) - 1) = ((k - 1 : Nat) : Int) := by rw [IntWalk.i64_in _ (by omega)]; omega
          have hkl : k - 1 < n2 := by omega
          obtain ⟨b3, d3⟩ := be_t huv
          have HSP : Hid (∀ z, Below Y.heap.size Y z → Calls Try.prog 67 #[.agg #[.int .i64 u.f, .int .i64 u.t, .string u.plan, .slice u.A u.n u.c, .bool u.susp, .bool u.fam], .agg #[.int .i64 v.f, .int .i64 v.t, .string v.plan, .slice v.A v.n v.c, .bool v.susp, .bool v.fam]] z fun r w' => r = .returned (.bool false) ∧ Below z.heap.size z w') := Lib.hid fun z hz => by
            have hwz := hbrY.trans (hz.mono hbrY.size)
            have h := Alike_any u v b d z (hlb.on hwz) (HLR.out.on hwz)
            rw [decide_eq_false nx2] at h
            exact h
          clear HC HBY hu hb hlb nx1 nx2 huv
          ((with_reducible refine wp_region_class (Below Y.heap.size Y) ?_ ?_ ?_ ?_); kernel_rfl; kernel_rfl; (exact (Below.refl _ _).drew); (intro hnonemp); (have ze0 := fun z : Wd (Below Y.heap.size Y) => cl z.h e0; have ze1 := fun z : Wd (Below Y.heap.size Y) => cl z.h e1; have ze2 := fun z : Wd (Below Y.heap.size Y) => cl z.h e2; have ze3 := fun z : Wd (Below Y.heap.size Y) => cl z.h e3; have ze4 := fun z : Wd (Below Y.heap.size Y) => cl z.h e4; have ze5 := fun z : Wd (Below Y.heap.size Y) => cl z.h e5; have zf0 := fun z : Wd (Below Y.heap.size Y) => cl z.h f0; have zf1 := fun z : Wd (Below Y.heap.size Y) => cl z.h f1; have zf2 := fun z : Wd (Below Y.heap.size Y) => cl z.h f2; have zf3 := fun z : Wd (Below Y.heap.size Y) => cl z.h f3; have zf4 := fun z : Wd (Below Y.heap.size Y) => cl z.h f4; have zf5 := fun z : Wd (Below Y.heap.size Y) => cl z.h f5; have zya0 := fun z : Wd (Below Y.heap.size Y) => cl z.h ya0; have zya1 := fun z : Wd (Below Y.heap.size Y) => cl z.h ya1); (repeat (any_goals (first | go_big_quiet_step (((first | (go_at_call 67; (with_reducible refine (HSP.out _ (Wd.h _)).mono ?_); rintro e w' ⟨rfl, hbk⟩; exact ⟨rfl, ⟨w', Below.trans (Wd.h _) (hbk.mono (Below.size (Wd.h _)))⟩, rfl⟩)))) | (refine wpQuiet_step (fun K hK => ?_); go_simp; (first | (refine hK _ ?_; clear hK K) | (split <;> rename_i hg <;> (refine hK _ ?_; clear hK K) <;> (try simp only [Bool.not_eq_true] at hg) <;> (first | simp only [Int.not_lt.2 hg, decide_false] | simp only [Int.not_le.1 hg, decide_true] | simp only [hg, decide_true, decide_false] | skip)))))));  all_goals (refine wpQuiet_nil ?_; intro wq hgq))
          go_wp2_with fail
          go_meet
          exact ⟨rfl, hgq⟩
      case rest =>
        obtain ⟨rfl, hbC⟩ := hcut
        have hbrC := hbrY.trans (hbC.mono hbrY.size)
        clear hbC hbrY HC HBY HD HLR m0 m1 m2 n0 n1 n3
        go_wp2_with fail
        go_roundw
        case rel => exact ⟨k + 1, by omega, by go_num, hbrC⟩
        case measure => simp [intOf]; omega
    · obtain rfl : n2 = k := by omega
      have hkn : ¬ ((n2 : Int) < (n2 : Int)) := by omega
      replace HS := Lib.hid (HS.out.below hbr)
      have hbwr := hbw2.trans (hbr.mono hbw2.size)
      by_cases hz0 : n2 = 0
      · subst hz0
        go_wp2_with (go_at_call 51; go_must (refine (awake20_any _).mono ?_; rintro r w8 ⟨rfl, hb8⟩))
        go_ret
        exact ⟨rfl, hbwr.trans (hb8.mono hbwr.size)⟩
      obtain ⟨bz, dz⟩ := be_f (show ¬ (n2 : Int) = 0 by omega)
      obtain ⟨g, off, hAe, hbl, hcells⟩ := HX.out.baseIn hbr (by omega)
      obtain ⟨v, hv⟩ := HX.out.get (show 0 < n2 by omega)
      obtain ⟨u, hu⟩ := HX.out.get (show n2 - 1 < n2 by omega)
      obtain ⟨d, hd, hlr⟩ := HA.out.at_ hv
      obtain ⟨b, hb, hlb⟩ := HA.out.at_ hu
      have e0 : wr.cell? ⟨g, off + 0 * 6, none⟩ = some (.int .i64 v.f) := Sl.at_ hcells hv 0 rfl
      have e1 : wr.cell? ⟨g, off + (n2 - 1) * 6 + 1, none⟩ = some (.int .i64 u.t) := Sl.at_ hcells hu 1 rfl
      rw [Nat.zero_mul, Nat.add_zero] at e0
      have hblr := Nat.lt_of_lt_of_le hbl hgr
      obtain ⟨s, hs, hsin⟩ := HFIRST.out d hd
      have HOS : Hid ((cSubs (bkAt l v.f)).find? (fun y => y.id == x) = some s) := Lib.hid (by rw [hlr.f, find_cSubs (at_inv HV.out _).2]; exact hs)
      have HSIN : Hid (s.since = v.f) := Lib.hid (by rw [hlr.f]; exact hsin)
      obtain ⟨tb, htb⟩ : ∃ tb, decide (b.to_ = 12622780800) = tb := ⟨_, rfl⟩
      have HLT : Hid (((cSubs (bkAt l u.t)).find? (fun y => y.id == x)).isSome = tb) := Lib.hid (by rw [hlb.t, HLATE.out b hb, htb])
      have htb2 : (u.t == 12622780800) = tb := by rw [hlb.t, ← htb]; rfl
      have htt : (tb == tb) = true := by simp
      have hm1 : IntKind.i64.wrap ((n2 : Int) - 1) = ((n2 - 1 : Nat) : Int) := by rw [IntWalk.i64_in _ (by omega)]; omega
      have hkl : n2 - 1 < n2 := by omega
      have h0l : 0 < n2 := by omega
      subst hAe
      clear hcells hv hu hd hb hlr hlb hs hsin htb hz0 HGOOD HNEXT HFIRST HLATE hbr
      go_upto_region 13 with (go_at_call 34; go_must (refine (Sub_any _ n c l x v.f _ HS.out HV.out HZ.out).mono ?_; rintro r w3 ⟨⟨z, rfl, hz⟩, hb3⟩; rw [HOS.out] at hz ⊢; have HZ3 := Lib.hid hz.since; clear hz; dsimp only [Sv.val, Option.isSome]))
      (obtain ⟨X, hWX, hbX, hzX, f1X, yfa⟩ := box1 w3 #[.int .i64 z.id, .int .i64 z.acc, .int .i64 z.since, .string z.plan, .slice z.An z.nn z.cn, .slice z.Ap z.np z.cp, .bool z.susp, .bool z.fam] 51; rw [← hWX]; have ya0 : X.cell? ⟨w3.heap.size, 0, none⟩ = some (.int .i64 z.id) := f1X 0 _ rfl; have ya1 : X.cell? ⟨w3.heap.size, 1, none⟩ = some (.int .i64 z.acc) := f1X 1 _ rfl; have ya2 : X.cell? ⟨w3.heap.size, 2, none⟩ = some (.int .i64 z.since) := f1X 2 _ rfl; have ya3 : X.cell? ⟨w3.heap.size, 3, none⟩ = some (.string z.plan) := f1X 3 _ rfl; have ya4 : X.cell? ⟨w3.heap.size, 4, none⟩ = some (.slice z.An z.nn z.cn) := f1X 4 _ rfl; have ya5 : X.cell? ⟨w3.heap.size, 5, none⟩ = some (.slice z.Ap z.np z.cp) := f1X 5 _ rfl; have ya6 : X.cell? ⟨w3.heap.size, 6, none⟩ = some (.bool z.susp) := f1X 6 _ rfl; have ya7 : X.cell? ⟨w3.heap.size, 7, none⟩ = some (.bool z.fam) := f1X 7 _ rfl; clear hWX f1X)
      have hb3X := hb3.trans (hbX.mono hb3.size)
      replace e0 := cl hb3X e0
      replace e1 := cl hb3X e1
      replace HS := Lib.hid (HS.out.below hb3X)
      have hbwX := hbwr.trans (hb3X.mono hbwr.size)
      have hblX := Nat.lt_of_lt_of_le hblr hb3X.size
      clear hb3 hbX hb3X ya0 ya1 ya3 ya4 ya5 ya6 ya7
      go_upto_region 14 with (go_at_call 34; go_must (refine (Sub_any _ n c l x u.t _ HS.out HV.out HZ.out).mono ?_; rintro r w4 ⟨⟨z4, rfl, hz4⟩, hb4⟩; rw [HLT.out]; clear hz4; unfold Sv.val))
      (obtain ⟨U, hWU, hbU, hzU, f1U, rfa⟩ := box1 w4 #[.int .i64 z4.id, .int .i64 z4.acc, .int .i64 z4.since, .string z4.plan, .slice z4.An z4.nn z4.cn, .slice z4.Ap z4.np z4.cp, .bool z4.susp, .bool z4.fam] 51; rw [← hWU]; have ra0 : U.cell? ⟨w4.heap.size, 0, none⟩ = some (.int .i64 z4.id) := f1U 0 _ rfl; have ra1 : U.cell? ⟨w4.heap.size, 1, none⟩ = some (.int .i64 z4.acc) := f1U 1 _ rfl; have ra2 : U.cell? ⟨w4.heap.size, 2, none⟩ = some (.int .i64 z4.since) := f1U 2 _ rfl; have ra3 : U.cell? ⟨w4.heap.size, 3, none⟩ = some (.string z4.plan) := f1U 3 _ rfl; have ra4 : U.cell? ⟨w4.heap.size, 4, none⟩ = some (.slice z4.An z4.nn z4.cn) := f1U 4 _ rfl; have ra5 : U.cell? ⟨w4.heap.size, 5, none⟩ = some (.slice z4.Ap z4.np z4.cp) := f1U 5 _ rfl; have ra6 : U.cell? ⟨w4.heap.size, 6, none⟩ = some (.bool z4.susp) := f1U 6 _ rfl; have ra7 : U.cell? ⟨w4.heap.size, 7, none⟩ = some (.bool z4.fam) := f1U 7 _ rfl; clear hWU f1U)
      have hb4U := hb4.trans (hbU.mono hb4.size)
      replace e0 := cl hb4U e0
      replace e1 := cl hb4U e1
      replace ya2 := cl hb4U ya2
      have hbwU := hbwX.trans (hb4U.mono hbwX.size)
      have hblU := Nat.lt_of_lt_of_le hblX hb4U.size
      have hzU4 : w3.heap.size < U.heap.size := Nat.lt_of_lt_of_le hzX hb4U.size
      clear hb4 hbU hb4U ra0 ra1 ra2 ra3 ra4 ra5 ra6 ra7
      obtain ⟨b5, d5⟩ := be_t (show z.since = v.f by rw [HZ3.out]; exact HSIN.out)
      have HAWK : Hid (∀ z, Below U.heap.size U z → Calls Try.prog 51 #[] z fun r w' => r = .returned (.bool true) ∧ Below z.heap.size z w') := Lib.hid fun z _ => awake20_any z
      ((with_reducible refine wp_region_class (Below U.heap.size U) ?_ ?_ ?_ ?_); kernel_rfl; kernel_rfl; (exact (Below.refl _ _).drew); (intro hnonemp); (have ze0 := fun z : Wd (Below U.heap.size U) => cl z.h e0; have ze1 := fun z : Wd (Below U.heap.size U) => cl z.h e1; have zya2 := fun z : Wd (Below U.heap.size U) => cl z.h ya2); (repeat (any_goals (first | go_big_quiet_step (((first | (go_at_call 51; (with_reducible refine (HAWK.out _ (Wd.h _)).mono ?_); rintro e w' ⟨rfl, hbk⟩; exact ⟨rfl, ⟨w', Below.trans (Wd.h _) (hbk.mono (Below.size (Wd.h _)))⟩, rfl⟩)))) | (refine wpQuiet_step (fun K hK => ?_); go_simp; (first | (refine hK _ ?_; clear hK K) | (split <;> rename_i hg <;> (refine hK _ ?_; clear hK K) <;> (try simp only [Bool.not_eq_true] at hg) <;> (first | simp only [Int.not_lt.2 hg, decide_false] | simp only [Int.not_le.1 hg, decide_true] | simp only [hg, decide_true, decide_false] | skip)))))));  all_goals (refine wpQuiet_nil ?_; intro wq hgq))
      go_wp2_with fail
      go_ret
      exact ⟨rfl, hbwU.trans (hgq.mono hbwU.size)⟩
end Ss
end Go.Proofs.Yteaanngagcflhaa
namespace Go.Proofs.Yteaanngagcflhaa
open Go
theorem join_enter : Program.mayEnter Try.prog = true := by kernel_rfl
theorem join_make : Try.prog.make = some Rows.customerChecksRow.make := by kernel_rfl
theorem join_lift : Try.prog.liftsFinal = Rows.customerChecksRow.lifted := by kernel_rfl
theorem join_laid : laidOutB Try.prog = true := by kernel_rfl
end Go.Proofs.Yteaanngagcflhaa
