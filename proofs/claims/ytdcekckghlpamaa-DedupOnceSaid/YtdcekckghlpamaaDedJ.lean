/-
  Dedup: the reference's Add. No condition.
-/
import Derived.Test.YtdcekckghlpamaaDedI
import Derived.Test.YtdcekckghlpamaaRowB
import Derived.BigQuiet
import Derived.StillTailTactics
import Derived.Lib.Overlaps
import Derived.Deep.DeepCutAuto
set_option maxRecDepth 100000
set_option linter.unusedVariables false
set_option linter.unusedSimpArgs false
namespace Go.Proofs.Ytdcekckghlpamaa
open Go.RowKit

namespace Dd
/-- the state of the reference's loop -/
def stR (src ser : Int) (xs : List Rng) (k : Nat) : List Rng × Rng × Bool := (xs.take k).foldl (stepR src ser) ([], ⟨src, ser, ser⟩, false)
theorem stR_succ {src ser : Int} {xs : List Rng} {k : Nat} {x : Rng} (h : xs[k]? = some x) : stR src ser xs (k + 1) = stepR src ser (stR src ser xs k) x := by
  unfold stR; rw [take_succ h, List.foldl_append]; rfl
theorem stR_len (src ser : Int) (xs : List Rng) : ∀ k, k ≤ xs.length → (stR src ser xs k).1.length ≤ 2 * k := by
  intro k
  induction k with
  | zero => intro _; simp [stR]
  | succ k ih =>
    intro hk
    have h1 := ih (by omega)
    rw [stR_succ (List.getElem?_eq_getElem (show k < xs.length by omega))]
    unfold stepR
    split
    · dsimp only; omega
    · split
      · dsimp only; omega
      · split
        · simp; omega
        · simp; omega
theorem stepR_1 {src ser : Int} {o : List Rng} {r x : Rng} {d : Bool} (h : x.src = src) (h2 : x.hi + 1 = ser) : stepR src ser (o, r, d) x = (o, ⟨r.src, x.lo, r.hi⟩, d) := by
  unfold stepR; rw [if_pos ⟨h, h2⟩]
theorem stepR_2 {src ser : Int} {o : List Rng} {r x : Rng} {d : Bool} (h0 : ¬ (x.src = src ∧ x.hi + 1 = ser)) (h : x.src = src) (h2 : x.lo - 1 = ser) : stepR src ser (o, r, d) x = (o, ⟨r.src, r.lo, x.hi⟩, d) := by
  unfold stepR; rw [if_neg h0, if_pos ⟨h, h2⟩]
theorem stepR_3 {src ser : Int} {o : List Rng} {r x : Rng} {d : Bool} (h0 : ¬ (x.src = src ∧ x.hi + 1 = ser)) (h1 : ¬ (x.src = src ∧ x.lo - 1 = ser)) (h : d = true ∨ x.src < src ∨ x.src = src ∧ x.hi < ser) : stepR src ser (o, r, d) x = (o ++ [x], r, d) := by
  unfold stepR; rw [if_neg h0, if_neg h1, if_pos h]
theorem stepR_4 {src ser : Int} {o : List Rng} {r x : Rng} {d : Bool} (h0 : ¬ (x.src = src ∧ x.hi + 1 = ser)) (h1 : ¬ (x.src = src ∧ x.lo - 1 = ser)) (h : ¬ (d = true ∨ x.src < src ∨ x.src = src ∧ x.hi < ser)) : stepR src ser (o, r, d) x = (o ++ [r, x], r, true) := by
  unfold stepR; rw [if_neg h0, if_neg h1, if_neg h]

/-- what the loop holds -/
def RelR (w : World) (src ser : Int) (xs : List Rng) (g : Nat) (v d i : Value) (wr : World) : Prop :=
  ∃ (k : Nat) (o : List Rng) (r : Rng) (b : Bool), k ≤ xs.length ∧ i = .int .i64 k ∧ d = .bool b ∧ stR src ser xs k = (o, r, b) ∧ Ow wr w.heap.size 30 v o ∧ v.ownBlock ≠ some g ∧
    wr.heap[g]? = some (.cells #[.int .i64 r.src, .int .i64 r.lo, .int .i64 r.hi] 30 (0, 0)) ∧ Below w.heap.size w wr ∧ g < wr.heap.size

theorem RelR.mk_ {w wr : World} {src ser : Int} {xs : List Rng} {g k : Nat} {v : Value} {o : List Rng} {r : Rng} {b : Bool} (hk : k + 1 ≤ xs.length) (hst : stR src ser xs (k + 1) = (o, r, b)) (ho : Ow wr w.heap.size 30 v o) (hne : v.ownBlock ≠ some g)
    (hg : wr.heap[g]? = some (.cells #[.int .i64 r.src, .int .i64 r.lo, .int .i64 r.hi] 30 (0, 0))) (hb : Below w.heap.size w wr) : RelR w src ser xs g v (.bool b) (.int .i64 ((k : Int) + 1)) wr :=
  ⟨k + 1, o, r, b, hk, by go_num, rfl, hst, ho, hne, hg, hb, (Array.getElem?_eq_some_iff.1 hg).1⟩
/-- what an append leaves of the block beside it -/
theorem app_beside {w W w2 : World} {base : Nat} {e : TypeId} {v v2 : Value} {o : List Rng} {g : Nat} {ob : Obj} (ho : Ow W base e v o) (hu : Upd W w2 v v2) (hne : v.ownBlock ≠ some g) (hg : W.heap[g]? = some ob) : w2.heap[g]? = some ob ∧ v2.ownBlock ≠ some g := by
  have hgl := (Array.getElem?_eq_some_iff.1 hg).1
  refine ⟨(hu.grew.block g hgl (fun e => hne e.symm)).trans hg, ?_⟩
  rcases hu.at_ with h1 | ⟨j, h1, h2⟩
  · rw [h1]; exact hne
  · rw [h1]; intro e; injection e with e; omega

theorem refAdd_st {src ser : Int} {xs : List Rng} {k : Nat} {o : List Rng} {r : Rng} {d : Bool} (hk : k = xs.length) (hst : stR src ser xs k = (o, r, d)) : refAdd xs src ser = if d = true then o else o ++ [r] := by
  subst hk
  unfold stR at hst
  rw [List.take_length] at hst
  unfold refAdd
  rw [hst]; rfl

set_option maxHeartbeats 1000000 in
theorem refadd_any (A : Option Addr) (n c : Nat) (xs : List Rng) (src ser : Int) (w : World) (h : Sl w A n c xs) (hc : Can xs) (hn : n ≤ 10000) :
    Calls Try.prog 22 #[.slice A n c, .int .i64 src, .int .i64 ser] w (AddPost w xs src ser) := by
  have H := Lib.hid h
  have HC := Lib.hid hc
  have HLEN := Lib.hid h.len
  clear h hc
  by_cases hid : ident src ser = true
  · by_cases hh : hasL xs src ser = true
    · go_enter Try.func22, Try.ntmps22
      go_wp2_with (first
        | (go_at_call 29; refine (refidentity_any _ _ _).mono ?_; rintro e w' ⟨rfl, rfl⟩)
        | (go_at_call 13; go_must (
            refine (refhas_any A n c xs src ser _ H.out).mono ?_
            rintro e w1 ⟨rfl, hb1⟩)))
      go_ret2
      exact AddPost.no (by simp [addOk, hh]) hb1
    · have hh' : hasL xs src ser = false := by simpa using hh
      clear hh
      have hid2 := ident_iff.1 hid
      obtain ⟨i1, i2, i3, i4⟩ := hid2
      go_enter Try.func22, Try.ntmps22
      go_wp2_with (first
        | (go_at_call 29; refine (refidentity_any _ _ _).mono ?_; rintro e w' ⟨rfl, rfl⟩)
        | (go_at_call 13; go_must (
            refine (refhas_any A n c xs src ser _ H.out).mono ?_
            rintro e w1 ⟨rfl, hb1⟩)))
      have hz1 := hb1.size
      go_loopw [8, 10, 11] (fun v d i wr => RelR w src ser xs w1.heap.size v d i wr) (fun _ _ i _ => n - (intOf i).toNat)
      case atStart => exact ⟨0, [], ⟨src, ser, ser⟩, false, Nat.zero_le _, rfl, rfl, rfl, Ow.nil_ _ _ _, by simp [Value.ownBlock], heap_alloc_new w1 _, hb1.alloc hz1 _, by simp⟩
      case round =>
        obtain ⟨k, o, r, d, hk, rfl, rfl, hst, hown, hne, hg, hb, hgl⟩ := hrel
        have hs := hb.size
        by_cases hlt : k < n
        · obtain ⟨b, off, rfl, hbw, hcl⟩ := H.out.baseIn hb (by omega)
          have hbr : b < wr.heap.size := by omega
          obtain ⟨⟨x0, x1, x2⟩, hx⟩ := H.out.get hlt
          have hxr := HC.out.rg _ (List.mem_of_getElem? hx)
          obtain ⟨q1, q2, q3, q4, q5⟩ := hxr
          dsimp only at q1 q2 q3 q4 q5
          have hol := stR_len src ser xs k (by have := HLEN.out; omega)
          rw [hst] at hol
          dsimp only at hol
          have g0 : wr.cell? ⟨w1.heap.size, 0, none⟩ = some (.int .i64 r.src) := cell_blk hg rfl
          have g1 : wr.cell? ⟨w1.heap.size, 1, none⟩ = some (.int .i64 r.lo) := cell_blk hg rfl
          have g2 : wr.cell? ⟨w1.heap.size, 2, none⟩ = some (.int .i64 r.hi) := cell_blk hg rfl
          have gf : ∀ j, wr.frozen? ⟨w1.heap.size, j, none⟩ = false := fun j => by simp [World.frozen?, hg]
          have HG := Lib.hid hg
          have HOWN := Lib.hid hown
          have HNE := Lib.hid hne
          have hbl : w1.heap.size ≠ b := by omega
          have hkl : k + 1 ≤ xs.length := by have := HLEN.out; omega
          have hgw := Lib.hid (fun (O : Obj) => (Below.heap_alloc wr O _ hgl).trans HG.out)
          clear hg hown hne
          have hm2_1 : (1 : Nat) ≤ 2 := by omega
          have hm2_2 : (2 : Nat) ≤ 2 := by omega
          have hol2 : o.length + 2 ≤ 2000000 := by omega
          have HB := Lib.hid hb
          clear hb
          by_cases f1 : x0 = src
          · cases f1
            cases d
            · skip
              (have c0 : wr.cell? ⟨b, off + k * 3, none⟩ = some (.int .i64 src) := Sl.at_ hcl hx 0 rfl; have c1 : wr.cell? ⟨b, off + k * 3 + 1, none⟩ = some (.int .i64 x1) := Sl.at_ hcl hx 1 rfl; have c2 : wr.cell? ⟨b, off + k * 3 + 2, none⟩ = some (.int .i64 x2) := Sl.at_ hcl hx 2 rfl)
              have HST := Lib.hid (stR_succ (src := src) (ser := ser) hx)
              rw [hst] at HST
              clear hx hcl hst
              go_wp2_with (first
                | (at_builtin; refine wpl_append_new wr _ _ rfl (.tmp 92) (.tmp 94) 22 rfl w 30 _ 24 Try.underlying22 info_rng rfl u8 o rfl HOWN.out _ [⟨src, x1, x2⟩] rfl rfl hm2_1 rfl hol2 (by decide) HB.out _ _ HG.out HNE.out ?_; intro v2 w2 hown2 hb2 hg2 hne2; have HG2 := Lib.hid hg2; have HO2 := Lib.hid hown2; have HN2 := Lib.hid hne2; have HB2 := Lib.hid hb2; clear hg2 hb2 hown2 hne2)
                | (at_builtin; refine wpl_append_new wr _ _ rfl (.tmp 37) (.tmp 40) 22 rfl w 30 _ 24 Try.underlying22 info_rng rfl u8 o rfl HOWN.out _ [r, ⟨src, x1, x2⟩] rfl rfl hm2_2 rfl hol2 (by decide) HB.out _ _ HG.out HNE.out ?_; intro v2 w2 hown2 hb2 hg2 hne2; have HG2 := Lib.hid hg2; have HO2 := Lib.hid hown2; have HN2 := Lib.hid hne2; have HB2 := Lib.hid hb2; clear hg2 hb2 hown2 hne2))
              all_goals
                (try simp only [beq_iff_eq, beq_eq_false_iff_ne, ne_eq, Bool.not_eq_true] at *)
                go_roundw
                case measure => simp [intOf]; omega
              all_goals first
                | exact RelR.mk_ hkl (HST.out.trans (stepR_1 (by dsimp only) (by dsimp only; omega))) ((HOWN.out.setFar HNE.out _).alloc _) HNE.out ((Below.heap_alloc _ _ _ (by (try simp) <;> omega)).trans (blk_setCell HG.out 1 _)) (by have hb := HB.out; (repeat (first | exact hb | exact Below.refl _ _ | (refine Below.alloc ?_ (by (try simp) <;> omega) _) | (refine Below.setCell ?_ (by (try simp) <;> omega) _) | refine Below.drew ?_ | refine below_drewN ?_ _)))
                | exact RelR.mk_ hkl (HST.out.trans (stepR_2 (by dsimp only; omega) (by dsimp only) (by dsimp only; omega))) ((HOWN.out.setFar HNE.out _).alloc _) HNE.out ((Below.heap_alloc _ _ _ (by (try simp) <;> omega)).trans (blk_setCell HG.out 2 _)) (by have hb := HB.out; (repeat (first | exact hb | exact Below.refl _ _ | (refine Below.alloc ?_ (by (try simp) <;> omega) _) | (refine Below.setCell ?_ (by (try simp) <;> omega) _) | refine Below.drew ?_ | refine below_drewN ?_ _)))
                | exact RelR.mk_ hkl (HST.out.trans (stepR_3 (by dsimp only; omega) (by dsimp only; omega) (by dsimp only; first | exact .inl rfl | exact .inr (.inl (by omega)) | exact .inr (.inr ⟨rfl, by omega⟩)))) HO2.out HN2.out HG2.out HB2.out
                | exact RelR.mk_ hkl (HST.out.trans (stepR_4 (by dsimp only; omega) (by dsimp only; omega) (by dsimp only; simp only [Bool.false_eq_true, false_or]; omega))) HO2.out HN2.out HG2.out HB2.out
            · skip
              (have c0 : wr.cell? ⟨b, off + k * 3, none⟩ = some (.int .i64 src) := Sl.at_ hcl hx 0 rfl; have c1 : wr.cell? ⟨b, off + k * 3 + 1, none⟩ = some (.int .i64 x1) := Sl.at_ hcl hx 1 rfl; have c2 : wr.cell? ⟨b, off + k * 3 + 2, none⟩ = some (.int .i64 x2) := Sl.at_ hcl hx 2 rfl)
              have HST := Lib.hid (stR_succ (src := src) (ser := ser) hx)
              rw [hst] at HST
              clear hx hcl hst
              go_wp2_with (first
                | (at_builtin; refine wpl_append_new wr _ _ rfl (.tmp 92) (.tmp 94) 22 rfl w 30 _ 24 Try.underlying22 info_rng rfl u8 o rfl HOWN.out _ [⟨src, x1, x2⟩] rfl rfl hm2_1 rfl hol2 (by decide) HB.out _ _ HG.out HNE.out ?_; intro v2 w2 hown2 hb2 hg2 hne2; have HG2 := Lib.hid hg2; have HO2 := Lib.hid hown2; have HN2 := Lib.hid hne2; have HB2 := Lib.hid hb2; clear hg2 hb2 hown2 hne2)
                | (at_builtin; refine wpl_append_new wr _ _ rfl (.tmp 37) (.tmp 40) 22 rfl w 30 _ 24 Try.underlying22 info_rng rfl u8 o rfl HOWN.out _ [r, ⟨src, x1, x2⟩] rfl rfl hm2_2 rfl hol2 (by decide) HB.out _ _ HG.out HNE.out ?_; intro v2 w2 hown2 hb2 hg2 hne2; have HG2 := Lib.hid hg2; have HO2 := Lib.hid hown2; have HN2 := Lib.hid hne2; have HB2 := Lib.hid hb2; clear hg2 hb2 hown2 hne2))
              all_goals
                (try simp only [beq_iff_eq, beq_eq_false_iff_ne, ne_eq, Bool.not_eq_true] at *)
                go_roundw
                case measure => simp [intOf]; omega
              all_goals first
                | exact RelR.mk_ hkl (HST.out.trans (stepR_1 (by dsimp only) (by dsimp only; omega))) ((HOWN.out.setFar HNE.out _).alloc _) HNE.out ((Below.heap_alloc _ _ _ (by (try simp) <;> omega)).trans (blk_setCell HG.out 1 _)) (by have hb := HB.out; (repeat (first | exact hb | exact Below.refl _ _ | (refine Below.alloc ?_ (by (try simp) <;> omega) _) | (refine Below.setCell ?_ (by (try simp) <;> omega) _) | refine Below.drew ?_ | refine below_drewN ?_ _)))
                | exact RelR.mk_ hkl (HST.out.trans (stepR_2 (by dsimp only; omega) (by dsimp only) (by dsimp only; omega))) ((HOWN.out.setFar HNE.out _).alloc _) HNE.out ((Below.heap_alloc _ _ _ (by (try simp) <;> omega)).trans (blk_setCell HG.out 2 _)) (by have hb := HB.out; (repeat (first | exact hb | exact Below.refl _ _ | (refine Below.alloc ?_ (by (try simp) <;> omega) _) | (refine Below.setCell ?_ (by (try simp) <;> omega) _) | refine Below.drew ?_ | refine below_drewN ?_ _)))
                | exact RelR.mk_ hkl (HST.out.trans (stepR_3 (by dsimp only; omega) (by dsimp only; omega) (by dsimp only; first | exact .inl rfl | exact .inr (.inl (by omega)) | exact .inr (.inr ⟨rfl, by omega⟩)))) HO2.out HN2.out HG2.out HB2.out
                | exact RelR.mk_ hkl (HST.out.trans (stepR_4 (by dsimp only; omega) (by dsimp only; omega) (by dsimp only; simp only [Bool.false_eq_true, false_or]; omega))) HO2.out HN2.out HG2.out HB2.out
          · cases d
            · skip
              (have c0 : wr.cell? ⟨b, off + k * 3, none⟩ = some (.int .i64 x0) := Sl.at_ hcl hx 0 rfl; have c1 : wr.cell? ⟨b, off + k * 3 + 1, none⟩ = some (.int .i64 x1) := Sl.at_ hcl hx 1 rfl; have c2 : wr.cell? ⟨b, off + k * 3 + 2, none⟩ = some (.int .i64 x2) := Sl.at_ hcl hx 2 rfl)
              have HST := Lib.hid (stR_succ (src := src) (ser := ser) hx)
              rw [hst] at HST
              clear hx hcl hst
              go_wp2_with (first
                | (at_builtin; refine wpl_append_new wr _ _ rfl (.tmp 92) (.tmp 94) 22 rfl w 30 _ 24 Try.underlying22 info_rng rfl u8 o rfl HOWN.out _ [⟨x0, x1, x2⟩] rfl rfl hm2_1 rfl hol2 (by decide) HB.out _ _ HG.out HNE.out ?_; intro v2 w2 hown2 hb2 hg2 hne2; have HG2 := Lib.hid hg2; have HO2 := Lib.hid hown2; have HN2 := Lib.hid hne2; have HB2 := Lib.hid hb2; clear hg2 hb2 hown2 hne2)
                | (at_builtin; refine wpl_append_new wr _ _ rfl (.tmp 37) (.tmp 40) 22 rfl w 30 _ 24 Try.underlying22 info_rng rfl u8 o rfl HOWN.out _ [r, ⟨x0, x1, x2⟩] rfl rfl hm2_2 rfl hol2 (by decide) HB.out _ _ HG.out HNE.out ?_; intro v2 w2 hown2 hb2 hg2 hne2; have HG2 := Lib.hid hg2; have HO2 := Lib.hid hown2; have HN2 := Lib.hid hne2; have HB2 := Lib.hid hb2; clear hg2 hb2 hown2 hne2))
              all_goals
                (try simp only [beq_iff_eq, beq_eq_false_iff_ne, ne_eq, Bool.not_eq_true] at *)
                go_roundw
                case measure => simp [intOf]; omega
              all_goals first
                | exact RelR.mk_ hkl (HST.out.trans (stepR_1 (by dsimp only) (by dsimp only; omega))) ((HOWN.out.setFar HNE.out _).alloc _) HNE.out ((Below.heap_alloc _ _ _ (by (try simp) <;> omega)).trans (blk_setCell HG.out 1 _)) (by have hb := HB.out; (repeat (first | exact hb | exact Below.refl _ _ | (refine Below.alloc ?_ (by (try simp) <;> omega) _) | (refine Below.setCell ?_ (by (try simp) <;> omega) _) | refine Below.drew ?_ | refine below_drewN ?_ _)))
                | exact RelR.mk_ hkl (HST.out.trans (stepR_2 (by dsimp only; omega) (by dsimp only) (by dsimp only; omega))) ((HOWN.out.setFar HNE.out _).alloc _) HNE.out ((Below.heap_alloc _ _ _ (by (try simp) <;> omega)).trans (blk_setCell HG.out 2 _)) (by have hb := HB.out; (repeat (first | exact hb | exact Below.refl _ _ | (refine Below.alloc ?_ (by (try simp) <;> omega) _) | (refine Below.setCell ?_ (by (try simp) <;> omega) _) | refine Below.drew ?_ | refine below_drewN ?_ _)))
                | exact RelR.mk_ hkl (HST.out.trans (stepR_3 (by dsimp only; omega) (by dsimp only; omega) (by dsimp only; first | exact .inl rfl | exact .inr (.inl (by omega)) | exact .inr (.inr ⟨rfl, by omega⟩)))) HO2.out HN2.out HG2.out HB2.out
                | exact RelR.mk_ hkl (HST.out.trans (stepR_4 (by dsimp only; omega) (by dsimp only; omega) (by dsimp only; simp only [Bool.false_eq_true, false_or]; omega))) HO2.out HN2.out HG2.out HB2.out
            · skip
              (have c0 : wr.cell? ⟨b, off + k * 3, none⟩ = some (.int .i64 x0) := Sl.at_ hcl hx 0 rfl; have c1 : wr.cell? ⟨b, off + k * 3 + 1, none⟩ = some (.int .i64 x1) := Sl.at_ hcl hx 1 rfl; have c2 : wr.cell? ⟨b, off + k * 3 + 2, none⟩ = some (.int .i64 x2) := Sl.at_ hcl hx 2 rfl)
              have HST := Lib.hid (stR_succ (src := src) (ser := ser) hx)
              rw [hst] at HST
              clear hx hcl hst
              go_wp2_with (first
                | (at_builtin; refine wpl_append_new wr _ _ rfl (.tmp 92) (.tmp 94) 22 rfl w 30 _ 24 Try.underlying22 info_rng rfl u8 o rfl HOWN.out _ [⟨x0, x1, x2⟩] rfl rfl hm2_1 rfl hol2 (by decide) HB.out _ _ HG.out HNE.out ?_; intro v2 w2 hown2 hb2 hg2 hne2; have HG2 := Lib.hid hg2; have HO2 := Lib.hid hown2; have HN2 := Lib.hid hne2; have HB2 := Lib.hid hb2; clear hg2 hb2 hown2 hne2)
                | (at_builtin; refine wpl_append_new wr _ _ rfl (.tmp 37) (.tmp 40) 22 rfl w 30 _ 24 Try.underlying22 info_rng rfl u8 o rfl HOWN.out _ [r, ⟨x0, x1, x2⟩] rfl rfl hm2_2 rfl hol2 (by decide) HB.out _ _ HG.out HNE.out ?_; intro v2 w2 hown2 hb2 hg2 hne2; have HG2 := Lib.hid hg2; have HO2 := Lib.hid hown2; have HN2 := Lib.hid hne2; have HB2 := Lib.hid hb2; clear hg2 hb2 hown2 hne2))
              all_goals
                (try simp only [beq_iff_eq, beq_eq_false_iff_ne, ne_eq, Bool.not_eq_true] at *)
                go_roundw
                case measure => simp [intOf]; omega
              all_goals first
                | exact RelR.mk_ hkl (HST.out.trans (stepR_1 (by dsimp only) (by dsimp only; omega))) ((HOWN.out.setFar HNE.out _).alloc _) HNE.out ((Below.heap_alloc _ _ _ (by (try simp) <;> omega)).trans (blk_setCell HG.out 1 _)) (by have hb := HB.out; (repeat (first | exact hb | exact Below.refl _ _ | (refine Below.alloc ?_ (by (try simp) <;> omega) _) | (refine Below.setCell ?_ (by (try simp) <;> omega) _) | refine Below.drew ?_ | refine below_drewN ?_ _)))
                | exact RelR.mk_ hkl (HST.out.trans (stepR_2 (by dsimp only; omega) (by dsimp only) (by dsimp only; omega))) ((HOWN.out.setFar HNE.out _).alloc _) HNE.out ((Below.heap_alloc _ _ _ (by (try simp) <;> omega)).trans (blk_setCell HG.out 2 _)) (by have hb := HB.out; (repeat (first | exact hb | exact Below.refl _ _ | (refine Below.alloc ?_ (by (try simp) <;> omega) _) | (refine Below.setCell ?_ (by (try simp) <;> omega) _) | refine Below.drew ?_ | refine below_drewN ?_ _)))
                | exact RelR.mk_ hkl (HST.out.trans (stepR_3 (by dsimp only; omega) (by dsimp only; omega) (by dsimp only; first | exact .inl rfl | exact .inr (.inl (by omega)) | exact .inr (.inr ⟨rfl, by omega⟩)))) HO2.out HN2.out HG2.out HB2.out
                | exact RelR.mk_ hkl (HST.out.trans (stepR_4 (by dsimp only; omega) (by dsimp only; omega) (by dsimp only; simp only [Bool.false_eq_true, false_or]; omega))) HO2.out HN2.out HG2.out HB2.out
        · have hkn : k = n := by have := HLEN.out; omega
          have hol := stR_len src ser xs k (by have := HLEN.out; omega)
          rw [hst] at hol
          dsimp only at hol
          have HR := Lib.hid (refAdd_st (by have := HLEN.out; omega) hst)
          have HG := Lib.hid hg
          have HOWN := Lib.hid hown
          have HNE := Lib.hid hne
          have HB := Lib.hid hb
          have g0 : wr.cell? ⟨w1.heap.size, 0, none⟩ = some (.int .i64 r.src) := cell_blk hg rfl
          have g1 : wr.cell? ⟨w1.heap.size, 1, none⟩ = some (.int .i64 r.lo) := cell_blk hg rfl
          have g2 : wr.cell? ⟨w1.heap.size, 2, none⟩ = some (.int .i64 r.hi) := cell_blk hg rfl
          have hol2 : o.length + 2 ≤ 2000000 := by omega
          have hm2_1 : (1 : Nat) ≤ 2 := by omega
          clear hg hown hne hb hst
          cases d
          · go_wp2_with (first
              | (at_builtin; refine wpl_append_new0 wr _ rfl (.tmp 98) (.tmp 100) 22 rfl w 30 _ 24 Try.underlying22 info_rng rfl u8 o rfl HOWN.out _ [r] rfl rfl hm2_1 rfl hol2 (by decide) HB.out _ _ HG.out HNE.out ?_; intro v2 w2 hown2 hb2 hg2 hne2; have HO2 := Lib.hid hown2; have HB2 := Lib.hid hb2; clear hg2 hb2 hown2 hne2))
            go_ret2
            exact AddPost.yes (by simp [addOk, hid, hh']) (by rw [HR.out]; exact HO2.out) HB2.out
          · go_wp2_with fail
            go_ret2
            exact AddPost.yes (by simp [addOk, hid, hh']) (by rw [HR.out]; exact HOWN.out) HB.out
  · have hid' : ident src ser = false := by simpa using hid
    clear hid
    go_enter Try.func22, Try.ntmps22
    go_wp2_with (first
        | (go_at_call 29; refine (refidentity_any _ _ _).mono ?_; rintro e w' ⟨rfl, rfl⟩))
    go_ret2
    exact AddPost.no (by simp [addOk, hid']) (Below.refl _ _)

end Dd
end Go.Proofs.Ytdcekckghlpamaa
