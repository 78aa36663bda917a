/-
  Tariffs: a copy of a tariff. No condition.
-/
import Derived.Test.YtdnnnajohdohaaaT8I
import Derived.BigQuiet
import Derived.StillTailTactics
import Derived.Lib.Overlaps
import Derived.Deep.DeepCutAuto
import Derived.Deep.RegionWith
import Derived.Laws.RangeAny
import Derived.Deep.RegionHeld3
import Derived.Deep.RegionHeldLaw
set_option maxRecDepth 100000
set_option linter.unusedVariables false
set_option linter.unusedSimpArgs false
namespace Go.Proofs.Ytdnnnajohdohaaa
open Go.RowKit

namespace Cv
open Xp Ck
theorem info_zone : (Try.prog.info? 56).map (fun i => (i.zero, i.size, i.bytes)) = some (some (.agg #[.string ⟨#[]⟩, .slice none 0 0]), 2, 40) := by kernel_rfl
theorem info_band : (Try.prog.info? 70).map (fun i => (i.zero, i.size, i.bytes)) = some (some (.agg #[.string ⟨#[]⟩, .slice none 0 0]), 2, 40) := by kernel_rfl
theorem info_rate : (Try.prog.info? 73).map (fun i => (i.zero, i.size, i.bytes)) = some (some (.agg #[.int .i64 0, .string ⟨#[]⟩, .string ⟨#[]⟩, .int .i64 0, .slice none 0 0]), 5, 72) := by kernel_rfl
theorem info_disc : (Try.prog.info? 62).map (fun i => (i.zero, i.size, i.bytes)) = some (some (.agg #[.string ⟨#[]⟩, .int .i64 0, .int .i64 0, .string ⟨#[]⟩, .slice none 0 0, .int .i64 0]), 6, 80) := by kernel_rfl
def zeros7 : List Value := [.string ⟨#[]⟩, .int .i64 0, .bool false, .slice none 0 0, .slice none 0 0, .slice none 0 0, .slice none 0 0]
def head7 (t : Tv) (vz vb vr vd : Value) : List Value := [.string t.name, .int .i64 t.from_, .bool t.split, vz, vb, vr, vd]
/-- the call's three blocks: the argument, the result, the copy under work -/
structure CS (w wr : World) (t : Tv) (vz vb vr vd : Value) : Prop where
  below : Below w.heap.size w wr
  size : w.heap.size + 2 < wr.heap.size
  a : ∀ j u, (Flat.cells t)[j]? = some u → wr.cell? ⟨w.heap.size, j, none⟩ = some u
  r : ∀ j u, zeros7[j]? = some u → wr.cell? ⟨w.heap.size + 1, j, none⟩ = some u
  o : ∀ j u, (head7 t vz vb vr vd)[j]? = some u → wr.cell? ⟨w.heap.size + 1 + 1, j, none⟩ = some u
  rf : ∀ j, wr.frozen? ⟨w.heap.size + 1, j, none⟩ = false
  fz : ∀ j, wr.frozen? ⟨w.heap.size + 1 + 1, j, none⟩ = false
theorem CS.on {w wr w' : World} {t : Tv} {vz vb vr vd : Value} (h : CS w wr t vz vb vr vd) {B : Nat} (hB : w.heap.size + 2 < B) (hb : Below B wr w') : CS w w' t vz vb vr vd :=
  ⟨h.below.trans (hb.mono (by omega)), Nat.lt_of_lt_of_le h.size hb.size, fun j u hu => (hb.cell (p := ⟨_, j, none⟩) (by dsimp only; omega)).trans (h.a j u hu), fun j u hu => (hb.cell (p := ⟨_, j, none⟩) (by dsimp only; omega)).trans (h.r j u hu), fun j u hu => (hb.cell (p := ⟨_, j, none⟩) (by dsimp only; omega)).trans (h.o j u hu), fun j => (hb.frozen (p := ⟨_, j, none⟩) (by dsimp only; omega)).trans (h.rf j), fun j => (hb.frozen (p := ⟨_, j, none⟩) (by dsimp only; omega)).trans (h.fz j)⟩
theorem CS.set_ {w wr : World} {t : Tv} {vz vb vr vd vz' vb' vr' vd' : Value} (h : CS w wr t vz vb vr vd) (k : Nat) (hk : k < 7) {v : Value} (he : head7 t vz' vb' vr' vd' = (head7 t vz vb vr vd).set k v) : CS w (wr.setCell ⟨w.heap.size + 1 + 1, k, none⟩ v) t vz' vb' vr' vd' := by
  have hl : (head7 t vz vb vr vd).length = 7 := rfl
  have hold : ∃ u, wr.cell? ⟨w.heap.size + 1 + 1, k, none⟩ = some u := ⟨_, h.o k _ (List.getElem?_eq_getElem (by rw [hl]; exact hk))⟩
  obtain ⟨u0, hu0⟩ := hold
  refine ⟨h.below.setCell (by dsimp only; omega) _, by simpa [World.setCell] using h.size, fun j u hu => (World.cell?_setCell_other _ _ _ _ (fun e => by injection e with e1 e2; omega)).trans (h.a j u hu), fun j u hu => (World.cell?_setCell_other _ _ _ _ (fun e => by injection e with e1 e2; omega)).trans (h.r j u hu), fun j u hu => ?_, fun j => (World.frozen?_setCell _ _ _ _).trans (h.rf j), fun j => (World.frozen?_setCell _ _ _ _).trans (h.fz j)⟩
  rw [he, List.getElem?_set] at hu
  by_cases hkj : k = j
  · subst hkj
    rw [if_pos rfl, hl, if_pos hk] at hu
    injection hu with hu
    subst hu
    exact World.cell?_setCell_same _ _ _ hu0
  · rw [if_neg hkj] at hu
    exact (World.cell?_setCell_other _ _ _ _ (fun e => by injection e with e1 e2; omega)).trans (h.o j u hu)
theorem CS.start (w : World) (t : Tv) (e : TypeId) : ∃ W, W = ((w.alloc (.cells ⟨Flat.cells t⟩ e)).alloc (.cells ⟨zeros7⟩ e)).alloc (.cells ⟨Flat.cells t⟩ e) ∧ CS w W t (.slice t.Az t.nz t.cz) (.slice t.Ab t.nb t.cb) (.slice t.Ar t.nr t.cr) (.slice t.Ad t.nd t.cd) ∧ W.heap.size = w.heap.size + 1 + 1 + 1 := by
  have hs1 : ∀ o1 o2 : Obj, ((w.alloc o1).alloc o2).heap.size = w.heap.size + 1 + 1 := fun o1 o2 => by simp
  obtain ⟨W1, h1, hb1, hz1, fa, fb, qa, qb⟩ := box2 w (⟨Flat.cells t⟩ : Array Value) e (⟨zeros7⟩ : Array Value) e
  have hW1 : W1.heap.size = w.heap.size + 1 + 1 := by rw [h1]; exact hs1 _ _
  obtain ⟨W2, h2, hb2, hz2, fc, qc⟩ := box1 W1 (⟨Flat.cells t⟩ : Array Value) e
  have hW2 : W2.heap.size = w.heap.size + 1 + 1 + 1 := by rw [h2, alloc_size, hW1]
  refine ⟨W2, by rw [h2, h1], ⟨hb1.trans (hb2.mono (by omega)), by omega, fun j u hu => (hb2.cell (p := ⟨_, j, none⟩) (by dsimp only; omega)).trans (fa j u hu), fun j u hu => (hb2.cell (p := ⟨_, j, none⟩) (by dsimp only; omega)).trans (fb j u hu), fun j u hu => ?_, fun j => (hb2.frozen (p := ⟨_, j, none⟩) (by dsimp only; omega)).trans (qb j), fun j => ?_⟩, hW2⟩
  · have := fc j u hu
    rw [hW1] at this
    exact this
  · have := qc j
    rw [hW1] at this
    exact this
set_option maxHeartbeats 16000000 in
theorem clone_any (t : Tv) (T : Td) (w : World) (h : TD w t T) (hW : Wide T) :
    Calls Try.prog 28 #[t.val] w fun e w' => (∃ t' : Tv, e = .returned t'.val ∧ TDP w' (fun b => w.heap.size ≤ b) t' T) ∧ Below w.heap.size w w' := by
  obtain ⟨name, from_, split, Az, nz, cz, Ab, nb, cb, Ar, nr, cr, Ad, nd, cd⟩ := t
  obtain ⟨hname, hnm, hfrom, hsplit, ⟨hz0, zs, hz, az⟩, ⟨hb0, bs, hbs, ab⟩, ⟨hr0, rs, hr, ar⟩, ⟨hd0, ds, hd, ad⟩⟩ := h
  dsimp only at hname hfrom hsplit hz hbs hr hd
  have HN := Lib.hid (show name = T.name ∧ T.name.size ≤ maxLen ∧ from_ = T.from_ ∧ split = T.split from ⟨hname, hnm, hfrom, hsplit⟩)
  have HZ := Lib.hid hz
  have HB := Lib.hid hbs
  have HR := Lib.hid hr
  have HD := Lib.hid hd
  have hnz : nz ≤ 70 := by have := az.1; have := hz.len; have := hW.z; omega
  have hnb : nb ≤ 70 := by have := ab.1; have := hbs.len; have := hW.b; omega
  have hnr : nr ≤ 70 := by have := ar.1; have := hr.len; have := hW.r; omega
  have hnd : nd ≤ 70 := by have := ad.1; have := hd.len; have := hW.d; omega
  have AZ := Lib.hid az
  have AB := Lib.hid ab
  have AR := Lib.hid ar
  have AD := Lib.hid ad
  have HW := Lib.hid hW
  clear hname hnm hfrom hsplit hz0 hz az hb0 hbs ab hr0 hr ar hd0 hd ad hW
  unfold Tv.val
  dsimp only
  go_enter Try.func28, Try.ntmps28
  go_upto_region 2 with (fail)
  obtain ⟨W0, hW0, cs0, hsz0⟩ := CS.start w ⟨name, from_, split, Az, nz, cz, Ab, nb, cb, Ar, nr, cr, Ad, nd, cd⟩ 32
  refine Eq.mp (congrArg _ hW0) ?_
  clear hW0
  dsimp only at cs0
  have o3 := cs0.o 3 _ rfl
  have o4 := cs0.o 4 _ rfl
  have o5 := cs0.o 5 _ rfl
  have o6 := cs0.o 6 _ rfl
  have of := cs0.fz
  have CS0 := Lib.hid cs0
  clear cs0
  go_upto_region 3 with (fail)
  have cs1 := (((CS0.out.set_ 3 (by omega) (v := .slice none 0 0) rfl).set_ 4 (by omega) (v := .slice none 0 0) rfl).set_ 5 (by omega) (v := .slice none 0 0) rfl).set_ 6 (by omega) (v := .slice none 0 0) (vz' := .slice none 0 0) (vb' := .slice none 0 0) (vr' := .slice none 0 0) (vd' := .slice none 0 0) rfl
  have hsz1 : ((((W0.setCell ⟨w.heap.size + 1 + 1, 3, none⟩ (.slice none 0 0)).setCell ⟨w.heap.size + 1 + 1, 4, none⟩ (.slice none 0 0)).setCell ⟨w.heap.size + 1 + 1, 5, none⟩ (.slice none 0 0)).setCell ⟨w.heap.size + 1 + 1, 6, none⟩ (.slice none 0 0)).heap.size = w.heap.size + 1 + 1 + 1 := by simpa [World.setCell] using hsz0
  clear o3 o4 o5 o6 of CS0 hsz0
  revert cs1 hsz1
  generalize ((((W0.setCell ⟨w.heap.size + 1 + 1, 3, none⟩ (.slice none 0 0)).setCell ⟨w.heap.size + 1 + 1, 4, none⟩ (.slice none 0 0)).setCell ⟨w.heap.size + 1 + 1, 5, none⟩ (.slice none 0 0)).setCell ⟨w.heap.size + 1 + 1, 6, none⟩ (.slice none 0 0)) = W1
  intro cs1 hsz1
  clear W0
  have q3 := cs1.a 3 _ rfl
  have CS1 := Lib.hid cs1
  have HSZ1 := Lib.hid hsz1
  have hg1 : w.heap.size + 1 + 1 < W1.heap.size := by omega
  clear cs1 hsz1
  dsimp only at q3
  go_wp2_with fail
  go_loopw [20] (fun i wr => ∃ (k : Nat) (v : Value) (xs : List Nm), k ≤ nz ∧ i = .int .i64 k ∧ CS w wr ⟨name, from_, split, Az, nz, cz, Ab, nb, cb, Ar, nr, cr, Ad, nd, cd⟩ v (.slice none 0 0) (.slice none 0 0) (.slice none 0 0) ∧ (w.heap.size + 1 + 1 + 1) ≤ wr.heap.size ∧ Ow wr (w.heap.size + 1 + 1 + 1) 56 v xs ∧ Rowed ZRP (w.heap.size + 1 + 1 + 1) wr v xs (T.zs.take k)) (fun i _ => nz - (intOf i).toNat)
  case atStart => exact ⟨0, .slice none 0 0, [], Nat.zero_le _, rfl, CS1.out, Nat.le_of_eq HSZ1.out.symm, Ow.nil_ _ _ _, Rowed.nil_⟩
  case round =>
    clear q3 CS1 HSZ1 hg1
    obtain ⟨k, v, xs, hk, rfl, csr, hBr, how, hrow⟩ := hrel
    have hbA := csr.below
    have hsr : w.heap.size + 1 + 1 < wr.heap.size := csr.size
    have CSR := Lib.hid csr
    have HO := Lib.hid how
    have HVL := Lib.hid how.lt
    have HY := Lib.hid hrow
    have hxl : xs.length ≤ 70 := by have := hrow.1; rw [List.length_take] at this; omega
    clear csr how hrow
    by_cases hlt : k < nz
    · obtain ⟨x, hx⟩ := HZ.out.get hlt
      obtain ⟨d, hd, hxd⟩ := AZ.out.at_ hx
      obtain ⟨b, off, rfl, hbw, hcells⟩ := HZ.out.baseIn hbA (by omega)
      (have c0 : wr.cell? ⟨b, off + k * 2, none⟩ = some (.string x.name) := Sl.at_ hcells hx 0 rfl; have c1 : wr.cell? ⟨b, off + k * 2 + 1, none⟩ = some (.slice x.A x.n x.c) := Sl.at_ hcells hx 1 rfl)
      have HD1 := Lib.hid hd
      have HXD := Lib.hid hxd
      have hdl : x.n * 16 ≤ 140737488355328 := by have h1 := HW.out.zk d (List.mem_of_getElem? hd); rw [hxd.2.2.2.1.len] at h1; exact h1
      have hg : w.heap.size + 1 + 1 < wr.heap.size := hsr
      clear hcells hx hd hxd
      go_upto_region 6 with (fail)
      (obtain ⟨V, hWV, hbV, hzV, f1V, mfa⟩ := box1 wr #[.string x.name, .slice x.A x.n x.c] 56; rw [← hWV]; have ma0 : V.cell? ⟨wr.heap.size, 0, none⟩ = some (.string x.name) := f1V 0 _ rfl; have ma1 : V.cell? ⟨wr.heap.size, 1, none⟩ = some (.slice x.A x.n x.c) := f1V 1 _ rfl; clear hWV f1V)
      have hbAV := hbA.trans (hbV.mono hbA.size)
      have csV := CSR.out.on (Nat.lt_of_lt_of_le (by omega) (Nat.le_refl wr.heap.size)) hbV
      have HOV := Lib.hid (HO.out.below hbV)
      have HYV := Lib.hid (HY.out.below famZ hbV)
      have HBWV := Lib.hid hbV
      have o3 := csV.o 3 _ rfl
      have of := csV.fz
      have CSV := Lib.hid csV
      have hne : w.heap.size + 1 + 1 ≠ wr.heap.size := by omega
      have hVd : Below V.heap.size V V.drew := (Below.refl _ _).drew
      clear csV CSR HO HY hbV hbA mfa c0 c1
      refine wp_region_held_drew (S := fun wx : World => wx.cell? ⟨wr.heap.size, 0, none⟩ = some (.string x.name) ∧ wx.cell? ⟨wr.heap.size, 1, none⟩ = some (.slice x.A x.n x.c)) (by kernel_rfl) (by first | exact ⟨ma0, ma1⟩ | exact ⟨m0, m1⟩ | exact ⟨hm0, hm1⟩ | exact ⟨(World.cell?_alloc_lt _ _ _ hl2).trans m0, (World.cell?_alloc_lt _ _ _ hl2).trans m1⟩ | exact ⟨(World.cell?_setCell_far _ _ _ _ hne).trans hm0, (World.cell?_setCell_far _ _ _ _ hne).trans hm1⟩) (fun hHeld => ?_)
      refine wpAnyH_take (i := 0) (v := ?_) rfl (by kernel_rfl) (by kernel_rfl) (by kernel_rfl) (fun _ _ _ h => h) (Or.inl ⟨by rfl, ?_⟩) (by assumption) ?_
      rotate_left
      · intro w hSw; (try dsimp only at hSw); go_simp; (try with_reducible rfl)
      (try simp only [Act.put, List.setIfInBounds_toArray, List.set_cons_zero, List.set_cons_succ])
      refine wpAnyH_take (i := 2) (v := ?_) rfl (by kernel_rfl) (by kernel_rfl) (by kernel_rfl) (fun _ _ _ h => h) (Or.inl ⟨by rfl, ?_⟩) (by assumption) ?_
      rotate_left
      · intro w hSw; (try dsimp only at hSw); go_simp; (try with_reducible rfl)
      (try simp only [Act.put, List.setIfInBounds_toArray, List.set_cons_zero, List.set_cons_succ])
      refine wpAnyH_take (i := 3) (v := ?_) rfl (by kernel_rfl) (by kernel_rfl) (by kernel_rfl) (fun _ _ _ h => h) (Or.inl ⟨by rfl, ?_⟩) (by assumption) ?_
      rotate_left
      · intro w hSw; (try dsimp only at hSw); go_simp; (try with_reducible rfl)
      (try simp only [Act.put, List.setIfInBounds_toArray, List.set_cons_zero, List.set_cons_succ])
      refine wpAnyH_take (i := 4) (v := ?_) rfl (by kernel_rfl) (by kernel_rfl) (by kernel_rfl) (fun _ _ _ h => h) (Or.inl ⟨by rfl, ?_⟩) (by assumption) ?_
      rotate_left
      · intro w hSw; (try dsimp only at hSw); go_simp; (try with_reducible rfl)
      (try simp only [Act.put, List.setIfInBounds_toArray, List.set_cons_zero, List.set_cons_succ])
      refine wpAnyH_take (i := 5) (v := ?_) rfl (by kernel_rfl) (by kernel_rfl) (by kernel_rfl) (fun _ _ _ h => h) (Or.inl ⟨by rfl, ?_⟩) (by assumption) ?_
      rotate_left
      · intro w hSw; (try dsimp only at hSw); go_simp; (try with_reducible rfl)
      (try simp only [Act.put, List.setIfInBounds_toArray, List.set_cons_zero, List.set_cons_succ])
      refine wpAnyH_ready (rs := [1, 6]) (by kernel_rfl) (by simp) ?_
      refine AllReadyH.cons rfl (fun K' hK => ?_) (AllReadyH.cons rfl (fun K' hK => ?_) AllReadyH.nil)
      · go_simp
        refine hK.out _ _ (by first | exact ⟨ma0, ma1⟩ | exact ⟨m0, m1⟩ | exact ⟨hm0, hm1⟩ | exact ⟨(World.cell?_alloc_lt _ _ _ hl2).trans m0, (World.cell?_alloc_lt _ _ _ hl2).trans m1⟩ | exact ⟨(World.cell?_setCell_far _ _ _ _ hne).trans hm0, (World.cell?_setCell_far _ _ _ _ hne).trans hm1⟩) (fun hHeld => ?_)
        clear hK K'
        (try simp only [Act.put, List.setIfInBounds_toArray, List.set_cons_zero, List.set_cons_succ])
        refine wpAnyH_ready (rs := [6]) (by kernel_rfl) (by simp) ?_
        refine AllReadyH.cons rfl (fun K' hK => ?_) AllReadyH.nil
        go_simp
        (go_at_call 46; refine (copied_str x.A x.n x.c d.2 _ (HXD.out.2.2.2.1.below (hbAV.trans (hVd.mono hbAV.size))) HXD.out.2.2.1 hdl).mono ?_; rintro e w2 ⟨⟨A2, c2, rfl, hn2, hok2, hs2⟩, hb2⟩; have hbV2 : Below V.heap.size V w2 := hVd.trans hb2; have csW := CSV.out.on (Nat.lt_of_lt_of_le (by omega) (Nat.le_refl V.heap.size)) hbV2; have o3 := csW.o 3 _ rfl; have of := csW.fz; have m0 := (hbV2.cell (p := ⟨_, _, none⟩) hzV).trans ma0; have m1 := (hbV2.cell (p := ⟨_, _, none⟩) hzV).trans ma1; have hl2 : wr.heap.size < w2.heap.size := Nat.lt_of_lt_of_le hzV hbV2.size; have o3a : ∀ o : Obj, (w2.alloc o).cell? ⟨w.heap.size + 1 + 1, 3, none⟩ = some v := (fun o => (World.cell?_alloc_lt _ _ _ (Nat.lt_trans hg hl2)).trans o3); have CS2 := Lib.hid csW; have HB2 := Lib.hid hbV2; have HS2 := Lib.hid (And.intro hn2 (And.intro hok2 hs2)); clear csW hb2 hbV2 hn2 hok2 hs2)
        refine hK.out _ _ (by first | exact ⟨ma0, ma1⟩ | exact ⟨m0, m1⟩ | exact ⟨hm0, hm1⟩ | exact ⟨(World.cell?_alloc_lt _ _ _ hl2).trans m0, (World.cell?_alloc_lt _ _ _ hl2).trans m1⟩ | exact ⟨(World.cell?_setCell_far _ _ _ _ hne).trans hm0, (World.cell?_setCell_far _ _ _ _ hne).trans hm1⟩) (fun hHeld => ?_)
        clear hK K'
        (try simp only [Act.put, List.setIfInBounds_toArray, List.set_cons_zero, List.set_cons_succ])
        refine wpAnyH_take (i := 7) (v := ?_) rfl (by kernel_rfl) (by kernel_rfl) (by kernel_rfl) (fun _ _ _ h => h) (Or.inl ⟨by rfl, ?_⟩) (by assumption) ?_
        rotate_left
        · intro w hSw; (try dsimp only at hSw); go_simp; (try with_reducible rfl)
        (try simp only [Act.put, List.setIfInBounds_toArray, List.set_cons_zero, List.set_cons_succ])
        refine wpAnyH_ready (rs := [8]) (by kernel_rfl) (by simp) ?_
        refine AllReadyH.cons rfl (fun K' hK => ?_) AllReadyH.nil
        go_simp
        refine hK.out _ _ (by first | exact ⟨ma0, ma1⟩ | exact ⟨m0, m1⟩ | exact ⟨hm0, hm1⟩ | exact ⟨(World.cell?_alloc_lt _ _ _ hl2).trans m0, (World.cell?_alloc_lt _ _ _ hl2).trans m1⟩ | exact ⟨(World.cell?_setCell_far _ _ _ _ hne).trans hm0, (World.cell?_setCell_far _ _ _ _ hne).trans hm1⟩) (fun hHeld => ?_)
        clear hK K'
        (try simp only [Act.put, List.setIfInBounds_toArray, List.set_cons_zero, List.set_cons_succ])
        refine wpAnyH_ready (rs := [9]) (by kernel_rfl) (by simp) ?_
        refine AllReadyH.cons rfl (fun K' hK => ?_) AllReadyH.nil
        (refine step_append rfl (.tmp 25) (.tmp 32) 27 rfl (w.heap.size + 1 + 1 + 1) 56 _ 40 Try.underlying27 info_zone rfl v xs rfl ((HOV.out.below HB2.out).alloc _) _ 1 1 [(⟨x.name, A2, x.n, c2⟩ : Nm)] rfl (fun h => by cases h) (Sl.new w2 #[.string x.name, .slice A2 x.n c2] 56 w2.heap.size rfl [(⟨x.name, A2, x.n, c2⟩ : Nm)] 1 rfl (by unfold maxLen; decide) rfl) (by omega) (by omega) (by rw [alloc_size]; have := HB2.out.size; have := CSV.out.size; omega) ?_; intro v5 w5 ho5 hu5; have hbl5 := hu5.belowBase ((HOV.out.below HB2.out).alloc _) (Below.refl _ _) (by rw [alloc_size]; have := HB2.out.size; have := CSV.out.size; omega); have cs5 := (CS2.out.on (Nat.lt_of_lt_of_le (by have := HB2.out.size; omega) (Nat.le_refl w2.heap.size)) ((Below.refl w2.heap.size w2).alloc (Nat.le_refl _) _)).on (by omega) hbl5; have o3 := cs5.o 3 _ rfl; have of := cs5.fz; obtain ⟨A6, m6, c6, hv6⟩ : ∃ (A6 : Option Addr) (m6 c6 : Nat), v5 = .slice A6 m6 c6 := (by obtain ⟨A6, c6, hv, _⟩ := ho5.val; exact ⟨_, _, _, hv⟩); subst hv6; have HO5 := Lib.hid ho5; have HU5 := Lib.hid hu5; have CS5 := Lib.hid cs5; have hkp := Keeps.ofUpd (p := fun b => b = wr.heap.size) hu5 (fun b hb e => by have := (HVL.out b e).2; omega); have hm0 := (hkp.2 _ 0 rfl (by rw [alloc_size]; have := HB2.out.size; omega)).trans ((World.cell?_alloc_lt _ _ _ (by dsimp only; have := HB2.out.size; omega)).trans m0); have hm1 := (hkp.2 _ 1 rfl (by rw [alloc_size]; have := HB2.out.size; omega)).trans ((World.cell?_alloc_lt _ _ _ (by dsimp only; have := HB2.out.size; omega)).trans m1); clear ho5 hu5 cs5 hbl5 hkp)
        refine hK.out _ _ (by first | exact ⟨ma0, ma1⟩ | exact ⟨m0, m1⟩ | exact ⟨hm0, hm1⟩ | exact ⟨(World.cell?_alloc_lt _ _ _ hl2).trans m0, (World.cell?_alloc_lt _ _ _ hl2).trans m1⟩ | exact ⟨(World.cell?_setCell_far _ _ _ _ hne).trans hm0, (World.cell?_setCell_far _ _ _ _ hne).trans hm1⟩) (fun hHeld => ?_)
        clear hK K'
        (try simp only [Act.put, List.setIfInBounds_toArray, List.set_cons_zero, List.set_cons_succ])
        refine wpAnyH_take (i := 10) (v := ?_) rfl (by kernel_rfl) (by kernel_rfl) (by kernel_rfl) (fun _ _ _ h => h) (Or.inl ⟨by rfl, ?_⟩) (by assumption) ?_
        rotate_left
        · intro w hSw; (try dsimp only at hSw); go_simp; (try with_reducible rfl)
        (try simp only [Act.put, List.setIfInBounds_toArray, List.set_cons_zero, List.set_cons_succ])
        refine wpAnyH_ready (rs := [11]) (by kernel_rfl) (by simp) ?_
        refine AllReadyH.cons rfl (fun K' hK => ?_) AllReadyH.nil
        go_simp
        refine hK.out _ _ (by first | exact ⟨ma0, ma1⟩ | exact ⟨m0, m1⟩ | exact ⟨hm0, hm1⟩ | exact ⟨(World.cell?_alloc_lt _ _ _ hl2).trans m0, (World.cell?_alloc_lt _ _ _ hl2).trans m1⟩ | exact ⟨(World.cell?_setCell_far _ _ _ _ hne).trans hm0, (World.cell?_setCell_far _ _ _ _ hne).trans hm1⟩) (fun hHeld => ?_)
        clear hK K'
        (try simp only [Act.put, List.setIfInBounds_toArray, List.set_cons_zero, List.set_cons_succ])
        refine wpAnyH_done (by kernel_rfl) ?_ _
        have hbb : (⟨w.heap.size + 1 + 1, 3, none⟩ : Addr).block = w.heap.size + 1 + 1 := rfl
        have csS := CS5.out.set_ 3 (by omega) (v := .slice A6 m6 c6) (vz' := (.slice A6 m6 c6)) (vb' := (.slice none 0 0)) (vr' := (.slice none 0 0)) (vd' := (.slice none 0 0)) rfl
        have hoS := HO5.out.setFar (p := ⟨w.heap.size + 1 + 1, 3, none⟩) (fun e => by have := (HO5.out.lt _ e).1; have := True.intro; omega) (.slice A6 m6 c6)
        have hyS := (((Rowed.snoc famZ (HYV.out.below famZ HB2.out) (B := V.heap.size) (x := ⟨x.name, A2, x.n, c2⟩) (y := d) (by have := CSV.out.size; omega) (fun g hg => by have := (HVL.out g hg).2; omega) ⟨⟨HXD.out.1, HXD.out.2.1, HS2.out.1, HS2.out.2.2, HXD.out.2.2.2.2⟩, HS2.out.2.1⟩).below famZ ((Below.refl w2.heap.size w2).alloc (Nat.le_refl _) _)).upd famZ HU5.out).keep famZ (Keeps.ofSet (g := w.heap.size + 1 + 1) (o := 3) (u := .slice A6 m6 c6) fun b hb => by have := hb.1; omega)
        have CSS := Lib.hid csS
        have HSZ := Lib.hid (show (w.heap.size + 1 + 1 + 1) ≤ (w5.setCell ⟨w.heap.size + 1 + 1, 3, none⟩ (.slice A6 m6 c6)).heap.size by rw [World.size_setCell]; have h1 := HU5.out.size; rw [World.size_alloc] at h1; have h2 := HB2.out.size; omega)
        have HOS := Lib.hid hoS
        have HYS := Lib.hid hyS
        clear csS hoS hyS hHeld m0 m1 hm0 hm1 o3 of o3a
        go_wp2_with fail
        go_roundw
        case rel => exact ⟨k + 1, _, xs ++ [⟨x.name, A2, x.n, c2⟩], by omega, by go_num, CSS.out, HSZ.out, HOS.out, by rw [List.take_add_one, HD1.out]; exact HYS.out⟩
        case measure => simp [intOf]; omega
      · go_simp
        (go_at_call 46; refine (copied_str x.A x.n x.c d.2 _ (HXD.out.2.2.2.1.below (hbAV.trans (hVd.mono hbAV.size))) HXD.out.2.2.1 hdl).mono ?_; rintro e w2 ⟨⟨A2, c2, rfl, hn2, hok2, hs2⟩, hb2⟩; have hbV2 : Below V.heap.size V w2 := hVd.trans hb2; have csW := CSV.out.on (Nat.lt_of_lt_of_le (by omega) (Nat.le_refl V.heap.size)) hbV2; have o3 := csW.o 3 _ rfl; have of := csW.fz; have m0 := (hbV2.cell (p := ⟨_, _, none⟩) hzV).trans ma0; have m1 := (hbV2.cell (p := ⟨_, _, none⟩) hzV).trans ma1; have hl2 : wr.heap.size < w2.heap.size := Nat.lt_of_lt_of_le hzV hbV2.size; have o3a : ∀ o : Obj, (w2.alloc o).cell? ⟨w.heap.size + 1 + 1, 3, none⟩ = some v := (fun o => (World.cell?_alloc_lt _ _ _ (Nat.lt_trans hg hl2)).trans o3); have CS2 := Lib.hid csW; have HB2 := Lib.hid hbV2; have HS2 := Lib.hid (And.intro hn2 (And.intro hok2 hs2)); clear csW hb2 hbV2 hn2 hok2 hs2)
        refine hK.out _ _ (by first | exact ⟨ma0, ma1⟩ | exact ⟨m0, m1⟩ | exact ⟨hm0, hm1⟩ | exact ⟨(World.cell?_alloc_lt _ _ _ hl2).trans m0, (World.cell?_alloc_lt _ _ _ hl2).trans m1⟩ | exact ⟨(World.cell?_setCell_far _ _ _ _ hne).trans hm0, (World.cell?_setCell_far _ _ _ _ hne).trans hm1⟩) (fun hHeld => ?_)
        clear hK K'
        (try simp only [Act.put, List.setIfInBounds_toArray, List.set_cons_zero, List.set_cons_succ])
        refine wpAnyH_take (i := 7) (v := ?_) rfl (by kernel_rfl) (by kernel_rfl) (by kernel_rfl) (fun _ _ _ h => h) (Or.inl ⟨by rfl, ?_⟩) (by assumption) ?_
        rotate_left
        · intro w hSw; (try dsimp only at hSw); go_simp; (try with_reducible rfl)
        (try simp only [Act.put, List.setIfInBounds_toArray, List.set_cons_zero, List.set_cons_succ])
        refine wpAnyH_ready (rs := [1, 8]) (by kernel_rfl) (by simp) ?_
        refine AllReadyH.cons rfl (fun K' hK => ?_) (AllReadyH.cons rfl (fun K' hK => ?_) AllReadyH.nil)
        · go_simp
          refine hK.out _ _ (by first | exact ⟨ma0, ma1⟩ | exact ⟨m0, m1⟩ | exact ⟨hm0, hm1⟩ | exact ⟨(World.cell?_alloc_lt _ _ _ hl2).trans m0, (World.cell?_alloc_lt _ _ _ hl2).trans m1⟩ | exact ⟨(World.cell?_setCell_far _ _ _ _ hne).trans hm0, (World.cell?_setCell_far _ _ _ _ hne).trans hm1⟩) (fun hHeld => ?_)
          clear hK K'
          (try simp only [Act.put, List.setIfInBounds_toArray, List.set_cons_zero, List.set_cons_succ])
          refine wpAnyH_ready (rs := [8]) (by kernel_rfl) (by simp) ?_
          refine AllReadyH.cons rfl (fun K' hK => ?_) AllReadyH.nil
          go_simp
          refine hK.out _ _ (by first | exact ⟨ma0, ma1⟩ | exact ⟨m0, m1⟩ | exact ⟨hm0, hm1⟩ | exact ⟨(World.cell?_alloc_lt _ _ _ hl2).trans m0, (World.cell?_alloc_lt _ _ _ hl2).trans m1⟩ | exact ⟨(World.cell?_setCell_far _ _ _ _ hne).trans hm0, (World.cell?_setCell_far _ _ _ _ hne).trans hm1⟩) (fun hHeld => ?_)
          clear hK K'
          (try simp only [Act.put, List.setIfInBounds_toArray, List.set_cons_zero, List.set_cons_succ])
          refine wpAnyH_ready (rs := [9]) (by kernel_rfl) (by simp) ?_
          refine AllReadyH.cons rfl (fun K' hK => ?_) AllReadyH.nil
          (refine step_append rfl (.tmp 25) (.tmp 32) 27 rfl (w.heap.size + 1 + 1 + 1) 56 _ 40 Try.underlying27 info_zone rfl v xs rfl ((HOV.out.below HB2.out).alloc _) _ 1 1 [(⟨x.name, A2, x.n, c2⟩ : Nm)] rfl (fun h => by cases h) (Sl.new w2 #[.string x.name, .slice A2 x.n c2] 56 w2.heap.size rfl [(⟨x.name, A2, x.n, c2⟩ : Nm)] 1 rfl (by unfold maxLen; decide) rfl) (by omega) (by omega) (by rw [alloc_size]; have := HB2.out.size; have := CSV.out.size; omega) ?_; intro v5 w5 ho5 hu5; have hbl5 := hu5.belowBase ((HOV.out.below HB2.out).alloc _) (Below.refl _ _) (by rw [alloc_size]; have := HB2.out.size; have := CSV.out.size; omega); have cs5 := (CS2.out.on (Nat.lt_of_lt_of_le (by have := HB2.out.size; omega) (Nat.le_refl w2.heap.size)) ((Below.refl w2.heap.size w2).alloc (Nat.le_refl _) _)).on (by omega) hbl5; have o3 := cs5.o 3 _ rfl; have of := cs5.fz; obtain ⟨A6, m6, c6, hv6⟩ : ∃ (A6 : Option Addr) (m6 c6 : Nat), v5 = .slice A6 m6 c6 := (by obtain ⟨A6, c6, hv, _⟩ := ho5.val; exact ⟨_, _, _, hv⟩); subst hv6; have HO5 := Lib.hid ho5; have HU5 := Lib.hid hu5; have CS5 := Lib.hid cs5; have hkp := Keeps.ofUpd (p := fun b => b = wr.heap.size) hu5 (fun b hb e => by have := (HVL.out b e).2; omega); have hm0 := (hkp.2 _ 0 rfl (by rw [alloc_size]; have := HB2.out.size; omega)).trans ((World.cell?_alloc_lt _ _ _ (by dsimp only; have := HB2.out.size; omega)).trans m0); have hm1 := (hkp.2 _ 1 rfl (by rw [alloc_size]; have := HB2.out.size; omega)).trans ((World.cell?_alloc_lt _ _ _ (by dsimp only; have := HB2.out.size; omega)).trans m1); clear ho5 hu5 cs5 hbl5 hkp)
          refine hK.out _ _ (by first | exact ⟨ma0, ma1⟩ | exact ⟨m0, m1⟩ | exact ⟨hm0, hm1⟩ | exact ⟨(World.cell?_alloc_lt _ _ _ hl2).trans m0, (World.cell?_alloc_lt _ _ _ hl2).trans m1⟩ | exact ⟨(World.cell?_setCell_far _ _ _ _ hne).trans hm0, (World.cell?_setCell_far _ _ _ _ hne).trans hm1⟩) (fun hHeld => ?_)
          clear hK K'
          (try simp only [Act.put, List.setIfInBounds_toArray, List.set_cons_zero, List.set_cons_succ])
          refine wpAnyH_take (i := 10) (v := ?_) rfl (by kernel_rfl) (by kernel_rfl) (by kernel_rfl) (fun _ _ _ h => h) (Or.inl ⟨by rfl, ?_⟩) (by assumption) ?_
          rotate_left
          · intro w hSw; (try dsimp only at hSw); go_simp; (try with_reducible rfl)
          (try simp only [Act.put, List.setIfInBounds_toArray, List.set_cons_zero, List.set_cons_succ])
          refine wpAnyH_ready (rs := [11]) (by kernel_rfl) (by simp) ?_
          refine AllReadyH.cons rfl (fun K' hK => ?_) AllReadyH.nil
          go_simp
          refine hK.out _ _ (by first | exact ⟨ma0, ma1⟩ | exact ⟨m0, m1⟩ | exact ⟨hm0, hm1⟩ | exact ⟨(World.cell?_alloc_lt _ _ _ hl2).trans m0, (World.cell?_alloc_lt _ _ _ hl2).trans m1⟩ | exact ⟨(World.cell?_setCell_far _ _ _ _ hne).trans hm0, (World.cell?_setCell_far _ _ _ _ hne).trans hm1⟩) (fun hHeld => ?_)
          clear hK K'
          (try simp only [Act.put, List.setIfInBounds_toArray, List.set_cons_zero, List.set_cons_succ])
          refine wpAnyH_done (by kernel_rfl) ?_ _
          have hbb : (⟨w.heap.size + 1 + 1, 3, none⟩ : Addr).block = w.heap.size + 1 + 1 := rfl
          have csS := CS5.out.set_ 3 (by omega) (v := .slice A6 m6 c6) (vz' := (.slice A6 m6 c6)) (vb' := (.slice none 0 0)) (vr' := (.slice none 0 0)) (vd' := (.slice none 0 0)) rfl
          have hoS := HO5.out.setFar (p := ⟨w.heap.size + 1 + 1, 3, none⟩) (fun e => by have := (HO5.out.lt _ e).1; have := True.intro; omega) (.slice A6 m6 c6)
          have hyS := (((Rowed.snoc famZ (HYV.out.below famZ HB2.out) (B := V.heap.size) (x := ⟨x.name, A2, x.n, c2⟩) (y := d) (by have := CSV.out.size; omega) (fun g hg => by have := (HVL.out g hg).2; omega) ⟨⟨HXD.out.1, HXD.out.2.1, HS2.out.1, HS2.out.2.2, HXD.out.2.2.2.2⟩, HS2.out.2.1⟩).below famZ ((Below.refl w2.heap.size w2).alloc (Nat.le_refl _) _)).upd famZ HU5.out).keep famZ (Keeps.ofSet (g := w.heap.size + 1 + 1) (o := 3) (u := .slice A6 m6 c6) fun b hb => by have := hb.1; omega)
          have CSS := Lib.hid csS
          have HSZ := Lib.hid (show (w.heap.size + 1 + 1 + 1) ≤ (w5.setCell ⟨w.heap.size + 1 + 1, 3, none⟩ (.slice A6 m6 c6)).heap.size by rw [World.size_setCell]; have h1 := HU5.out.size; rw [World.size_alloc] at h1; have h2 := HB2.out.size; omega)
          have HOS := Lib.hid hoS
          have HYS := Lib.hid hyS
          clear csS hoS hyS hHeld m0 m1 hm0 hm1 o3 of o3a
          go_wp2_with fail
          go_roundw
          case rel => exact ⟨k + 1, _, xs ++ [⟨x.name, A2, x.n, c2⟩], by omega, by go_num, CSS.out, HSZ.out, HOS.out, by rw [List.take_add_one, HD1.out]; exact HYS.out⟩
          case measure => simp [intOf]; omega
        · go_simp
          refine hK.out _ _ (by first | exact ⟨ma0, ma1⟩ | exact ⟨m0, m1⟩ | exact ⟨hm0, hm1⟩ | exact ⟨(World.cell?_alloc_lt _ _ _ hl2).trans m0, (World.cell?_alloc_lt _ _ _ hl2).trans m1⟩ | exact ⟨(World.cell?_setCell_far _ _ _ _ hne).trans hm0, (World.cell?_setCell_far _ _ _ _ hne).trans hm1⟩) (fun hHeld => ?_)
          clear hK K'
          (try simp only [Act.put, List.setIfInBounds_toArray, List.set_cons_zero, List.set_cons_succ])
          refine wpAnyH_ready (rs := [1]) (by kernel_rfl) (by simp) ?_
          refine AllReadyH.cons rfl (fun K' hK => ?_) AllReadyH.nil
          go_simp
          refine hK.out _ _ (by first | exact ⟨ma0, ma1⟩ | exact ⟨m0, m1⟩ | exact ⟨hm0, hm1⟩ | exact ⟨(World.cell?_alloc_lt _ _ _ hl2).trans m0, (World.cell?_alloc_lt _ _ _ hl2).trans m1⟩ | exact ⟨(World.cell?_setCell_far _ _ _ _ hne).trans hm0, (World.cell?_setCell_far _ _ _ _ hne).trans hm1⟩) (fun hHeld => ?_)
          clear hK K'
          (try simp only [Act.put, List.setIfInBounds_toArray, List.set_cons_zero, List.set_cons_succ])
          refine wpAnyH_ready (rs := [9]) (by kernel_rfl) (by simp) ?_
          refine AllReadyH.cons rfl (fun K' hK => ?_) AllReadyH.nil
          (refine step_append rfl (.tmp 25) (.tmp 32) 27 rfl (w.heap.size + 1 + 1 + 1) 56 _ 40 Try.underlying27 info_zone rfl v xs rfl ((HOV.out.below HB2.out).alloc _) _ 1 1 [(⟨x.name, A2, x.n, c2⟩ : Nm)] rfl (fun h => by cases h) (Sl.new w2 #[.string x.name, .slice A2 x.n c2] 56 w2.heap.size rfl [(⟨x.name, A2, x.n, c2⟩ : Nm)] 1 rfl (by unfold maxLen; decide) rfl) (by omega) (by omega) (by rw [alloc_size]; have := HB2.out.size; have := CSV.out.size; omega) ?_; intro v5 w5 ho5 hu5; have hbl5 := hu5.belowBase ((HOV.out.below HB2.out).alloc _) (Below.refl _ _) (by rw [alloc_size]; have := HB2.out.size; have := CSV.out.size; omega); have cs5 := (CS2.out.on (Nat.lt_of_lt_of_le (by have := HB2.out.size; omega) (Nat.le_refl w2.heap.size)) ((Below.refl w2.heap.size w2).alloc (Nat.le_refl _) _)).on (by omega) hbl5; have o3 := cs5.o 3 _ rfl; have of := cs5.fz; obtain ⟨A6, m6, c6, hv6⟩ : ∃ (A6 : Option Addr) (m6 c6 : Nat), v5 = .slice A6 m6 c6 := (by obtain ⟨A6, c6, hv, _⟩ := ho5.val; exact ⟨_, _, _, hv⟩); subst hv6; have HO5 := Lib.hid ho5; have HU5 := Lib.hid hu5; have CS5 := Lib.hid cs5; have hkp := Keeps.ofUpd (p := fun b => b = wr.heap.size) hu5 (fun b hb e => by have := (HVL.out b e).2; omega); have hm0 := (hkp.2 _ 0 rfl (by rw [alloc_size]; have := HB2.out.size; omega)).trans ((World.cell?_alloc_lt _ _ _ (by dsimp only; have := HB2.out.size; omega)).trans m0); have hm1 := (hkp.2 _ 1 rfl (by rw [alloc_size]; have := HB2.out.size; omega)).trans ((World.cell?_alloc_lt _ _ _ (by dsimp only; have := HB2.out.size; omega)).trans m1); clear ho5 hu5 cs5 hbl5 hkp)
          refine hK.out _ _ (by first | exact ⟨ma0, ma1⟩ | exact ⟨m0, m1⟩ | exact ⟨hm0, hm1⟩ | exact ⟨(World.cell?_alloc_lt _ _ _ hl2).trans m0, (World.cell?_alloc_lt _ _ _ hl2).trans m1⟩ | exact ⟨(World.cell?_setCell_far _ _ _ _ hne).trans hm0, (World.cell?_setCell_far _ _ _ _ hne).trans hm1⟩) (fun hHeld => ?_)
          clear hK K'
          (try simp only [Act.put, List.setIfInBounds_toArray, List.set_cons_zero, List.set_cons_succ])
          refine wpAnyH_take (i := 10) (v := ?_) rfl (by kernel_rfl) (by kernel_rfl) (by kernel_rfl) (fun _ _ _ h => h) (Or.inl ⟨by rfl, ?_⟩) (by assumption) ?_
          rotate_left
          · intro w hSw; (try dsimp only at hSw); go_simp; (try with_reducible rfl)
          (try simp only [Act.put, List.setIfInBounds_toArray, List.set_cons_zero, List.set_cons_succ])
          refine wpAnyH_ready (rs := [11]) (by kernel_rfl) (by simp) ?_
          refine AllReadyH.cons rfl (fun K' hK => ?_) AllReadyH.nil
          go_simp
          refine hK.out _ _ (by first | exact ⟨ma0, ma1⟩ | exact ⟨m0, m1⟩ | exact ⟨hm0, hm1⟩ | exact ⟨(World.cell?_alloc_lt _ _ _ hl2).trans m0, (World.cell?_alloc_lt _ _ _ hl2).trans m1⟩ | exact ⟨(World.cell?_setCell_far _ _ _ _ hne).trans hm0, (World.cell?_setCell_far _ _ _ _ hne).trans hm1⟩) (fun hHeld => ?_)
          clear hK K'
          (try simp only [Act.put, List.setIfInBounds_toArray, List.set_cons_zero, List.set_cons_succ])
          refine wpAnyH_done (by kernel_rfl) ?_ _
          have hbb : (⟨w.heap.size + 1 + 1, 3, none⟩ : Addr).block = w.heap.size + 1 + 1 := rfl
          have csS := CS5.out.set_ 3 (by omega) (v := .slice A6 m6 c6) (vz' := (.slice A6 m6 c6)) (vb' := (.slice none 0 0)) (vr' := (.slice none 0 0)) (vd' := (.slice none 0 0)) rfl
          have hoS := HO5.out.setFar (p := ⟨w.heap.size + 1 + 1, 3, none⟩) (fun e => by have := (HO5.out.lt _ e).1; have := True.intro; omega) (.slice A6 m6 c6)
          have hyS := (((Rowed.snoc famZ (HYV.out.below famZ HB2.out) (B := V.heap.size) (x := ⟨x.name, A2, x.n, c2⟩) (y := d) (by have := CSV.out.size; omega) (fun g hg => by have := (HVL.out g hg).2; omega) ⟨⟨HXD.out.1, HXD.out.2.1, HS2.out.1, HS2.out.2.2, HXD.out.2.2.2.2⟩, HS2.out.2.1⟩).below famZ ((Below.refl w2.heap.size w2).alloc (Nat.le_refl _) _)).upd famZ HU5.out).keep famZ (Keeps.ofSet (g := w.heap.size + 1 + 1) (o := 3) (u := .slice A6 m6 c6) fun b hb => by have := hb.1; omega)
          have CSS := Lib.hid csS
          have HSZ := Lib.hid (show (w.heap.size + 1 + 1 + 1) ≤ (w5.setCell ⟨w.heap.size + 1 + 1, 3, none⟩ (.slice A6 m6 c6)).heap.size by rw [World.size_setCell]; have h1 := HU5.out.size; rw [World.size_alloc] at h1; have h2 := HB2.out.size; omega)
          have HOS := Lib.hid hoS
          have HYS := Lib.hid hyS
          clear csS hoS hyS hHeld m0 m1 hm0 hm1 o3 of o3a
          go_wp2_with fail
          go_roundw
          case rel => exact ⟨k + 1, _, xs ++ [⟨x.name, A2, x.n, c2⟩], by omega, by go_num, CSS.out, HSZ.out, HOS.out, by rw [List.take_add_one, HD1.out]; exact HYS.out⟩
          case measure => simp [intOf]; omega
    · obtain rfl : nz = k := by omega
      have hkn : ¬ ((nz : Int) < (nz : Int)) := by omega
      have htk : T.zs.take nz = T.zs := List.take_of_length_le (by have := AZ.out.1; have := HZ.out.len; omega)
      obtain ⟨Az3, mz3, cz3, rfl, hn3, hlsp⟩ := LSP.ofRow famZ HO.out HY.out
      rw [htk] at hlsp
      have Hlz := Lib.hid (hlsp.lt famZ)
      clear hlsp hn3 htk HO HVL HY hxl xs
      obtain ⟨wz, hwz⟩ : ∃ wz, wz = wr := ⟨_, rfl⟩
      subst hwz
      have hgwz : w.heap.size + 1 + 1 < wz.heap.size := hsr
      have q3 := CSR.out.a 4 _ rfl
      dsimp only at q3
      go_wp2_with fail
      go_loopw [39] (fun i wr => ∃ (k : Nat) (v : Value) (xs : List Nm), k ≤ nb ∧ i = .int .i64 k ∧ CS w wr ⟨name, from_, split, Az, nz, cz, Ab, nb, cb, Ar, nr, cr, Ad, nd, cd⟩ (.slice Az3 mz3 cz3) v (.slice none 0 0) (.slice none 0 0) ∧ wz.heap.size ≤ wr.heap.size ∧ Ow wr wz.heap.size 70 v xs ∧ Rowed BRP wz.heap.size wr v xs (T.bs.take k) ∧ LSP ZRP wr (fun b => (w.heap.size + 1 + 1 + 1) ≤ b ∧ b < wz.heap.size) Az3 mz3 cz3 T.zs) (fun i _ => nb - (intOf i).toNat)
      case atStart => exact ⟨0, .slice none 0 0, [], Nat.zero_le _, rfl, CSR.out, Nat.le_refl _, Ow.nil_ _ _ _, Rowed.nil_, Hlz.out⟩
      case round =>
        clear q3 CSR
        obtain ⟨k, v, xs, hk, rfl, csr, hBr, how, hrow, hlz⟩ := hrel
        have hbA := csr.below
        have hsr : w.heap.size + 1 + 1 < wr.heap.size := csr.size
        have CSR := Lib.hid csr
        have HO := Lib.hid how
        have HVL := Lib.hid how.lt
        have HY := Lib.hid hrow
        have hxl : xs.length ≤ 70 := by have := hrow.1; rw [List.length_take] at this; omega
        clear csr how hrow
        have Llz := Lib.hid hlz
        clear hlz
        by_cases hlt : k < nb
        · obtain ⟨x, hx⟩ := HB.out.get hlt
          obtain ⟨d, hd, hxd⟩ := AB.out.at_ hx
          obtain ⟨b, off, rfl, hbw, hcells⟩ := HB.out.baseIn hbA (by omega)
          (have c0 : wr.cell? ⟨b, off + k * 2, none⟩ = some (.string x.name) := Sl.at_ hcells hx 0 rfl; have c1 : wr.cell? ⟨b, off + k * 2 + 1, none⟩ = some (.slice x.A x.n x.c) := Sl.at_ hcells hx 1 rfl)
          have HD1 := Lib.hid hd
          have HXD := Lib.hid hxd
          have hdl : x.n * 24 ≤ 140737488355328 := by have h1 := HW.out.bk d (List.mem_of_getElem? hd); rw [hxd.2.2.2.len] at h1; exact h1
          have hg : w.heap.size + 1 + 1 < wr.heap.size := hsr
          clear hcells hx hd hxd
          go_upto_region 11 with (fail)
          (obtain ⟨V, hWV, hbV, hzV, f1V, mfa⟩ := box1 wr #[.string x.name, .slice x.A x.n x.c] 70; rw [← hWV]; have ma0 : V.cell? ⟨wr.heap.size, 0, none⟩ = some (.string x.name) := f1V 0 _ rfl; have ma1 : V.cell? ⟨wr.heap.size, 1, none⟩ = some (.slice x.A x.n x.c) := f1V 1 _ rfl; clear hWV f1V)
          have hbAV := hbA.trans (hbV.mono hbA.size)
          have csV := CSR.out.on (Nat.lt_of_lt_of_le (by omega) (Nat.le_refl wr.heap.size)) hbV
          have HOV := Lib.hid (HO.out.below hbV)
          have HYV := Lib.hid (HY.out.below famB hbV)
          have HBWV := Lib.hid hbV
          have o3 := csV.o 4 _ rfl
          have of := csV.fz
          have CSV := Lib.hid csV
          have hne : w.heap.size + 1 + 1 ≠ wr.heap.size := by omega
          have hVd : Below V.heap.size V V.drew := (Below.refl _ _).drew
          clear csV CSR HO HY hbV hbA mfa c0 c1
          refine wp_region_held_drew (S := fun wx : World => wx.cell? ⟨wr.heap.size, 0, none⟩ = some (.string x.name) ∧ wx.cell? ⟨wr.heap.size, 1, none⟩ = some (.slice x.A x.n x.c)) (by kernel_rfl) (by first | exact ⟨ma0, ma1⟩ | exact ⟨m0, m1⟩ | exact ⟨hm0, hm1⟩ | exact ⟨(World.cell?_alloc_lt _ _ _ hl2).trans m0, (World.cell?_alloc_lt _ _ _ hl2).trans m1⟩ | exact ⟨(World.cell?_setCell_far _ _ _ _ hne).trans hm0, (World.cell?_setCell_far _ _ _ _ hne).trans hm1⟩) (fun hHeld => ?_)
          refine wpAnyH_take (i := 0) (v := ?_) rfl (by kernel_rfl) (by kernel_rfl) (by kernel_rfl) (fun _ _ _ h => h) (Or.inl ⟨by rfl, ?_⟩) (by assumption) ?_
          rotate_left
          · intro w hSw; (try dsimp only at hSw); go_simp; (try with_reducible rfl)
          (try simp only [Act.put, List.setIfInBounds_toArray, List.set_cons_zero, List.set_cons_succ])
          refine wpAnyH_take (i := 2) (v := ?_) rfl (by kernel_rfl) (by kernel_rfl) (by kernel_rfl) (fun _ _ _ h => h) (Or.inl ⟨by rfl, ?_⟩) (by assumption) ?_
          rotate_left
          · intro w hSw; (try dsimp only at hSw); go_simp; (try with_reducible rfl)
          (try simp only [Act.put, List.setIfInBounds_toArray, List.set_cons_zero, List.set_cons_succ])
          refine wpAnyH_take (i := 3) (v := ?_) rfl (by kernel_rfl) (by kernel_rfl) (by kernel_rfl) (fun _ _ _ h => h) (Or.inl ⟨by rfl, ?_⟩) (by assumption) ?_
          rotate_left
          · intro w hSw; (try dsimp only at hSw); go_simp; (try with_reducible rfl)
          (try simp only [Act.put, List.setIfInBounds_toArray, List.set_cons_zero, List.set_cons_succ])
          refine wpAnyH_take (i := 4) (v := ?_) rfl (by kernel_rfl) (by kernel_rfl) (by kernel_rfl) (fun _ _ _ h => h) (Or.inl ⟨by rfl, ?_⟩) (by assumption) ?_
          rotate_left
          · intro w hSw; (try dsimp only at hSw); go_simp; (try with_reducible rfl)
          (try simp only [Act.put, List.setIfInBounds_toArray, List.set_cons_zero, List.set_cons_succ])
          refine wpAnyH_take (i := 5) (v := ?_) rfl (by kernel_rfl) (by kernel_rfl) (by kernel_rfl) (fun _ _ _ h => h) (Or.inl ⟨by rfl, ?_⟩) (by assumption) ?_
          rotate_left
          · intro w hSw; (try dsimp only at hSw); go_simp; (try with_reducible rfl)
          (try simp only [Act.put, List.setIfInBounds_toArray, List.set_cons_zero, List.set_cons_succ])
          refine wpAnyH_ready (rs := [1, 6]) (by kernel_rfl) (by simp) ?_
          refine AllReadyH.cons rfl (fun K' hK => ?_) (AllReadyH.cons rfl (fun K' hK => ?_) AllReadyH.nil)
          · go_simp
            refine hK.out _ _ (by first | exact ⟨ma0, ma1⟩ | exact ⟨m0, m1⟩ | exact ⟨hm0, hm1⟩ | exact ⟨(World.cell?_alloc_lt _ _ _ hl2).trans m0, (World.cell?_alloc_lt _ _ _ hl2).trans m1⟩ | exact ⟨(World.cell?_setCell_far _ _ _ _ hne).trans hm0, (World.cell?_setCell_far _ _ _ _ hne).trans hm1⟩) (fun hHeld => ?_)
            clear hK K'
            (try simp only [Act.put, List.setIfInBounds_toArray, List.set_cons_zero, List.set_cons_succ])
            refine wpAnyH_ready (rs := [6]) (by kernel_rfl) (by simp) ?_
            refine AllReadyH.cons rfl (fun K' hK => ?_) AllReadyH.nil
            go_simp
            (go_at_call 47; refine (copied_slot x.A x.n x.c d.2 _ (HXD.out.2.2.2.below (hbAV.trans (hVd.mono hbAV.size))) HXD.out.2.2.1 hdl).mono ?_; rintro e w2 ⟨⟨A2, c2, rfl, hn2, hok2, hs2⟩, hb2⟩; have hbV2 : Below V.heap.size V w2 := hVd.trans hb2; have csW := CSV.out.on (Nat.lt_of_lt_of_le (by omega) (Nat.le_refl V.heap.size)) hbV2; have o3 := csW.o 4 _ rfl; have of := csW.fz; have m0 := (hbV2.cell (p := ⟨_, _, none⟩) hzV).trans ma0; have m1 := (hbV2.cell (p := ⟨_, _, none⟩) hzV).trans ma1; have hl2 : wr.heap.size < w2.heap.size := Nat.lt_of_lt_of_le hzV hbV2.size; have o3a : ∀ o : Obj, (w2.alloc o).cell? ⟨w.heap.size + 1 + 1, 4, none⟩ = some v := (fun o => (World.cell?_alloc_lt _ _ _ (Nat.lt_trans hg hl2)).trans o3); have CS2 := Lib.hid csW; have HB2 := Lib.hid hbV2; have HS2 := Lib.hid (And.intro hn2 (And.intro hok2 hs2)); clear csW hb2 hbV2 hn2 hok2 hs2)
            refine hK.out _ _ (by first | exact ⟨ma0, ma1⟩ | exact ⟨m0, m1⟩ | exact ⟨hm0, hm1⟩ | exact ⟨(World.cell?_alloc_lt _ _ _ hl2).trans m0, (World.cell?_alloc_lt _ _ _ hl2).trans m1⟩ | exact ⟨(World.cell?_setCell_far _ _ _ _ hne).trans hm0, (World.cell?_setCell_far _ _ _ _ hne).trans hm1⟩) (fun hHeld => ?_)
            clear hK K'
            (try simp only [Act.put, List.setIfInBounds_toArray, List.set_cons_zero, List.set_cons_succ])
            refine wpAnyH_take (i := 7) (v := ?_) rfl (by kernel_rfl) (by kernel_rfl) (by kernel_rfl) (fun _ _ _ h => h) (Or.inl ⟨by rfl, ?_⟩) (by assumption) ?_
            rotate_left
            · intro w hSw; (try dsimp only at hSw); go_simp; (try with_reducible rfl)
            (try simp only [Act.put, List.setIfInBounds_toArray, List.set_cons_zero, List.set_cons_succ])
            refine wpAnyH_ready (rs := [8]) (by kernel_rfl) (by simp) ?_
            refine AllReadyH.cons rfl (fun K' hK => ?_) AllReadyH.nil
            go_simp
            refine hK.out _ _ (by first | exact ⟨ma0, ma1⟩ | exact ⟨m0, m1⟩ | exact ⟨hm0, hm1⟩ | exact ⟨(World.cell?_alloc_lt _ _ _ hl2).trans m0, (World.cell?_alloc_lt _ _ _ hl2).trans m1⟩ | exact ⟨(World.cell?_setCell_far _ _ _ _ hne).trans hm0, (World.cell?_setCell_far _ _ _ _ hne).trans hm1⟩) (fun hHeld => ?_)
            clear hK K'
            (try simp only [Act.put, List.setIfInBounds_toArray, List.set_cons_zero, List.set_cons_succ])
            refine wpAnyH_ready (rs := [9]) (by kernel_rfl) (by simp) ?_
            refine AllReadyH.cons rfl (fun K' hK => ?_) AllReadyH.nil
            (refine step_append rfl (.tmp 44) (.tmp 51) 28 rfl wz.heap.size 70 _ 40 Try.underlying28 info_band rfl v xs rfl ((HOV.out.below HB2.out).alloc _) _ 1 1 [(⟨x.name, A2, x.n, c2⟩ : Nm)] rfl (fun h => by cases h) (Sl.new w2 #[.string x.name, .slice A2 x.n c2] 70 w2.heap.size rfl [(⟨x.name, A2, x.n, c2⟩ : Nm)] 1 rfl (by unfold maxLen; decide) rfl) (by omega) (by omega) (by rw [alloc_size]; have := HB2.out.size; have := CSV.out.size; omega) ?_; intro v5 w5 ho5 hu5; have hbl5 := hu5.belowBase ((HOV.out.below HB2.out).alloc _) (Below.refl _ _) (by rw [alloc_size]; have := HB2.out.size; have := CSV.out.size; omega); have cs5 := (CS2.out.on (Nat.lt_of_lt_of_le (by have := HB2.out.size; omega) (Nat.le_refl w2.heap.size)) ((Below.refl w2.heap.size w2).alloc (Nat.le_refl _) _)).on (by omega) hbl5; have o3 := cs5.o 4 _ rfl; have of := cs5.fz; obtain ⟨A6, m6, c6, hv6⟩ : ∃ (A6 : Option Addr) (m6 c6 : Nat), v5 = .slice A6 m6 c6 := (by obtain ⟨A6, c6, hv, _⟩ := ho5.val; exact ⟨_, _, _, hv⟩); subst hv6; have HO5 := Lib.hid ho5; have HU5 := Lib.hid hu5; have CS5 := Lib.hid cs5; have hkp := Keeps.ofUpd (p := fun b => b = wr.heap.size) hu5 (fun b hb e => by have := (HVL.out b e).2; omega); have hm0 := (hkp.2 _ 0 rfl (by rw [alloc_size]; have := HB2.out.size; omega)).trans ((World.cell?_alloc_lt _ _ _ (by dsimp only; have := HB2.out.size; omega)).trans m0); have hm1 := (hkp.2 _ 1 rfl (by rw [alloc_size]; have := HB2.out.size; omega)).trans ((World.cell?_alloc_lt _ _ _ (by dsimp only; have := HB2.out.size; omega)).trans m1); clear ho5 hu5 cs5 hbl5 hkp)
            refine hK.out _ _ (by first | exact ⟨ma0, ma1⟩ | exact ⟨m0, m1⟩ | exact ⟨hm0, hm1⟩ | exact ⟨(World.cell?_alloc_lt _ _ _ hl2).trans m0, (World.cell?_alloc_lt _ _ _ hl2).trans m1⟩ | exact ⟨(World.cell?_setCell_far _ _ _ _ hne).trans hm0, (World.cell?_setCell_far _ _ _ _ hne).trans hm1⟩) (fun hHeld => ?_)
            clear hK K'
            (try simp only [Act.put, List.setIfInBounds_toArray, List.set_cons_zero, List.set_cons_succ])
            refine wpAnyH_take (i := 10) (v := ?_) rfl (by kernel_rfl) (by kernel_rfl) (by kernel_rfl) (fun _ _ _ h => h) (Or.inl ⟨by rfl, ?_⟩) (by assumption) ?_
            rotate_left
            · intro w hSw; (try dsimp only at hSw); go_simp; (try with_reducible rfl)
            (try simp only [Act.put, List.setIfInBounds_toArray, List.set_cons_zero, List.set_cons_succ])
            refine wpAnyH_ready (rs := [11]) (by kernel_rfl) (by simp) ?_
            refine AllReadyH.cons rfl (fun K' hK => ?_) AllReadyH.nil
            go_simp
            refine hK.out _ _ (by first | exact ⟨ma0, ma1⟩ | exact ⟨m0, m1⟩ | exact ⟨hm0, hm1⟩ | exact ⟨(World.cell?_alloc_lt _ _ _ hl2).trans m0, (World.cell?_alloc_lt _ _ _ hl2).trans m1⟩ | exact ⟨(World.cell?_setCell_far _ _ _ _ hne).trans hm0, (World.cell?_setCell_far _ _ _ _ hne).trans hm1⟩) (fun hHeld => ?_)
            clear hK K'
            (try simp only [Act.put, List.setIfInBounds_toArray, List.set_cons_zero, List.set_cons_succ])
            refine wpAnyH_done (by kernel_rfl) ?_ _
            have hbb : (⟨w.heap.size + 1 + 1, 4, none⟩ : Addr).block = w.heap.size + 1 + 1 := rfl
            have csS := CS5.out.set_ 4 (by omega) (v := .slice A6 m6 c6) (vz' := (.slice Az3 mz3 cz3)) (vb' := (.slice A6 m6 c6)) (vr' := (.slice none 0 0)) (vd' := (.slice none 0 0)) rfl
            have hoS := HO5.out.setFar (p := ⟨w.heap.size + 1 + 1, 4, none⟩) (fun e => by have := (HO5.out.lt _ e).1; have := hgwz; omega) (.slice A6 m6 c6)
            have hyS := (((Rowed.snoc famB (HYV.out.below famB HB2.out) (B := V.heap.size) (x := ⟨x.name, A2, x.n, c2⟩) (y := d) (by have := CSV.out.size; omega) (fun g hg => by have := (HVL.out g hg).2; omega) ⟨⟨HXD.out.1, HXD.out.2.1, HS2.out.1, HS2.out.2.2⟩, HS2.out.2.1⟩).below famB ((Below.refl w2.heap.size w2).alloc (Nat.le_refl _) _)).upd famB HU5.out).keep famB (Keeps.ofSet (g := w.heap.size + 1 + 1) (o := 4) (u := .slice A6 m6 c6) fun b hb => by have := hb.1; omega)
            have hSlz := (((((Llz.out).keep famZ (Keeps.ofBelow HBWV.out)).keep famZ (Keeps.ofBelow HB2.out)).keep famZ (Keeps.ofBelow ((Below.refl w2.heap.size w2).alloc (Nat.le_refl _) _))).keep famZ (Keeps.ofUpd HU5.out fun b hb e => by have := (HVL.out b e).1; have := hb.2; omega)).keep famZ (Keeps.ofSet (g := w.heap.size + 1 + 1) (o := 4) (u := .slice A6 m6 c6) fun b hb => by have := hb.1; omega)
            have HSlz := Lib.hid hSlz
            clear hSlz
            have CSS := Lib.hid csS
            have HSZ := Lib.hid (show wz.heap.size ≤ (w5.setCell ⟨w.heap.size + 1 + 1, 4, none⟩ (.slice A6 m6 c6)).heap.size by rw [World.size_setCell]; have h1 := HU5.out.size; rw [World.size_alloc] at h1; have h2 := HB2.out.size; omega)
            have HOS := Lib.hid hoS
            have HYS := Lib.hid hyS
            clear csS hoS hyS hHeld m0 m1 hm0 hm1 o3 of o3a
            go_wp2_with fail
            go_roundw
            case rel => exact ⟨k + 1, _, xs ++ [⟨x.name, A2, x.n, c2⟩], by omega, by go_num, CSS.out, HSZ.out, HOS.out, by rw [List.take_add_one, HD1.out]; exact HYS.out, HSlz.out⟩
            case measure => simp [intOf]; omega
          · go_simp
            (go_at_call 47; refine (copied_slot x.A x.n x.c d.2 _ (HXD.out.2.2.2.below (hbAV.trans (hVd.mono hbAV.size))) HXD.out.2.2.1 hdl).mono ?_; rintro e w2 ⟨⟨A2, c2, rfl, hn2, hok2, hs2⟩, hb2⟩; have hbV2 : Below V.heap.size V w2 := hVd.trans hb2; have csW := CSV.out.on (Nat.lt_of_lt_of_le (by omega) (Nat.le_refl V.heap.size)) hbV2; have o3 := csW.o 4 _ rfl; have of := csW.fz; have m0 := (hbV2.cell (p := ⟨_, _, none⟩) hzV).trans ma0; have m1 := (hbV2.cell (p := ⟨_, _, none⟩) hzV).trans ma1; have hl2 : wr.heap.size < w2.heap.size := Nat.lt_of_lt_of_le hzV hbV2.size; have o3a : ∀ o : Obj, (w2.alloc o).cell? ⟨w.heap.size + 1 + 1, 4, none⟩ = some v := (fun o => (World.cell?_alloc_lt _ _ _ (Nat.lt_trans hg hl2)).trans o3); have CS2 := Lib.hid csW; have HB2 := Lib.hid hbV2; have HS2 := Lib.hid (And.intro hn2 (And.intro hok2 hs2)); clear csW hb2 hbV2 hn2 hok2 hs2)
            refine hK.out _ _ (by first | exact ⟨ma0, ma1⟩ | exact ⟨m0, m1⟩ | exact ⟨hm0, hm1⟩ | exact ⟨(World.cell?_alloc_lt _ _ _ hl2).trans m0, (World.cell?_alloc_lt _ _ _ hl2).trans m1⟩ | exact ⟨(World.cell?_setCell_far _ _ _ _ hne).trans hm0, (World.cell?_setCell_far _ _ _ _ hne).trans hm1⟩) (fun hHeld => ?_)
            clear hK K'
            (try simp only [Act.put, List.setIfInBounds_toArray, List.set_cons_zero, List.set_cons_succ])
            refine wpAnyH_take (i := 7) (v := ?_) rfl (by kernel_rfl) (by kernel_rfl) (by kernel_rfl) (fun _ _ _ h => h) (Or.inl ⟨by rfl, ?_⟩) (by assumption) ?_
            rotate_left
            · intro w hSw; (try dsimp only at hSw); go_simp; (try with_reducible rfl)
            (try simp only [Act.put, List.setIfInBounds_toArray, List.set_cons_zero, List.set_cons_succ])
            refine wpAnyH_ready (rs := [1, 8]) (by kernel_rfl) (by simp) ?_
            refine AllReadyH.cons rfl (fun K' hK => ?_) (AllReadyH.cons rfl (fun K' hK => ?_) AllReadyH.nil)
            · go_simp
              refine hK.out _ _ (by first | exact ⟨ma0, ma1⟩ | exact ⟨m0, m1⟩ | exact ⟨hm0, hm1⟩ | exact ⟨(World.cell?_alloc_lt _ _ _ hl2).trans m0, (World.cell?_alloc_lt _ _ _ hl2).trans m1⟩ | exact ⟨(World.cell?_setCell_far _ _ _ _ hne).trans hm0, (World.cell?_setCell_far _ _ _ _ hne).trans hm1⟩) (fun hHeld => ?_)
              clear hK K'
              (try simp only [Act.put, List.setIfInBounds_toArray, List.set_cons_zero, List.set_cons_succ])
              refine wpAnyH_ready (rs := [8]) (by kernel_rfl) (by simp) ?_
              refine AllReadyH.cons rfl (fun K' hK => ?_) AllReadyH.nil
              go_simp
              refine hK.out _ _ (by first | exact ⟨ma0, ma1⟩ | exact ⟨m0, m1⟩ | exact ⟨hm0, hm1⟩ | exact ⟨(World.cell?_alloc_lt _ _ _ hl2).trans m0, (World.cell?_alloc_lt _ _ _ hl2).trans m1⟩ | exact ⟨(World.cell?_setCell_far _ _ _ _ hne).trans hm0, (World.cell?_setCell_far _ _ _ _ hne).trans hm1⟩) (fun hHeld => ?_)
              clear hK K'
              (try simp only [Act.put, List.setIfInBounds_toArray, List.set_cons_zero, List.set_cons_succ])
              refine wpAnyH_ready (rs := [9]) (by kernel_rfl) (by simp) ?_
              refine AllReadyH.cons rfl (fun K' hK => ?_) AllReadyH.nil
              (refine step_append rfl (.tmp 44) (.tmp 51) 28 rfl wz.heap.size 70 _ 40 Try.underlying28 info_band rfl v xs rfl ((HOV.out.below HB2.out).alloc _) _ 1 1 [(⟨x.name, A2, x.n, c2⟩ : Nm)] rfl (fun h => by cases h) (Sl.new w2 #[.string x.name, .slice A2 x.n c2] 70 w2.heap.size rfl [(⟨x.name, A2, x.n, c2⟩ : Nm)] 1 rfl (by unfold maxLen; decide) rfl) (by omega) (by omega) (by rw [alloc_size]; have := HB2.out.size; have := CSV.out.size; omega) ?_; intro v5 w5 ho5 hu5; have hbl5 := hu5.belowBase ((HOV.out.below HB2.out).alloc _) (Below.refl _ _) (by rw [alloc_size]; have := HB2.out.size; have := CSV.out.size; omega); have cs5 := (CS2.out.on (Nat.lt_of_lt_of_le (by have := HB2.out.size; omega) (Nat.le_refl w2.heap.size)) ((Below.refl w2.heap.size w2).alloc (Nat.le_refl _) _)).on (by omega) hbl5; have o3 := cs5.o 4 _ rfl; have of := cs5.fz; obtain ⟨A6, m6, c6, hv6⟩ : ∃ (A6 : Option Addr) (m6 c6 : Nat), v5 = .slice A6 m6 c6 := (by obtain ⟨A6, c6, hv, _⟩ := ho5.val; exact ⟨_, _, _, hv⟩); subst hv6; have HO5 := Lib.hid ho5; have HU5 := Lib.hid hu5; have CS5 := Lib.hid cs5; have hkp := Keeps.ofUpd (p := fun b => b = wr.heap.size) hu5 (fun b hb e => by have := (HVL.out b e).2; omega); have hm0 := (hkp.2 _ 0 rfl (by rw [alloc_size]; have := HB2.out.size; omega)).trans ((World.cell?_alloc_lt _ _ _ (by dsimp only; have := HB2.out.size; omega)).trans m0); have hm1 := (hkp.2 _ 1 rfl (by rw [alloc_size]; have := HB2.out.size; omega)).trans ((World.cell?_alloc_lt _ _ _ (by dsimp only; have := HB2.out.size; omega)).trans m1); clear ho5 hu5 cs5 hbl5 hkp)
              refine hK.out _ _ (by first | exact ⟨ma0, ma1⟩ | exact ⟨m0, m1⟩ | exact ⟨hm0, hm1⟩ | exact ⟨(World.cell?_alloc_lt _ _ _ hl2).trans m0, (World.cell?_alloc_lt _ _ _ hl2).trans m1⟩ | exact ⟨(World.cell?_setCell_far _ _ _ _ hne).trans hm0, (World.cell?_setCell_far _ _ _ _ hne).trans hm1⟩) (fun hHeld => ?_)
              clear hK K'
              (try simp only [Act.put, List.setIfInBounds_toArray, List.set_cons_zero, List.set_cons_succ])
              refine wpAnyH_take (i := 10) (v := ?_) rfl (by kernel_rfl) (by kernel_rfl) (by kernel_rfl) (fun _ _ _ h => h) (Or.inl ⟨by rfl, ?_⟩) (by assumption) ?_
              rotate_left
              · intro w hSw; (try dsimp only at hSw); go_simp; (try with_reducible rfl)
              (try simp only [Act.put, List.setIfInBounds_toArray, List.set_cons_zero, List.set_cons_succ])
              refine wpAnyH_ready (rs := [11]) (by kernel_rfl) (by simp) ?_
              refine AllReadyH.cons rfl (fun K' hK => ?_) AllReadyH.nil
              go_simp
              refine hK.out _ _ (by first | exact ⟨ma0, ma1⟩ | exact ⟨m0, m1⟩ | exact ⟨hm0, hm1⟩ | exact ⟨(World.cell?_alloc_lt _ _ _ hl2).trans m0, (World.cell?_alloc_lt _ _ _ hl2).trans m1⟩ | exact ⟨(World.cell?_setCell_far _ _ _ _ hne).trans hm0, (World.cell?_setCell_far _ _ _ _ hne).trans hm1⟩) (fun hHeld => ?_)
              clear hK K'
              (try simp only [Act.put, List.setIfInBounds_toArray, List.set_cons_zero, List.set_cons_succ])
              refine wpAnyH_done (by kernel_rfl) ?_ _
              have hbb : (⟨w.heap.size + 1 + 1, 4, none⟩ : Addr).block = w.heap.size + 1 + 1 := rfl
              have csS := CS5.out.set_ 4 (by omega) (v := .slice A6 m6 c6) (vz' := (.slice Az3 mz3 cz3)) (vb' := (.slice A6 m6 c6)) (vr' := (.slice none 0 0)) (vd' := (.slice none 0 0)) rfl
              have hoS := HO5.out.setFar (p := ⟨w.heap.size + 1 + 1, 4, none⟩) (fun e => by have := (HO5.out.lt _ e).1; have := hgwz; omega) (.slice A6 m6 c6)
              have hyS := (((Rowed.snoc famB (HYV.out.below famB HB2.out) (B := V.heap.size) (x := ⟨x.name, A2, x.n, c2⟩) (y := d) (by have := CSV.out.size; omega) (fun g hg => by have := (HVL.out g hg).2; omega) ⟨⟨HXD.out.1, HXD.out.2.1, HS2.out.1, HS2.out.2.2⟩, HS2.out.2.1⟩).below famB ((Below.refl w2.heap.size w2).alloc (Nat.le_refl _) _)).upd famB HU5.out).keep famB (Keeps.ofSet (g := w.heap.size + 1 + 1) (o := 4) (u := .slice A6 m6 c6) fun b hb => by have := hb.1; omega)
              have hSlz := (((((Llz.out).keep famZ (Keeps.ofBelow HBWV.out)).keep famZ (Keeps.ofBelow HB2.out)).keep famZ (Keeps.ofBelow ((Below.refl w2.heap.size w2).alloc (Nat.le_refl _) _))).keep famZ (Keeps.ofUpd HU5.out fun b hb e => by have := (HVL.out b e).1; have := hb.2; omega)).keep famZ (Keeps.ofSet (g := w.heap.size + 1 + 1) (o := 4) (u := .slice A6 m6 c6) fun b hb => by have := hb.1; omega)
              have HSlz := Lib.hid hSlz
              clear hSlz
              have CSS := Lib.hid csS
              have HSZ := Lib.hid (show wz.heap.size ≤ (w5.setCell ⟨w.heap.size + 1 + 1, 4, none⟩ (.slice A6 m6 c6)).heap.size by rw [World.size_setCell]; have h1 := HU5.out.size; rw [World.size_alloc] at h1; have h2 := HB2.out.size; omega)
              have HOS := Lib.hid hoS
              have HYS := Lib.hid hyS
              clear csS hoS hyS hHeld m0 m1 hm0 hm1 o3 of o3a
              go_wp2_with fail
              go_roundw
              case rel => exact ⟨k + 1, _, xs ++ [⟨x.name, A2, x.n, c2⟩], by omega, by go_num, CSS.out, HSZ.out, HOS.out, by rw [List.take_add_one, HD1.out]; exact HYS.out, HSlz.out⟩
              case measure => simp [intOf]; omega
            · go_simp
              refine hK.out _ _ (by first | exact ⟨ma0, ma1⟩ | exact ⟨m0, m1⟩ | exact ⟨hm0, hm1⟩ | exact ⟨(World.cell?_alloc_lt _ _ _ hl2).trans m0, (World.cell?_alloc_lt _ _ _ hl2).trans m1⟩ | exact ⟨(World.cell?_setCell_far _ _ _ _ hne).trans hm0, (World.cell?_setCell_far _ _ _ _ hne).trans hm1⟩) (fun hHeld => ?_)
              clear hK K'
              (try simp only [Act.put, List.setIfInBounds_toArray, List.set_cons_zero, List.set_cons_succ])
              refine wpAnyH_ready (rs := [1]) (by kernel_rfl) (by simp) ?_
              refine AllReadyH.cons rfl (fun K' hK => ?_) AllReadyH.nil
              go_simp
              refine hK.out _ _ (by first | exact ⟨ma0, ma1⟩ | exact ⟨m0, m1⟩ | exact ⟨hm0, hm1⟩ | exact ⟨(World.cell?_alloc_lt _ _ _ hl2).trans m0, (World.cell?_alloc_lt _ _ _ hl2).trans m1⟩ | exact ⟨(World.cell?_setCell_far _ _ _ _ hne).trans hm0, (World.cell?_setCell_far _ _ _ _ hne).trans hm1⟩) (fun hHeld => ?_)
              clear hK K'
              (try simp only [Act.put, List.setIfInBounds_toArray, List.set_cons_zero, List.set_cons_succ])
              refine wpAnyH_ready (rs := [9]) (by kernel_rfl) (by simp) ?_
              refine AllReadyH.cons rfl (fun K' hK => ?_) AllReadyH.nil
              (refine step_append rfl (.tmp 44) (.tmp 51) 28 rfl wz.heap.size 70 _ 40 Try.underlying28 info_band rfl v xs rfl ((HOV.out.below HB2.out).alloc _) _ 1 1 [(⟨x.name, A2, x.n, c2⟩ : Nm)] rfl (fun h => by cases h) (Sl.new w2 #[.string x.name, .slice A2 x.n c2] 70 w2.heap.size rfl [(⟨x.name, A2, x.n, c2⟩ : Nm)] 1 rfl (by unfold maxLen; decide) rfl) (by omega) (by omega) (by rw [alloc_size]; have := HB2.out.size; have := CSV.out.size; omega) ?_; intro v5 w5 ho5 hu5; have hbl5 := hu5.belowBase ((HOV.out.below HB2.out).alloc _) (Below.refl _ _) (by rw [alloc_size]; have := HB2.out.size; have := CSV.out.size; omega); have cs5 := (CS2.out.on (Nat.lt_of_lt_of_le (by have := HB2.out.size; omega) (Nat.le_refl w2.heap.size)) ((Below.refl w2.heap.size w2).alloc (Nat.le_refl _) _)).on (by omega) hbl5; have o3 := cs5.o 4 _ rfl; have of := cs5.fz; obtain ⟨A6, m6, c6, hv6⟩ : ∃ (A6 : Option Addr) (m6 c6 : Nat), v5 = .slice A6 m6 c6 := (by obtain ⟨A6, c6, hv, _⟩ := ho5.val; exact ⟨_, _, _, hv⟩); subst hv6; have HO5 := Lib.hid ho5; have HU5 := Lib.hid hu5; have CS5 := Lib.hid cs5; have hkp := Keeps.ofUpd (p := fun b => b = wr.heap.size) hu5 (fun b hb e => by have := (HVL.out b e).2; omega); have hm0 := (hkp.2 _ 0 rfl (by rw [alloc_size]; have := HB2.out.size; omega)).trans ((World.cell?_alloc_lt _ _ _ (by dsimp only; have := HB2.out.size; omega)).trans m0); have hm1 := (hkp.2 _ 1 rfl (by rw [alloc_size]; have := HB2.out.size; omega)).trans ((World.cell?_alloc_lt _ _ _ (by dsimp only; have := HB2.out.size; omega)).trans m1); clear ho5 hu5 cs5 hbl5 hkp)
              refine hK.out _ _ (by first | exact ⟨ma0, ma1⟩ | exact ⟨m0, m1⟩ | exact ⟨hm0, hm1⟩ | exact ⟨(World.cell?_alloc_lt _ _ _ hl2).trans m0, (World.cell?_alloc_lt _ _ _ hl2).trans m1⟩ | exact ⟨(World.cell?_setCell_far _ _ _ _ hne).trans hm0, (World.cell?_setCell_far _ _ _ _ hne).trans hm1⟩) (fun hHeld => ?_)
              clear hK K'
              (try simp only [Act.put, List.setIfInBounds_toArray, List.set_cons_zero, List.set_cons_succ])
              refine wpAnyH_take (i := 10) (v := ?_) rfl (by kernel_rfl) (by kernel_rfl) (by kernel_rfl) (fun _ _ _ h => h) (Or.inl ⟨by rfl, ?_⟩) (by assumption) ?_
              rotate_left
              · intro w hSw; (try dsimp only at hSw); go_simp; (try with_reducible rfl)
              (try simp only [Act.put, List.setIfInBounds_toArray, List.set_cons_zero, List.set_cons_succ])
              refine wpAnyH_ready (rs := [11]) (by kernel_rfl) (by simp) ?_
              refine AllReadyH.cons rfl (fun K' hK => ?_) AllReadyH.nil
              go_simp
              refine hK.out _ _ (by first | exact ⟨ma0, ma1⟩ | exact ⟨m0, m1⟩ | exact ⟨hm0, hm1⟩ | exact ⟨(World.cell?_alloc_lt _ _ _ hl2).trans m0, (World.cell?_alloc_lt _ _ _ hl2).trans m1⟩ | exact ⟨(World.cell?_setCell_far _ _ _ _ hne).trans hm0, (World.cell?_setCell_far _ _ _ _ hne).trans hm1⟩) (fun hHeld => ?_)
              clear hK K'
              (try simp only [Act.put, List.setIfInBounds_toArray, List.set_cons_zero, List.set_cons_succ])
              refine wpAnyH_done (by kernel_rfl) ?_ _
              have hbb : (⟨w.heap.size + 1 + 1, 4, none⟩ : Addr).block = w.heap.size + 1 + 1 := rfl
              have csS := CS5.out.set_ 4 (by omega) (v := .slice A6 m6 c6) (vz' := (.slice Az3 mz3 cz3)) (vb' := (.slice A6 m6 c6)) (vr' := (.slice none 0 0)) (vd' := (.slice none 0 0)) rfl
              have hoS := HO5.out.setFar (p := ⟨w.heap.size + 1 + 1, 4, none⟩) (fun e => by have := (HO5.out.lt _ e).1; have := hgwz; omega) (.slice A6 m6 c6)
              have hyS := (((Rowed.snoc famB (HYV.out.below famB HB2.out) (B := V.heap.size) (x := ⟨x.name, A2, x.n, c2⟩) (y := d) (by have := CSV.out.size; omega) (fun g hg => by have := (HVL.out g hg).2; omega) ⟨⟨HXD.out.1, HXD.out.2.1, HS2.out.1, HS2.out.2.2⟩, HS2.out.2.1⟩).below famB ((Below.refl w2.heap.size w2).alloc (Nat.le_refl _) _)).upd famB HU5.out).keep famB (Keeps.ofSet (g := w.heap.size + 1 + 1) (o := 4) (u := .slice A6 m6 c6) fun b hb => by have := hb.1; omega)
              have hSlz := (((((Llz.out).keep famZ (Keeps.ofBelow HBWV.out)).keep famZ (Keeps.ofBelow HB2.out)).keep famZ (Keeps.ofBelow ((Below.refl w2.heap.size w2).alloc (Nat.le_refl _) _))).keep famZ (Keeps.ofUpd HU5.out fun b hb e => by have := (HVL.out b e).1; have := hb.2; omega)).keep famZ (Keeps.ofSet (g := w.heap.size + 1 + 1) (o := 4) (u := .slice A6 m6 c6) fun b hb => by have := hb.1; omega)
              have HSlz := Lib.hid hSlz
              clear hSlz
              have CSS := Lib.hid csS
              have HSZ := Lib.hid (show wz.heap.size ≤ (w5.setCell ⟨w.heap.size + 1 + 1, 4, none⟩ (.slice A6 m6 c6)).heap.size by rw [World.size_setCell]; have h1 := HU5.out.size; rw [World.size_alloc] at h1; have h2 := HB2.out.size; omega)
              have HOS := Lib.hid hoS
              have HYS := Lib.hid hyS
              clear csS hoS hyS hHeld m0 m1 hm0 hm1 o3 of o3a
              go_wp2_with fail
              go_roundw
              case rel => exact ⟨k + 1, _, xs ++ [⟨x.name, A2, x.n, c2⟩], by omega, by go_num, CSS.out, HSZ.out, HOS.out, by rw [List.take_add_one, HD1.out]; exact HYS.out, HSlz.out⟩
              case measure => simp [intOf]; omega
        · obtain rfl : nb = k := by omega
          have hkn : ¬ ((nb : Int) < (nb : Int)) := by omega
          have htk : T.bs.take nb = T.bs := List.take_of_length_le (by have := AB.out.1; have := HB.out.len; omega)
          obtain ⟨Ab3, mb3, cb3, rfl, hn3, hlsp⟩ := LSP.ofRow famB HO.out HY.out
          rw [htk] at hlsp
          have Hlb := Lib.hid (hlsp.lt famB)
          clear hlsp hn3 htk HO HVL HY hxl xs
          obtain ⟨wb, hwz⟩ : ∃ wz, wz = wr := ⟨_, rfl⟩
          subst hwz
          have hgwb : w.heap.size + 1 + 1 < wb.heap.size := hsr
          have Hlz := Llz
          clear Llz
          have q3 := CSR.out.a 5 _ rfl
          dsimp only at q3
          go_wp2_with fail
          go_loopw [58] (fun i wr => ∃ (k : Nat) (v : Value) (xs : List Rt), k ≤ nr ∧ i = .int .i64 k ∧ CS w wr ⟨name, from_, split, Az, nz, cz, Ab, nb, cb, Ar, nr, cr, Ad, nd, cd⟩ (.slice Az3 mz3 cz3) (.slice Ab3 mb3 cb3) v (.slice none 0 0) ∧ wb.heap.size ≤ wr.heap.size ∧ Ow wr wb.heap.size 73 v xs ∧ Rowed RRP wb.heap.size wr v xs (T.rs.take k) ∧ LSP ZRP wr (fun b => (w.heap.size + 1 + 1 + 1) ≤ b ∧ b < wz.heap.size) Az3 mz3 cz3 T.zs ∧ LSP BRP wr (fun b => wz.heap.size ≤ b ∧ b < wb.heap.size) Ab3 mb3 cb3 T.bs) (fun i _ => nr - (intOf i).toNat)
          case atStart => exact ⟨0, .slice none 0 0, [], Nat.zero_le _, rfl, CSR.out, Nat.le_refl _, Ow.nil_ _ _ _, Rowed.nil_, Hlz.out, Hlb.out⟩
          case round =>
            clear q3 CSR
            obtain ⟨k, v, xs, hk, rfl, csr, hBr, how, hrow, hlz, hlb⟩ := hrel
            have hbA := csr.below
            have hsr : w.heap.size + 1 + 1 < wr.heap.size := csr.size
            have CSR := Lib.hid csr
            have HO := Lib.hid how
            have HVL := Lib.hid how.lt
            have HY := Lib.hid hrow
            have hxl : xs.length ≤ 70 := by have := hrow.1; rw [List.length_take] at this; omega
            clear csr how hrow
            have Llz := Lib.hid hlz
            clear hlz
            have Llb := Lib.hid hlb
            clear hlb
            by_cases hlt : k < nr
            · obtain ⟨x, hx⟩ := HR.out.get hlt
              obtain ⟨d, hd, hxd⟩ := AR.out.at_ hx
              obtain ⟨b, off, rfl, hbw, hcells⟩ := HR.out.baseIn hbA (by omega)
              (have c0 : wr.cell? ⟨b, off + k * 5, none⟩ = some (.int .i64 x.kind) := Sl.at_ hcells hx 0 rfl; have c1 : wr.cell? ⟨b, off + k * 5 + 1, none⟩ = some (.string x.zone) := Sl.at_ hcells hx 1 rfl; have c2 : wr.cell? ⟨b, off + k * 5 + 2, none⟩ = some (.string x.band) := Sl.at_ hcells hx 2 rfl; have c3 : wr.cell? ⟨b, off + k * 5 + 3, none⟩ = some (.int .i64 x.setup) := Sl.at_ hcells hx 3 rfl; have c4 : wr.cell? ⟨b, off + k * 5 + 4, none⟩ = some (.slice x.A x.n x.c) := Sl.at_ hcells hx 4 rfl)
              have HD1 := Lib.hid hd
              have HXD := Lib.hid hxd
              have hdl : x.n * 24 ≤ 140737488355328 := by have h1 := HW.out.rk d (List.mem_of_getElem? hd); rw [hxd.2.2.2.2.2.len] at h1; exact h1
              have hg : w.heap.size + 1 + 1 < wr.heap.size := hsr
              clear hcells hx hd hxd
              go_upto_region 16 with (fail)
              (obtain ⟨V, hWV, hbV, hzV, f1V, mfa⟩ := box1 wr #[.int .i64 x.kind, .string x.zone, .string x.band, .int .i64 x.setup, .slice x.A x.n x.c] 73; rw [← hWV]; have ma0 : V.cell? ⟨wr.heap.size, 0, none⟩ = some (.int .i64 x.kind) := f1V 0 _ rfl; have ma1 : V.cell? ⟨wr.heap.size, 1, none⟩ = some (.string x.zone) := f1V 1 _ rfl; have ma2 : V.cell? ⟨wr.heap.size, 2, none⟩ = some (.string x.band) := f1V 2 _ rfl; have ma3 : V.cell? ⟨wr.heap.size, 3, none⟩ = some (.int .i64 x.setup) := f1V 3 _ rfl; have ma4 : V.cell? ⟨wr.heap.size, 4, none⟩ = some (.slice x.A x.n x.c) := f1V 4 _ rfl; clear hWV f1V)
              have hbAV := hbA.trans (hbV.mono hbA.size)
              have csV := CSR.out.on (Nat.lt_of_lt_of_le (by omega) (Nat.le_refl wr.heap.size)) hbV
              have HOV := Lib.hid (HO.out.below hbV)
              have HYV := Lib.hid (HY.out.below famR hbV)
              have HBWV := Lib.hid hbV
              have o3 := csV.o 5 _ rfl
              have of := csV.fz
              have CSV := Lib.hid csV
              have hne : w.heap.size + 1 + 1 ≠ wr.heap.size := by omega
              have hVd : Below V.heap.size V V.drew := (Below.refl _ _).drew
              have hbx := hbV
              clear csV HOV HYV hbV hg c0 c1 c2 c3 c4
              skip
              go_wp2_with fail
              refine (copied_step x.A x.n x.c d.steps _ (HXD.out.2.2.2.2.2.below hbAV) HXD.out.2.2.2.2.1 hdl).mono ?_
              rintro e w2 ⟨⟨A2, c2, rfl, hnew⟩, hb2⟩
              replace hbx := hbx.trans (hb2.mono hbx.size)
              have hzx : wr.heap.size < w2.heap.size := Nat.lt_of_lt_of_le hzV hb2.size
              (have ema0 := (hb2.cell (p := ⟨_, _, none⟩) (by (try dsimp only) <;> omega)).trans ma0; have ema1 := (hb2.cell (p := ⟨_, _, none⟩) (by (try dsimp only) <;> omega)).trans ma1; have ema2 := (hb2.cell (p := ⟨_, _, none⟩) (by (try dsimp only) <;> omega)).trans ma2; have ema3 := (hb2.cell (p := ⟨_, _, none⟩) (by (try dsimp only) <;> omega)).trans ma3; have ema4 := (hb2.cell (p := ⟨_, _, none⟩) (by (try dsimp only) <;> omega)).trans ma4)
              have efa := fun j => (hb2.frozen (p := ⟨wr.heap.size, j, none⟩) (by (try dsimp only) <;> omega)).trans (mfa j)
              have HNEW := Lib.hid hnew
              have hzb2 := hb2.size
              clear hnew ma0 ma1 ma2 ma3 ma4 mfa hb2
              go_upto_region 17 with (fail)
              (obtain ⟨U, hSU, hnU, hfarU, hfrU, hblU, hszU⟩ := set1 (wr.heap.size) 4 (u := .slice A2 x.n c2) ema4; rw [← hSU]; have hkU : ∀ p : Nat → Prop, (∀ b, p b → b ≠ wr.heap.size) → Keeps p w2 U := fun p hp => (by rw [hSU]; exact Keeps.ofSet hp); clear hSU; replace ema4 := hnU; clear hnU; replace ema0 := (hfarU _ _ (by omega)).trans ema0; replace ema1 := (hfarU _ _ (by omega)).trans ema1; replace ema2 := (hfarU _ _ (by omega)).trans ema2; replace ema3 := (hfarU _ _ (by omega)).trans ema3; replace efa := fun j => (hfrU _ j).trans (efa j); replace hbx := Below.trans hbx (hblU _ (by omega)); clear hfarU hfrU hblU)
              have csU := CSR.out.on (Nat.lt_of_lt_of_le (by omega) (Nat.le_refl wr.heap.size)) hbx
              have HOU := Lib.hid (HO.out.below hbx)
              have o3 := csU.o 5 _ rfl
              have of := csU.fz
              have CSU := Lib.hid csU
              have hzU : V.heap.size ≤ U.heap.size := by omega
              have HSN := Lib.hid (Rowed.snoc famR (HY.out.below famR hbx) (B := V.heap.size) (x := (⟨x.kind, x.zone, x.band, x.setup, A2, x.n, c2⟩ : Rt)) (y := d) (by omega) (fun g hg => by have := (HVL.out g hg).2; omega) (famR.keep (w := w2) ⟨⟨HXD.out.1, HXD.out.2.1, HXD.out.2.2.1, HXD.out.2.2.2.1, HNEW.out.1, HNEW.out.2.2⟩, HNEW.out.2.1⟩ (hkU _ fun b hb => by omega)))
              clear csU
              go_wp2_with (at_builtin; go_must (
                refine wpl_append1 _ rfl (.tmp 67) (.tmp 69) 29 rfl wb.heap.size 73 _ 72 Try.underlying29 info_rate rfl v xs rfl (HOU.out.alloc _) _ (⟨x.kind, x.zone, x.band, x.setup, A2, x.n, c2⟩ : Rt) rfl (fun j u hu => cells_new _ _ _ _ _ (by simp) u hu) (by omega) (by omega) (by rw [alloc_size]; omega) ?_
                intro v5 w5 ho5 hu5; have hbl5 := hu5.belowBase (HOU.out.alloc _) (Below.refl _ _) (by rw [alloc_size]; have := hzU; have := CSV.out.size; omega); have cs5 := (CSU.out.on (Nat.lt_of_lt_of_le (by have := hzU; omega) (Nat.le_refl U.heap.size)) ((Below.refl U.heap.size U).alloc (Nat.le_refl _) _)).on (by omega) hbl5; have o3 := cs5.o 5 _ rfl; have of := cs5.fz; obtain ⟨A6, m6, c6, hv6⟩ : ∃ (A6 : Option Addr) (m6 c6 : Nat), v5 = .slice A6 m6 c6 := (by obtain ⟨A6, c6, hv, _⟩ := ho5.val; exact ⟨_, _, _, hv⟩); subst hv6; have HO5 := Lib.hid ho5; have HU5 := Lib.hid hu5; have CS5 := Lib.hid cs5; clear ho5 hu5 cs5 hbl5))
              have hbb : (⟨w.heap.size + 1 + 1, 5, none⟩ : Addr).block = w.heap.size + 1 + 1 := rfl
              have csS := CS5.out.set_ 5 (by omega) (v := .slice A6 m6 c6) (vz' := (.slice Az3 mz3 cz3)) (vb' := (.slice Ab3 mb3 cb3)) (vr' := (.slice A6 m6 c6)) (vd' := (.slice none 0 0)) rfl
              have hoS := HO5.out.setFar (p := ⟨w.heap.size + 1 + 1, 5, none⟩) (fun e => by have := (HO5.out.lt _ e).1; have := hgwb; omega) (.slice A6 m6 c6)
              have hyS := ((HSN.out.below famR ((Below.refl U.heap.size U).alloc (Nat.le_refl _) _)).upd famR HU5.out).keep famR (Keeps.ofSet (g := w.heap.size + 1 + 1) (o := 5) (u := .slice A6 m6 c6) fun b hb => by have := hb.1; omega)
              have hSlz := ((((Llz.out).keep famZ (Keeps.ofBelow hbx)).keep famZ (Keeps.ofBelow ((Below.refl U.heap.size U).alloc (Nat.le_refl _) _))).keep famZ (Keeps.ofUpd HU5.out fun b hb e => by have := (HVL.out b e).1; have := hb.2; omega)).keep famZ (Keeps.ofSet (g := w.heap.size + 1 + 1) (o := 5) (u := .slice A6 m6 c6) fun b hb => by have := hb.1; omega)
              have HSlz := Lib.hid hSlz
              clear hSlz
              have hSlb := ((((Llb.out).keep famB (Keeps.ofBelow hbx)).keep famB (Keeps.ofBelow ((Below.refl U.heap.size U).alloc (Nat.le_refl _) _))).keep famB (Keeps.ofUpd HU5.out fun b hb e => by have := (HVL.out b e).1; have := hb.2; omega)).keep famB (Keeps.ofSet (g := w.heap.size + 1 + 1) (o := 5) (u := .slice A6 m6 c6) fun b hb => by have := hb.1; omega)
              have HSlb := Lib.hid hSlb
              clear hSlb
              have hsz : wb.heap.size ≤ (w5.setCell ⟨w.heap.size + 1 + 1, 5, none⟩ (.slice A6 m6 c6)).heap.size := by rw [World.size_setCell]; have h1 := HU5.out.size; rw [World.size_alloc] at h1; omega
              go_roundw
              case rel => exact ⟨k + 1, _, xs ++ [(⟨x.kind, x.zone, x.band, x.setup, A2, x.n, c2⟩ : Rt)], by omega, by go_num, csS, hsz, hoS, by rw [List.take_add_one, HD1.out]; exact hyS, HSlz.out, HSlb.out⟩
              case measure => simp [intOf]; omega
            · obtain rfl : nr = k := by omega
              have hkn : ¬ ((nr : Int) < (nr : Int)) := by omega
              have htk : T.rs.take nr = T.rs := List.take_of_length_le (by have := AR.out.1; have := HR.out.len; omega)
              obtain ⟨Ar3, mr3, cr3, rfl, hn3, hlsp⟩ := LSP.ofRow famR HO.out HY.out
              rw [htk] at hlsp
              have Hlr := Lib.hid (hlsp.lt famR)
              clear hlsp hn3 htk HO HVL HY hxl xs
              obtain ⟨wt, hwz⟩ : ∃ wz, wz = wr := ⟨_, rfl⟩
              subst hwz
              have hgwt : w.heap.size + 1 + 1 < wt.heap.size := hsr
              have Hlz := Llz
              clear Llz
              have Hlb := Llb
              clear Llb
              have q3 := CSR.out.a 6 _ rfl
              dsimp only at q3
              go_wp2_with fail
              go_loopw [76] (fun i wr => ∃ (k : Nat) (v : Value) (xs : List Dq), k ≤ nd ∧ i = .int .i64 k ∧ CS w wr ⟨name, from_, split, Az, nz, cz, Ab, nb, cb, Ar, nr, cr, Ad, nd, cd⟩ (.slice Az3 mz3 cz3) (.slice Ab3 mb3 cb3) (.slice Ar3 mr3 cr3) v ∧ wt.heap.size ≤ wr.heap.size ∧ Ow wr wt.heap.size 62 v xs ∧ Rowed DRP wt.heap.size wr v xs (T.ds.take k) ∧ LSP ZRP wr (fun b => (w.heap.size + 1 + 1 + 1) ≤ b ∧ b < wz.heap.size) Az3 mz3 cz3 T.zs ∧ LSP BRP wr (fun b => wz.heap.size ≤ b ∧ b < wb.heap.size) Ab3 mb3 cb3 T.bs ∧ LSP RRP wr (fun b => wb.heap.size ≤ b ∧ b < wt.heap.size) Ar3 mr3 cr3 T.rs) (fun i _ => nd - (intOf i).toNat)
              case atStart => exact ⟨0, .slice none 0 0, [], Nat.zero_le _, rfl, CSR.out, Nat.le_refl _, Ow.nil_ _ _ _, Rowed.nil_, Hlz.out, Hlb.out, Hlr.out⟩
              case round =>
                clear q3 CSR
                obtain ⟨k, v, xs, hk, rfl, csr, hBr, how, hrow, hlz, hlb, hlr⟩ := hrel
                have hbA := csr.below
                have hsr : w.heap.size + 1 + 1 < wr.heap.size := csr.size
                have CSR := Lib.hid csr
                have HO := Lib.hid how
                have HVL := Lib.hid how.lt
                have HY := Lib.hid hrow
                have hxl : xs.length ≤ 70 := by have := hrow.1; rw [List.length_take] at this; omega
                clear csr how hrow
                have Llz := Lib.hid hlz
                clear hlz
                have Llb := Lib.hid hlb
                clear hlb
                have Llr := Lib.hid hlr
                clear hlr
                by_cases hlt : k < nd
                · obtain ⟨x, hx⟩ := HD.out.get hlt
                  obtain ⟨d, hd, hxd⟩ := AD.out.at_ hx
                  obtain ⟨b, off, rfl, hbw, hcells⟩ := HD.out.baseIn hbA (by omega)
                  (have c0 : wr.cell? ⟨b, off + k * 6, none⟩ = some (.string x.name) := Sl.at_ hcells hx 0 rfl; have c1 : wr.cell? ⟨b, off + k * 6 + 1, none⟩ = some (.int .i64 x.it.op) := Sl.at_ hcells hx 1 rfl; have c2 : wr.cell? ⟨b, off + k * 6 + 2, none⟩ = some (.int .i64 x.it.num) := Sl.at_ hcells hx 2 rfl; have c3 : wr.cell? ⟨b, off + k * 6 + 3, none⟩ = some (.string x.it.text) := Sl.at_ hcells hx 3 rfl; have c4 : wr.cell? ⟨b, off + k * 6 + 4, none⟩ = some (.slice x.it.A x.it.n x.it.c) := Sl.at_ hcells hx 4 rfl; have c5 : wr.cell? ⟨b, off + k * 6 + 5, none⟩ = some (.int .i64 x.pts) := Sl.at_ hcells hx 5 rfl)
                  have HD1 := Lib.hid hd
                  have HXD := Lib.hid hxd
                  skip
                  have hg : w.heap.size + 1 + 1 < wr.heap.size := hsr
                  clear hcells hx hd hxd
                  go_upto_region 22 with (fail)
                  (obtain ⟨V, hWV, hbV, hzV, f1V, mfa⟩ := box1 wr #[.string x.name, .int .i64 x.it.op, .int .i64 x.it.num, .string x.it.text, .slice x.it.A x.it.n x.it.c, .int .i64 x.pts] 62; rw [← hWV]; have ma0 : V.cell? ⟨wr.heap.size, 0, none⟩ = some (.string x.name) := f1V 0 _ rfl; have ma1 : V.cell? ⟨wr.heap.size, 1, none⟩ = some (.int .i64 x.it.op) := f1V 1 _ rfl; have ma2 : V.cell? ⟨wr.heap.size, 2, none⟩ = some (.int .i64 x.it.num) := f1V 2 _ rfl; have ma3 : V.cell? ⟨wr.heap.size, 3, none⟩ = some (.string x.it.text) := f1V 3 _ rfl; have ma4 : V.cell? ⟨wr.heap.size, 4, none⟩ = some (.slice x.it.A x.it.n x.it.c) := f1V 4 _ rfl; have ma5 : V.cell? ⟨wr.heap.size, 5, none⟩ = some (.int .i64 x.pts) := f1V 5 _ rfl; clear hWV f1V)
                  have hbAV := hbA.trans (hbV.mono hbA.size)
                  have csV := CSR.out.on (Nat.lt_of_lt_of_le (by omega) (Nat.le_refl wr.heap.size)) hbV
                  have HOV := Lib.hid (HO.out.below hbV)
                  have HYV := Lib.hid (HY.out.below famD hbV)
                  have HBWV := Lib.hid hbV
                  have o3 := csV.o 6 _ rfl
                  have of := csV.fz
                  have CSV := Lib.hid csV
                  have hne : w.heap.size + 1 + 1 ≠ wr.heap.size := by omega
                  have hVd : Below V.heap.size V V.drew := (Below.refl _ _).drew
                  have hbx := hbV
                  clear csV HOV HYV hbV hg c0 c1 c2 c3 c4 c5
                  have HCX := Lib.hid (cexpr_any (HXD.out.2.2.2.on hbAV) (HW.out.dk d (List.mem_of_getElem? HD1.out)))
                  unfold It.val at HCX
                  go_wp2_with fail
                  refine (HCX.out).mono ?_
                  rintro e w2 ⟨⟨y2, rfl, hnew⟩, hb2⟩
                  replace hbx := hbx.trans (hb2.mono hbx.size)
                  have hzx : wr.heap.size < w2.heap.size := Nat.lt_of_lt_of_le hzV hb2.size
                  (have ema0 := (hb2.cell (p := ⟨_, _, none⟩) (by (try dsimp only) <;> omega)).trans ma0; have ema1 := (hb2.cell (p := ⟨_, _, none⟩) (by (try dsimp only) <;> omega)).trans ma1; have ema2 := (hb2.cell (p := ⟨_, _, none⟩) (by (try dsimp only) <;> omega)).trans ma2; have ema3 := (hb2.cell (p := ⟨_, _, none⟩) (by (try dsimp only) <;> omega)).trans ma3; have ema4 := (hb2.cell (p := ⟨_, _, none⟩) (by (try dsimp only) <;> omega)).trans ma4; have ema5 := (hb2.cell (p := ⟨_, _, none⟩) (by (try dsimp only) <;> omega)).trans ma5)
                  have efa := fun j => (hb2.frozen (p := ⟨wr.heap.size, j, none⟩) (by (try dsimp only) <;> omega)).trans (mfa j)
                  have HNEW := Lib.hid hnew
                  have hzb2 := hb2.size
                  clear hnew ma0 ma1 ma2 ma3 ma4 ma5 mfa hb2
                  go_upto_region 23 with (fail)
                  (obtain ⟨U1, hSU1, hnU1, hfarU1, hfrU1, hblU1, hszU1⟩ := set1 (wr.heap.size) 1 (u := .int .i64 y2.op) ema1; rw [← hSU1]; have hkU1 : ∀ p : Nat → Prop, (∀ b, p b → b ≠ wr.heap.size) → Keeps p w2 U1 := fun p hp => (by rw [hSU1]; exact Keeps.ofSet hp); clear hSU1; replace ema1 := hnU1; clear hnU1; replace ema0 := (hfarU1 _ _ (by omega)).trans ema0; replace ema2 := (hfarU1 _ _ (by omega)).trans ema2; replace ema3 := (hfarU1 _ _ (by omega)).trans ema3; replace ema4 := (hfarU1 _ _ (by omega)).trans ema4; replace ema5 := (hfarU1 _ _ (by omega)).trans ema5; replace efa := fun j => (hfrU1 _ j).trans (efa j); replace hbx := Below.trans hbx (hblU1 _ (by omega)); clear hfarU1 hfrU1 hblU1)
                  (obtain ⟨U2, hSU2, hnU2, hfarU2, hfrU2, hblU2, hszU2⟩ := set1 (wr.heap.size) 2 (u := .int .i64 y2.num) ema2; rw [← hSU2]; have hkU2 : ∀ p : Nat → Prop, (∀ b, p b → b ≠ wr.heap.size) → Keeps p U1 U2 := fun p hp => (by rw [hSU2]; exact Keeps.ofSet hp); clear hSU2; replace ema2 := hnU2; clear hnU2; replace ema0 := (hfarU2 _ _ (by omega)).trans ema0; replace ema1 := (hfarU2 _ _ (by omega)).trans ema1; replace ema3 := (hfarU2 _ _ (by omega)).trans ema3; replace ema4 := (hfarU2 _ _ (by omega)).trans ema4; replace ema5 := (hfarU2 _ _ (by omega)).trans ema5; replace efa := fun j => (hfrU2 _ j).trans (efa j); replace hbx := Below.trans hbx (hblU2 _ (by omega)); clear hfarU2 hfrU2 hblU2)
                  (obtain ⟨U3, hSU3, hnU3, hfarU3, hfrU3, hblU3, hszU3⟩ := set1 (wr.heap.size) 3 (u := .string y2.text) ema3; rw [← hSU3]; have hkU3 : ∀ p : Nat → Prop, (∀ b, p b → b ≠ wr.heap.size) → Keeps p U2 U3 := fun p hp => (by rw [hSU3]; exact Keeps.ofSet hp); clear hSU3; replace ema3 := hnU3; clear hnU3; replace ema0 := (hfarU3 _ _ (by omega)).trans ema0; replace ema1 := (hfarU3 _ _ (by omega)).trans ema1; replace ema2 := (hfarU3 _ _ (by omega)).trans ema2; replace ema4 := (hfarU3 _ _ (by omega)).trans ema4; replace ema5 := (hfarU3 _ _ (by omega)).trans ema5; replace efa := fun j => (hfrU3 _ j).trans (efa j); replace hbx := Below.trans hbx (hblU3 _ (by omega)); clear hfarU3 hfrU3 hblU3)
                  (obtain ⟨U, hSU, hnU, hfarU, hfrU, hblU, hszU⟩ := set1 (wr.heap.size) 4 (u := .slice y2.A y2.n y2.c) ema4; rw [← hSU]; have hkU : ∀ p : Nat → Prop, (∀ b, p b → b ≠ wr.heap.size) → Keeps p U3 U := fun p hp => (by rw [hSU]; exact Keeps.ofSet hp); clear hSU; replace ema4 := hnU; clear hnU; replace ema0 := (hfarU _ _ (by omega)).trans ema0; replace ema1 := (hfarU _ _ (by omega)).trans ema1; replace ema2 := (hfarU _ _ (by omega)).trans ema2; replace ema3 := (hfarU _ _ (by omega)).trans ema3; replace ema5 := (hfarU _ _ (by omega)).trans ema5; replace efa := fun j => (hfrU _ j).trans (efa j); replace hbx := Below.trans hbx (hblU _ (by omega)); clear hfarU hfrU hblU)
                  have csU := CSR.out.on (Nat.lt_of_lt_of_le (by omega) (Nat.le_refl wr.heap.size)) hbx
                  have HOU := Lib.hid (HO.out.below hbx)
                  have o3 := csU.o 6 _ rfl
                  have of := csU.fz
                  have CSU := Lib.hid csU
                  have hzU : V.heap.size ≤ U.heap.size := by omega
                  have HSN := Lib.hid (Rowed.snoc famD (HY.out.below famD hbx) (B := V.heap.size) (x := (⟨x.name, y2, x.pts⟩ : Dq)) (y := d) (by omega) (fun g hg => by have := (HVL.out g hg).2; omega) (famD.keep (w := w2) ⟨HXD.out.1, HXD.out.2.1, HXD.out.2.2.1, HNEW.out⟩ ((((hkU1 _ fun b hb => by omega).trans (hkU2 _ fun b hb => by omega)).trans (hkU3 _ fun b hb => by omega)).trans (hkU _ fun b hb => by omega))))
                  clear csU
                  go_wp2_with (at_builtin; go_must (
                    refine wpl_append1 _ rfl (.tmp 85) (.tmp 87) 30 rfl wt.heap.size 62 _ 80 Try.underlying30 info_disc rfl v xs rfl (HOU.out.alloc _) _ (⟨x.name, y2, x.pts⟩ : Dq) rfl (fun j u hu => cells_new _ _ _ _ _ (by simp) u hu) (by omega) (by omega) (by rw [alloc_size]; omega) ?_
                    intro v5 w5 ho5 hu5; have hbl5 := hu5.belowBase (HOU.out.alloc _) (Below.refl _ _) (by rw [alloc_size]; have := hzU; have := CSV.out.size; omega); have cs5 := (CSU.out.on (Nat.lt_of_lt_of_le (by have := hzU; omega) (Nat.le_refl U.heap.size)) ((Below.refl U.heap.size U).alloc (Nat.le_refl _) _)).on (by omega) hbl5; have o3 := cs5.o 6 _ rfl; have of := cs5.fz; obtain ⟨A6, m6, c6, hv6⟩ : ∃ (A6 : Option Addr) (m6 c6 : Nat), v5 = .slice A6 m6 c6 := (by obtain ⟨A6, c6, hv, _⟩ := ho5.val; exact ⟨_, _, _, hv⟩); subst hv6; have HO5 := Lib.hid ho5; have HU5 := Lib.hid hu5; have CS5 := Lib.hid cs5; clear ho5 hu5 cs5 hbl5))
                  have hbb : (⟨w.heap.size + 1 + 1, 6, none⟩ : Addr).block = w.heap.size + 1 + 1 := rfl
                  have csS := CS5.out.set_ 6 (by omega) (v := .slice A6 m6 c6) (vz' := (.slice Az3 mz3 cz3)) (vb' := (.slice Ab3 mb3 cb3)) (vr' := (.slice Ar3 mr3 cr3)) (vd' := (.slice A6 m6 c6)) rfl
                  have hoS := HO5.out.setFar (p := ⟨w.heap.size + 1 + 1, 6, none⟩) (fun e => by have := (HO5.out.lt _ e).1; have := hgwt; omega) (.slice A6 m6 c6)
                  have hyS := ((HSN.out.below famD ((Below.refl U.heap.size U).alloc (Nat.le_refl _) _)).upd famD HU5.out).keep famD (Keeps.ofSet (g := w.heap.size + 1 + 1) (o := 6) (u := .slice A6 m6 c6) fun b hb => by have := hb.1; omega)
                  have hSlz := ((((Llz.out).keep famZ (Keeps.ofBelow hbx)).keep famZ (Keeps.ofBelow ((Below.refl U.heap.size U).alloc (Nat.le_refl _) _))).keep famZ (Keeps.ofUpd HU5.out fun b hb e => by have := (HVL.out b e).1; have := hb.2; omega)).keep famZ (Keeps.ofSet (g := w.heap.size + 1 + 1) (o := 6) (u := .slice A6 m6 c6) fun b hb => by have := hb.1; omega)
                  have HSlz := Lib.hid hSlz
                  clear hSlz
                  have hSlb := ((((Llb.out).keep famB (Keeps.ofBelow hbx)).keep famB (Keeps.ofBelow ((Below.refl U.heap.size U).alloc (Nat.le_refl _) _))).keep famB (Keeps.ofUpd HU5.out fun b hb e => by have := (HVL.out b e).1; have := hb.2; omega)).keep famB (Keeps.ofSet (g := w.heap.size + 1 + 1) (o := 6) (u := .slice A6 m6 c6) fun b hb => by have := hb.1; omega)
                  have HSlb := Lib.hid hSlb
                  clear hSlb
                  have hSlr := ((((Llr.out).keep famR (Keeps.ofBelow hbx)).keep famR (Keeps.ofBelow ((Below.refl U.heap.size U).alloc (Nat.le_refl _) _))).keep famR (Keeps.ofUpd HU5.out fun b hb e => by have := (HVL.out b e).1; have := hb.2; omega)).keep famR (Keeps.ofSet (g := w.heap.size + 1 + 1) (o := 6) (u := .slice A6 m6 c6) fun b hb => by have := hb.1; omega)
                  have HSlr := Lib.hid hSlr
                  clear hSlr
                  have hsz : wt.heap.size ≤ (w5.setCell ⟨w.heap.size + 1 + 1, 6, none⟩ (.slice A6 m6 c6)).heap.size := by rw [World.size_setCell]; have h1 := HU5.out.size; rw [World.size_alloc] at h1; omega
                  go_roundw
                  case rel => exact ⟨k + 1, _, xs ++ [(⟨x.name, y2, x.pts⟩ : Dq)], by omega, by go_num, csS, hsz, hoS, by rw [List.take_add_one, HD1.out]; exact hyS, HSlz.out, HSlb.out, HSlr.out⟩
                  case measure => simp [intOf]; omega
                · obtain rfl : nd = k := by omega
                  have hkn : ¬ ((nd : Int) < (nd : Int)) := by omega
                  have htk : T.ds.take nd = T.ds := List.take_of_length_le (by have := AD.out.1; have := HD.out.len; omega)
                  obtain ⟨Ad3, md3, cd3, rfl, hn3, hlsp⟩ := LSP.ofRow famD HO.out HY.out
                  rw [htk] at hlsp
                  have Hld := Lib.hid (hlsp.lt famD)
                  clear hlsp hn3 htk HO HVL HY hxl xs
                  obtain ⟨wd, hwz⟩ : ∃ wz, wz = wr := ⟨_, rfl⟩
                  subst hwz
                  have hgwd : w.heap.size + 1 + 1 < wd.heap.size := hsr
                  have Hlz := Llz
                  clear Llz
                  have Hlb := Llb
                  clear Llb
                  have Hlr := Llr
                  clear Llr
                  have o0 := CSR.out.o 0 _ rfl
                  have r0 := CSR.out.r 0 _ rfl
                  have o1 := CSR.out.o 1 _ rfl
                  have r1 := CSR.out.r 1 _ rfl
                  have o2 := CSR.out.o 2 _ rfl
                  have r2 := CSR.out.r 2 _ rfl
                  have o3 := CSR.out.o 3 _ rfl
                  have r3 := CSR.out.r 3 _ rfl
                  have o4 := CSR.out.o 4 _ rfl
                  have r4 := CSR.out.r 4 _ rfl
                  have o5 := CSR.out.o 5 _ rfl
                  have r5 := CSR.out.r 5 _ rfl
                  have o6 := CSR.out.o 6 _ rfl
                  have r6 := CSR.out.r 6 _ rfl
                  have rf := CSR.out.rf
                  have of := CSR.out.fz
                  dsimp only at o0 o1 o2 o3 o4 o5 o6
                  go_wp2_with fail
                  refine bodyPost_ret (results_cells rfl _ _ (w.heap.size + 1) #[.string name, .int .i64 from_, .bool split, .slice Az3 mz3 cz3, .slice Ab3 mb3 cb3, .slice Ar3 mr3 cr3, .slice Ad3 md3 cd3] _ rfl (fun j v hv => by have := setRun_at [.string name, .int .i64 from_, .bool split, .slice Az3 mz3 cz3, .slice Ab3 mb3 cb3, .slice Ar3 mr3 cr3, .slice Ad3 md3 cd3] wd (w.heap.size + 1) 0 zeros7 (fun j u hu => by have := CSR.out.r j u hu; rw [Nat.zero_add]; exact this) (Nat.le_refl _) j v hv; rw [Nat.zero_add] at this; exact this) rfl rfl rfl) rfl ?_
                  refine ⟨⟨⟨name, from_, split, Az3, mz3, cz3, Ab3, mb3, cb3, Ar3, mr3, cr3, Ad3, md3, cd3⟩, rfl, ?_⟩, setRun_below [.string name, .int .i64 from_, .bool split, .slice Az3 mz3 cz3, .slice Ab3 mb3 cb3, .slice Ar3 mr3 cr3, .slice Ad3 md3 cd3] (w.heap.size + 1) 0 CSR.out.below (by omega)⟩
                  have hk1 : Keeps (fun b => w.heap.size + 1 + 1 + 1 ≤ b) wd (setRun wd (w.heap.size + 1) 0 [.string name, .int .i64 from_, .bool split, .slice Az3 mz3 cz3, .slice Ab3 mb3 cb3, .slice Ar3 mr3 cr3, .slice Ad3 md3 cd3]) := setRun_keeps _ _ _ fun b hb => by omega
                  exact ⟨HN.out.1, HN.out.2.1, HN.out.2.2.1, HN.out.2.2.2, ((Hlz.out.mono famZ (q := fun b => w.heap.size + 1 + 1 + 1 ≤ b) fun b hb => by have := hb.1; omega).keep famZ hk1).mono famZ fun b hb => by omega, ((Hlb.out.mono famB (q := fun b => w.heap.size + 1 + 1 + 1 ≤ b) fun b hb => by have := hb.1; omega).keep famB hk1).mono famB fun b hb => by omega, ((Hlr.out.mono famR (q := fun b => w.heap.size + 1 + 1 + 1 ≤ b) fun b hb => by have := hb.1; omega).keep famR hk1).mono famR fun b hb => by omega, ((Hld.out.mono famD (q := fun b => w.heap.size + 1 + 1 + 1 ≤ b) fun b hb => by have := hb.1; omega).keep famD hk1).mono famD fun b hb => by omega⟩
end Cv
end Go.Proofs.Ytdnnnajohdohaaa
