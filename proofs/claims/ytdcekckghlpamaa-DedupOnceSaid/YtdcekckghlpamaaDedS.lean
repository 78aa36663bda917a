/-
  Dedup: the closure that refuses a record. No condition.
-/
import Derived.Test.YtdcekckghlpamaaDedR
import Derived.BigQuiet
import Derived.StillTailTactics
import Derived.Lib.Overlaps
import Derived.Deep.DeepCutAuto
import Derived.Deep.RegionWith
import Derived.Deep.RegionLaw
import Derived.Deep.RegionHeld2
import Derived.Handy
set_option maxRecDepth 100000
set_option linter.unusedVariables false
set_option linter.unusedSimpArgs false
namespace Go.Proofs.Ytdcekckghlpamaa
open Go.RowKit

namespace Dd
/-- the closure's cells: the list of rejects, which may be written, and the records -/
def Cl (w : World) (g gr : Nat) (v rs : Value) : Prop := w.cell? ⟨g, 0, none⟩ = some v ∧ w.frozen? ⟨g, 0, none⟩ = false ∧ w.cell? ⟨gr, 0, none⟩ = some rs
theorem Cl.below {w w' : World} {g gr : Nat} {v rs : Value} (h : Cl w g gr v rs) (hb : Below w.heap.size w w') (hg : g < w.heap.size) (hgr : gr < w.heap.size) : Cl w' g gr v rs :=
  ⟨(hb.cell (p := ⟨g, 0, none⟩) hg).trans h.1, (hb.frozen (p := ⟨g, 0, none⟩) hg).trans h.2.1, (hb.cell (p := ⟨gr, 0, none⟩) hgr).trans h.2.2⟩
theorem Cl.upd {w w' : World} {g gr : Nat} {v rs u u' : Value} (h : Cl w g gr v rs) (hu : Upd w w' u u') (hg : g < w.heap.size) (hgr : gr < w.heap.size) (n1 : u.ownBlock ≠ some g) (n2 : u.ownBlock ≠ some gr) : Cl w' g gr v rs :=
  ⟨upd_cell hu hg n1 h.1, (upd_frozen hu hg n1).trans h.2.1, upd_cell hu hgr n2 h.2.2⟩
def RfPost (B : Nat) (w0 w' : World) (K : List Nat) (v1 v2 : Value) (g gr : Nat) (rs : Value) (F : Fst) (y : Rej) (e : Ending) : Prop :=
  ∃ u, e = .returned (.tuple #[]) ∧ FS B w0 w' K v1 v2 u (F.1, F.2.1, F.2.2 ++ [y]) ∧ Cl w' g gr u rs
set_option maxHeartbeats 4000000 in
theorem refuse_any (g gr b off n c k : Nat) (r : Rec) (ec : Int) (B : Nat) (w0 w : World) (K : List Nat) (v1 v2 v3 : Value) (F : Fst) (h : FS B w0 w K v1 v2 v3 F) (hlen : F.2.2.length ≤ 1000) (hk : k < n) (hn : n ≤ 1000)
    (hg : g ∈ K) (hgr : gr ∈ K) (hgg : g ≠ gr) (hB : B ≤ g) (hbw : b < B)
    (hcl : Cl w g gr v3 (.slice (some ⟨b, off, none⟩) n c))
    (d0 : w.cell? ⟨b, off + k * 12, none⟩ = some (.int .i64 r.src)) (d1 : w.cell? ⟨b, off + k * 12 + 1, none⟩ = some (.int .i64 r.ser)) :
    Calls Try.prog 32 #[.int .i64 k, .int .i64 ec, .pointer (some ⟨g, 0, none⟩), .pointer (some ⟨gr, 0, none⟩)] w fun e w' => RfPost B w0 w' K v1 v2 g gr (.slice (some ⟨b, off, none⟩) n c) F ⟨r.src, r.ser, k, ec⟩ e := by
  have HF := Lib.hid h
  obtain ⟨cg, fg, cr⟩ := hcl
  have hgl := (h.ap g hg).1
  have hgrl := (h.ap gr hgr).1
  have hbs := h.bs
  clear h
  go_enter Try.func32, Try.ntmps32
  have hbe : Below w.heap.size w (w.drew.alloc (.cells #[.int .i64 r.src, .int .i64 r.ser, .int .i64 k, .int .i64 ec] 52)) := (Below.refl _ _).drew.alloc (Nat.le_refl _) _
  have HF1 := Lib.hid (HF.out.below hbe)
  have CG := Lib.hid ((hbe.cell (p := ⟨g, 0, none⟩) hgl).trans cg)
  have FG := Lib.hid ((hbe.frozen (p := ⟨g, 0, none⟩) hgl).trans fg)
  have hgl1 : g < (w.drew.alloc (.cells #[.int .i64 r.src, .int .i64 r.ser, .int .i64 k, .int .i64 ec] 52)).heap.size := Nat.lt_of_lt_of_le hgl hbe.size
  have hgr1 : gr < (w.drew.alloc (.cells #[.int .i64 r.src, .int .i64 r.ser, .int .i64 k, .int .i64 ec] 52)).heap.size := Nat.lt_of_lt_of_le hgrl hbe.size
  have CR := Lib.hid ((hbe.cell (p := ⟨gr, 0, none⟩) hgrl).trans cr)
  have D0 := Lib.hid ((hbe.cell (p := ⟨b, off + k * 12, none⟩) (show b < w.heap.size by omega)).trans d0)
  have D1 := Lib.hid ((hbe.cell (p := ⟨b, off + k * 12 + 1, none⟩) (show b < w.heap.size by omega)).trans d1)
  have hb1 : b < (w.drew.alloc (.cells #[.int .i64 r.src, .int .i64 r.ser, .int .i64 k, .int .i64 ec] 52)).heap.size := Nat.lt_of_lt_of_le (by omega) hbe.size
  have hv3b : v3.ownBlock ≠ some b := fun e => by have := (HF.out.a3.lt b e).1; omega
  refine wp_region_held_drew (S := (fun w' : World => w'.cell? ⟨gr, 0, none⟩ = some (.slice (some ⟨b, off, none⟩) n c) ∧ w'.cell? ⟨b, off + k * 12, none⟩ = some (.int .i64 r.src) ∧ w'.cell? ⟨b, off + k * 12 + 1, none⟩ = some (.int .i64 r.ser))) (by kernel_rfl) ⟨cr, d0, d1⟩ (fun hHeld => ?_)
  refine wpAnyH_take (i := 1) (v := ?_) rfl (by kernel_rfl) (by kernel_rfl) (by kernel_rfl) (fun _ _ _ h => h) (Or.inl ⟨by rfl, ?_⟩) (by assumption) ?_
  rotate_left
  · intro w hSw; (try dsimp only at hSw); go_simp; (try with_reducible rfl)
  (try simp only [Act.put, List.setIfInBounds_toArray, List.set_cons_zero, List.set_cons_succ])
  refine wpAnyH_take (i := 2) (v := ?_) rfl (by kernel_rfl) (by kernel_rfl) (by kernel_rfl) (fun _ _ _ h => h) (Or.inl ⟨by rfl, ?_⟩) (by assumption) ?_
  rotate_left
  · intro w hSw; (try dsimp only at hSw); go_simp; (try with_reducible rfl)
  (try simp only [Act.put, List.setIfInBounds_toArray, List.set_cons_zero, List.set_cons_succ])
  refine wpAnyH_take (i := 3) (v := ?_) rfl (by kernel_rfl) (by kernel_rfl) (by kernel_rfl) (fun _ _ _ h => h) (Or.inl ⟨by rfl, ?_⟩) (by assumption) ?_
  rotate_left
  · intro w hSw; (try dsimp only at hSw); go_simp; (try with_reducible rfl)
  (try simp only [Act.put, List.setIfInBounds_toArray, List.set_cons_zero, List.set_cons_succ])
  refine wpAnyH_take (i := 4) (v := ?_) rfl (by kernel_rfl) (by kernel_rfl) (by kernel_rfl) (fun _ _ _ h => h) (Or.inl ⟨by rfl, ?_⟩) (by assumption) ?_
  rotate_left
  · intro w hSw; (try dsimp only at hSw); go_simp; (try with_reducible rfl)
  (try simp only [Act.put, List.setIfInBounds_toArray, List.set_cons_zero, List.set_cons_succ])
  refine wpAnyH_take (i := 5) (v := ?_) rfl (by kernel_rfl) (by kernel_rfl) (by kernel_rfl) (fun _ _ _ h => h) (Or.inl ⟨by rfl, ?_⟩) (by assumption) ?_
  rotate_left
  · intro w hSw; (try dsimp only at hSw); go_simp; (try with_reducible rfl)
  (try simp only [Act.put, List.setIfInBounds_toArray, List.set_cons_zero, List.set_cons_succ])
  refine wpAnyH_take (i := 6) (v := ?_) rfl (by kernel_rfl) (by kernel_rfl) (by kernel_rfl) (fun _ _ _ h => h) (Or.inl ⟨by rfl, ?_⟩) (by assumption) ?_
  rotate_left
  · intro w hSw; (try dsimp only at hSw); go_simp; (try with_reducible rfl)
  (try simp only [Act.put, List.setIfInBounds_toArray, List.set_cons_zero, List.set_cons_succ])
  refine wpAnyH_take (i := 7) (v := ?_) rfl (by kernel_rfl) (by kernel_rfl) (by kernel_rfl) (fun _ _ _ h => h) (Or.inl ⟨by rfl, ?_⟩) (by assumption) ?_
  rotate_left
  · intro w hSw; (try dsimp only at hSw); go_simp; (try with_reducible rfl)
  (try simp only [Act.put, List.setIfInBounds_toArray, List.set_cons_zero, List.set_cons_succ])
  refine wpAnyH_take (i := 8) (v := ?_) rfl (by kernel_rfl) (by kernel_rfl) (by kernel_rfl) (fun _ _ _ h => h) (Or.inl ⟨by rfl, ?_⟩) (by assumption) ?_
  rotate_left
  · intro w hSw; (try dsimp only at hSw); go_simp; (try with_reducible rfl)
  (try simp only [Act.put, List.setIfInBounds_toArray, List.set_cons_zero, List.set_cons_succ])
  refine wpAnyH_take (i := 9) (v := ?_) rfl (by kernel_rfl) (by kernel_rfl) (by kernel_rfl) (fun _ _ _ h => h) (Or.inl ⟨by rfl, ?_⟩) (by assumption) ?_
  rotate_left
  · intro w hSw; (try dsimp only at hSw); go_simp; (try with_reducible rfl)
  (try simp only [Act.put, List.setIfInBounds_toArray, List.set_cons_zero, List.set_cons_succ])
  refine wpAnyH_take (i := 10) (v := ?_) rfl (by kernel_rfl) (by kernel_rfl) (by kernel_rfl) (fun _ _ _ h => h) (Or.inl ⟨by rfl, ?_⟩) (by assumption) ?_
  rotate_left
  · intro w hSw; (try dsimp only at hSw); go_simp; (try with_reducible rfl)
  (try simp only [Act.put, List.setIfInBounds_toArray, List.set_cons_zero, List.set_cons_succ])
  refine wpAnyH_take (i := 11) (v := ?_) rfl (by kernel_rfl) (by kernel_rfl) (by kernel_rfl) (fun _ _ _ h => h) (Or.inl ⟨by rfl, ?_⟩) (by assumption) ?_
  rotate_left
  · intro w hSw; (try dsimp only at hSw); go_simp; (try with_reducible rfl)
  (try simp only [Act.put, List.setIfInBounds_toArray, List.set_cons_zero, List.set_cons_succ])
  refine wpAnyH_take (i := 12) (v := ?_) rfl (by kernel_rfl) (by kernel_rfl) (by kernel_rfl) (fun _ _ _ h => h) (Or.inl ⟨by rfl, ?_⟩) (by assumption) ?_
  rotate_left
  · intro w hSw; (try dsimp only at hSw); go_simp; (try with_reducible rfl)
  (try simp only [Act.put, List.setIfInBounds_toArray, List.set_cons_zero, List.set_cons_succ])
  refine wpAnyH_take (i := 13) (v := ?_) rfl (by kernel_rfl) (by kernel_rfl) (by kernel_rfl) (fun _ _ _ h => h) (Or.inl ⟨by rfl, ?_⟩) (by assumption) ?_
  rotate_left
  · intro w hSw; (try dsimp only at hSw); go_simp; (try with_reducible rfl)
  (try simp only [Act.put, List.setIfInBounds_toArray, List.set_cons_zero, List.set_cons_succ])
  refine wpAnyH_ready (rs := [0, 14]) (by kernel_rfl) (by simp) ?_
  refine AllReadyH.cons rfl (fun K' hK => ?_) (AllReadyH.cons rfl (fun K' hK => ?_) AllReadyH.nil)
  · go_simp
    refine hK.out _ _ (⟨cr, d0, d1⟩) (fun hHeld => ?_)
    clear hK K'
    (try simp only [Act.put, List.setIfInBounds_toArray, List.set_cons_zero, List.set_cons_succ])
    refine wpAnyH_ready (rs := [14]) (by kernel_rfl) (by simp) ?_
    refine AllReadyH.cons rfl (fun K' hK => ?_) AllReadyH.nil
    go_simp
    refine hK.out _ _ (⟨CR.out, D0.out, D1.out⟩) (fun hHeld => ?_)
    clear hK K'
    (try simp only [Act.put, List.setIfInBounds_toArray, List.set_cons_zero, List.set_cons_succ])
    refine wpAnyH_ready (rs := [15]) (by kernel_rfl) (by simp) ?_
    refine AllReadyH.cons rfl (fun K' hK => ?_) AllReadyH.nil
    (refine step_append rfl (.tmp 6) (.tmp 20) 37 rfl B 52 _ 32 Try.underlying37 info_rej rfl v3 F.2.2 rfl HF1.out.a3 _ 1 1 [⟨r.src, r.ser, k, ec⟩] rfl (fun h => nomatch h) (Sl.new w.drew #[.int .i64 r.src, .int .i64 r.ser, .int .i64 k, .int .i64 ec] 52 w.drew.heap.size rfl ([⟨r.src, r.ser, k, ec⟩] : List Rej) 1 rfl (by unfold maxLen; decide) rfl) (by omega) (by omega) HF1.out.bs ?_; intro v9 w9 ho9 hu9; obtain ⟨A9, m9, c9, hv9⟩ : ∃ (A9 : Option Addr) (m9 c9 : Nat), v9 = .slice A9 m9 c9 := (by obtain ⟨A9, c9, hv, _⟩ := ho9.val; exact ⟨_, _, _, hv⟩); subst hv9; have HU9 := Lib.hid hu9; have HO9 := Lib.hid ho9; have cg9 := upd_cell HU9.out hgl1 (HF1.out.ap g hg).2.2.2 CG.out; have fg9 := (upd_frozen (o := 0) HU9.out hgl1 (HF1.out.ap g hg).2.2.2).trans FG.out; clear hu9 ho9)
    refine hK.out _ _ (⟨upd_cell HU9.out hgr1 (HF1.out.ap gr hgr).2.2.2 CR.out, upd_cell HU9.out hb1 hv3b D0.out, upd_cell HU9.out hb1 hv3b D1.out⟩) (fun hHeld => ?_)
    clear hK K'
    (try simp only [Act.put, List.setIfInBounds_toArray, List.set_cons_zero, List.set_cons_succ])
    refine wpAnyH_ready (rs := [16]) (by kernel_rfl) (by simp) ?_
    refine AllReadyH.cons rfl (fun K' hK => ?_) AllReadyH.nil
    go_simp
    refine hK.out _ _ (⟨(World.cell?_setCell_other _ _ _ _ (fun e => by injection e with e1 e2; omega)).trans (upd_cell HU9.out hgr1 (HF1.out.ap gr hgr).2.2.2 CR.out), (World.cell?_setCell_other _ _ _ _ (fun e => by injection e with e1 e2; omega)).trans (upd_cell HU9.out hb1 hv3b D0.out), (World.cell?_setCell_other _ _ _ _ (fun e => by injection e with e1 e2; omega)).trans (upd_cell HU9.out hb1 hv3b D1.out)⟩) (fun hHeld => ?_)
    clear hK K'
    (try simp only [Act.put, List.setIfInBounds_toArray, List.set_cons_zero, List.set_cons_succ])
    refine wpAnyH_done (by kernel_rfl) ?_ _
    have HS9 := Lib.hid (FS.store (HF1.out.up3 HU9.out HO9.out) hg hB 0 (.slice A9 m9 c9))
    have FR9 := Lib.hid fg9
    have CR9 := Lib.hid (upd_cell HU9.out hgr1 (HF1.out.ap gr hgr).2.2.2 CR.out)
    have CC9 := Lib.hid (World.cell?_setCell_same w9 ⟨g, 0, none⟩ (.slice A9 m9 c9) cg9)
    go_wp2_with fail
    (try simp only [Exit.inBlock, Exit.then])
    first | (refine bodyPost_ret (results_none rfl _ _ _) rfl ?_) | (refine bodyPost_end (results_none rfl _ _ _) rfl ?_)
    exact ⟨_, rfl, HS9.out, CC9.out, (World.frozen?_setCell _ _ _ _).trans FR9.out, (World.cell?_setCell_other _ _ _ _ (fun e => by injection e with e1 e2; omega)).trans CR9.out⟩
  · go_simp
    refine hK.out _ _ (⟨CR.out, D0.out, D1.out⟩) (fun hHeld => ?_)
    clear hK K'
    (try simp only [Act.put, List.setIfInBounds_toArray, List.set_cons_zero, List.set_cons_succ])
    refine wpAnyH_ready (rs := [0]) (by kernel_rfl) (by simp) ?_
    refine AllReadyH.cons rfl (fun K' hK => ?_) AllReadyH.nil
    go_simp
    refine hK.out _ _ (⟨CR.out, D0.out, D1.out⟩) (fun hHeld => ?_)
    clear hK K'
    (try simp only [Act.put, List.setIfInBounds_toArray, List.set_cons_zero, List.set_cons_succ])
    refine wpAnyH_ready (rs := [15]) (by kernel_rfl) (by simp) ?_
    refine AllReadyH.cons rfl (fun K' hK => ?_) AllReadyH.nil
    (refine step_append rfl (.tmp 6) (.tmp 20) 37 rfl B 52 _ 32 Try.underlying37 info_rej rfl v3 F.2.2 rfl HF1.out.a3 _ 1 1 [⟨r.src, r.ser, k, ec⟩] rfl (fun h => nomatch h) (Sl.new w.drew #[.int .i64 r.src, .int .i64 r.ser, .int .i64 k, .int .i64 ec] 52 w.drew.heap.size rfl ([⟨r.src, r.ser, k, ec⟩] : List Rej) 1 rfl (by unfold maxLen; decide) rfl) (by omega) (by omega) HF1.out.bs ?_; intro v9 w9 ho9 hu9; obtain ⟨A9, m9, c9, hv9⟩ : ∃ (A9 : Option Addr) (m9 c9 : Nat), v9 = .slice A9 m9 c9 := (by obtain ⟨A9, c9, hv, _⟩ := ho9.val; exact ⟨_, _, _, hv⟩); subst hv9; have HU9 := Lib.hid hu9; have HO9 := Lib.hid ho9; have cg9 := upd_cell HU9.out hgl1 (HF1.out.ap g hg).2.2.2 CG.out; have fg9 := (upd_frozen (o := 0) HU9.out hgl1 (HF1.out.ap g hg).2.2.2).trans FG.out; clear hu9 ho9)
    refine hK.out _ _ (⟨upd_cell HU9.out hgr1 (HF1.out.ap gr hgr).2.2.2 CR.out, upd_cell HU9.out hb1 hv3b D0.out, upd_cell HU9.out hb1 hv3b D1.out⟩) (fun hHeld => ?_)
    clear hK K'
    (try simp only [Act.put, List.setIfInBounds_toArray, List.set_cons_zero, List.set_cons_succ])
    refine wpAnyH_ready (rs := [16]) (by kernel_rfl) (by simp) ?_
    refine AllReadyH.cons rfl (fun K' hK => ?_) AllReadyH.nil
    go_simp
    refine hK.out _ _ (⟨(World.cell?_setCell_other _ _ _ _ (fun e => by injection e with e1 e2; omega)).trans (upd_cell HU9.out hgr1 (HF1.out.ap gr hgr).2.2.2 CR.out), (World.cell?_setCell_other _ _ _ _ (fun e => by injection e with e1 e2; omega)).trans (upd_cell HU9.out hb1 hv3b D0.out), (World.cell?_setCell_other _ _ _ _ (fun e => by injection e with e1 e2; omega)).trans (upd_cell HU9.out hb1 hv3b D1.out)⟩) (fun hHeld => ?_)
    clear hK K'
    (try simp only [Act.put, List.setIfInBounds_toArray, List.set_cons_zero, List.set_cons_succ])
    refine wpAnyH_done (by kernel_rfl) ?_ _
    have HS9 := Lib.hid (FS.store (HF1.out.up3 HU9.out HO9.out) hg hB 0 (.slice A9 m9 c9))
    have FR9 := Lib.hid fg9
    have CR9 := Lib.hid (upd_cell HU9.out hgr1 (HF1.out.ap gr hgr).2.2.2 CR.out)
    have CC9 := Lib.hid (World.cell?_setCell_same w9 ⟨g, 0, none⟩ (.slice A9 m9 c9) cg9)
    go_wp2_with fail
    (try simp only [Exit.inBlock, Exit.then])
    first | (refine bodyPost_ret (results_none rfl _ _ _) rfl ?_) | (refine bodyPost_end (results_none rfl _ _ _) rfl ?_)
    exact ⟨_, rfl, HS9.out, CC9.out, (World.frozen?_setCell _ _ _ _).trans FR9.out, (World.cell?_setCell_other _ _ _ _ (fun e => by injection e with e1 e2; omega)).trans CR9.out⟩
end Dd
end Go.Proofs.Ytdcekckghlpamaa
