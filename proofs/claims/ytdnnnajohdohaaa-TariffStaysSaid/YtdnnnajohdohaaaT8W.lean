/-
  Tariffs: both Tariff. No condition.
-/
import Derived.Test.YtdnnnajohdohaaaT8V
import Derived.Test.YtdnnnajohdohaaaT8T
import Derived.BigQuiet
import Derived.StillTailTactics
import Derived.Lib.Overlaps
import Derived.Deep.DeepCutAuto
import Derived.Deep.RegionWith
import Derived.Laws.RangeAny
set_option maxRecDepth 100000
set_option linter.unusedVariables false
set_option linter.unusedSimpArgs false
namespace Go.Proofs.Ytdnnnajohdohaaa
open Go.RowKit

namespace Cv
open Xp Ck
structure TS (w : World) (name : ByteArray) (Az : Option Addr) (nz cz : Nat) (Ab : Option Addr) (nb cb : Nat) (Ar : Option Addr) (nr cr : Nat) (Ad : Option Addr) (nd cd : Nat) (PZ : Nm → List ByteArray) (SB : Nm → List Slt) (SR : Rt → List Stp) (E : Dq → Ex) (zs bs : List Nm) (rs : List Rt) (ds : List Dq) : Prop where
  nm : name.size ≤ maxLen
  z : Sl w Az nz cz zs
  zk : ∀ x ∈ zs, Sl w x.A x.n x.c (PZ x)
  zn : ∀ x ∈ zs, x.name.size ≤ maxLen
  zp : ∀ x ∈ zs, ∀ p ∈ PZ x, p.size ≤ maxLen
  b : Sl w Ab nb cb bs
  bk : ∀ x ∈ bs, Sl w x.A x.n x.c (SB x)
  bn : ∀ x ∈ bs, x.name.size ≤ maxLen
  r : Sl w Ar nr cr rs
  rk : ∀ x ∈ rs, Sl w x.A x.n x.c (SR x)
  d : Sl w Ad nd cd ds
  dk : ∀ x ∈ ds, Rp w (E x) x.it
  dn : ∀ x ∈ ds, x.name.size ≤ maxLen
theorem TS.on {w w' : World} {name : ByteArray} {Az : Option Addr} {nz cz : Nat} {Ab : Option Addr} {nb cb : Nat} {Ar : Option Addr} {nr cr : Nat} {Ad : Option Addr} {nd cd : Nat} {PZ : Nm → List ByteArray} {SB : Nm → List Slt} {SR : Rt → List Stp} {E : Dq → Ex} {zs bs : List Nm} {rs : List Rt} {ds : List Dq}
    (h : TS w name Az nz cz Ab nb cb Ar nr cr Ad nd cd PZ SB SR E zs bs rs ds) (hb : Below w.heap.size w w') : TS w' name Az nz cz Ab nb cb Ar nr cr Ad nd cd PZ SB SR E zs bs rs ds :=
  ⟨h.nm, h.z.below hb, fun x hx => (h.zk x hx).below hb, h.zn, h.zp, h.b.below hb, fun x hx => (h.bk x hx).below hb, h.bn, h.r.below hb, fun x hx => (h.rk x hx).below hb, h.d.below hb, fun x hx => (h.dk x hx).on hb, h.dn⟩
def restT (PZ : Nm → List ByteArray) (SB : Nm → List Slt) (SR : Rt → List Stp) (E : Dq → Ex) (zs bs : List Nm) (rs : List Rt) (ds : List Dq) : Int := if zonesE PZ zs ≠ 0 then zonesE PZ zs else if bandsE SB bs ≠ 0 then bandsE SB bs else if ratesE SR zs bs rs ≠ 0 then ratesE SR zs bs rs else discsE E ds
def tarE (name : ByteArray) (from_ : Int) (PZ : Nm → List ByteArray) (SB : Nm → List Slt) (SR : Rt → List Stp) (E : Dq → Ex) (zs bs : List Nm) (rs : List Rt) (ds : List Dq) : Int := if nameB name = false then 8 else if from_ < 0 ∨ 12622780800 ≤ from_ then 15 else restT PZ SB SR E zs bs rs ds
section
variable {name : ByteArray} {from_ : Int} {PZ : Nm → List ByteArray} {SB : Nm → List Slt} {SR : Rt → List Stp} {E : Dq → Ex} {zs bs : List Nm} {rs : List Rt} {ds : List Dq}
theorem tarE_name (h : nameB name = false) : tarE name from_ PZ SB SR E zs bs rs ds = 8 := by rw [tarE, if_pos h]
theorem tarE_from (h : nameB name = true) (hf : from_ < 0 ∨ 12622780800 ≤ from_) : tarE name from_ PZ SB SR E zs bs rs ds = 15 := by rw [tarE, if_neg (by rw [h]; simp), if_pos hf]
theorem tarE_rest (h : nameB name = true) (h1 : ¬ from_ < 0) (h2 : ¬ 12622780800 ≤ from_) : tarE name from_ PZ SB SR E zs bs rs ds = restT PZ SB SR E zs bs rs ds := by rw [tarE, if_neg (by rw [h]; simp), if_neg (by omega)]
theorem restT_z (h : zonesE PZ zs ≠ 0) : restT PZ SB SR E zs bs rs ds = zonesE PZ zs := by rw [restT, if_pos h]
theorem restT_b (hz : zonesE PZ zs = 0) (h : bandsE SB bs ≠ 0) : restT PZ SB SR E zs bs rs ds = bandsE SB bs := by rw [restT, if_neg (by rw [hz]; simp), if_pos h]
theorem restT_r (hz : zonesE PZ zs = 0) (hb : bandsE SB bs = 0) (h : ratesE SR zs bs rs ≠ 0) : restT PZ SB SR E zs bs rs ds = ratesE SR zs bs rs := by rw [restT, if_neg (by rw [hz]; simp), if_neg (by rw [hb]; simp), if_pos h]
theorem restT_d (hz : zonesE PZ zs = 0) (hb : bandsE SB bs = 0) (h : ratesE SR zs bs rs = 0) : restT PZ SB SR E zs bs rs ds = discsE E ds := by rw [restT, if_neg (by rw [hz]; simp), if_neg (by rw [hb]; simp), if_neg (by rw [h]; simp)]
end
set_option maxHeartbeats 16000000 in
theorem tariff_any (name : ByteArray) (from_ : Int) (split : Bool) (Az : Option Addr) (nz cz : Nat) (Ab : Option Addr) (nb cb : Nat) (Ar : Option Addr) (nr cr : Nat) (Ad : Option Addr) (nd cd : Nat) (PZ : Nm → List ByteArray) (SB : Nm → List Slt) (SR : Rt → List Stp) (E : Dq → Ex) (zs bs : List Nm) (rs : List Rt) (ds : List Dq) (w : World) (h : TS w name Az nz cz Ab nb cb Ar nr cr Ad nd cd PZ SB SR E zs bs rs ds) :
    Calls Try.prog 24 #[.agg #[.string name, .int .i64 from_, .bool split, .slice Az nz cz, .slice Ab nb cb, .slice Ar nr cr, .slice Ad nd cd]] w fun e w' => e = .returned (.int .i64 (tarE name from_ PZ SB SR E zs bs rs ds)) ∧ Below w.heap.size w w' := by
  have H := Lib.hid h
  have hnm := h.nm
  have hnr := h.r.nmax
  have hnd := h.d.nmax
  have hlr := h.r.len
  have hld := h.d.len
  clear h
  go_enter Try.func24, Try.ntmps24
  go_upto_region 1 with (fail)
  (obtain ⟨W, hWW, hbW, hzW, f1W, qfa⟩ := box1 w #[.string name, .int .i64 from_, .bool split, .slice Az nz cz, .slice Ab nb cb, .slice Ar nr cr, .slice Ad nd cd] 32; rw [← hWW]; have qa0 : W.cell? ⟨w.heap.size, 0, none⟩ = some (.string name) := f1W 0 _ rfl; have qa1 : W.cell? ⟨w.heap.size, 1, none⟩ = some (.int .i64 from_) := f1W 1 _ rfl; have qa2 : W.cell? ⟨w.heap.size, 2, none⟩ = some (.bool split) := f1W 2 _ rfl; have qa3 : W.cell? ⟨w.heap.size, 3, none⟩ = some (.slice Az nz cz) := f1W 3 _ rfl; have qa4 : W.cell? ⟨w.heap.size, 4, none⟩ = some (.slice Ab nb cb) := f1W 4 _ rfl; have qa5 : W.cell? ⟨w.heap.size, 5, none⟩ = some (.slice Ar nr cr) := f1W 5 _ rfl; have qa6 : W.cell? ⟨w.heap.size, 6, none⟩ = some (.slice Ad nd cd) := f1W 6 _ rfl; clear hWW f1W)
  have hbT := hbW
  have hgW : w.heap.size < W.heap.size := hzW
  clear hbW
  go_wp2_with fail
  refine (name_any name _ hnm).mono ?_
  rintro e w2 ⟨rfl, hb2⟩
  have hzT2 := hbT.size
  (have hzhb2 := hb2.size; replace qa0 := (hb2.cell (p := ⟨_, _, none⟩) (by (try dsimp only) <;> omega)).trans qa0; replace qa1 := (hb2.cell (p := ⟨_, _, none⟩) (by (try dsimp only) <;> omega)).trans qa1; replace qa2 := (hb2.cell (p := ⟨_, _, none⟩) (by (try dsimp only) <;> omega)).trans qa2; replace qa3 := (hb2.cell (p := ⟨_, _, none⟩) (by (try dsimp only) <;> omega)).trans qa3; replace qa4 := (hb2.cell (p := ⟨_, _, none⟩) (by (try dsimp only) <;> omega)).trans qa4; replace qa5 := (hb2.cell (p := ⟨_, _, none⟩) (by (try dsimp only) <;> omega)).trans qa5; replace qa6 := (hb2.cell (p := ⟨_, _, none⟩) (by (try dsimp only) <;> omega)).trans qa6; replace hbT := Below.trans hbT (Below.mono hb2 (by omega)))
  cases hn : nameB name
  · have HQ := Lib.hid (tarE_name (from_ := from_) (PZ := PZ) (SB := SB) (SR := SR) (E := E) (zs := zs) (bs := bs) (rs := rs) (ds := ds) hn)
    clear hn
    go_wp2_with fail
    go_ret
    exact ⟨ret_int HQ.out.symm, hbT⟩
  have HN := Lib.hid hn
  clear hn
  have HWI : Hid (∀ v, [from_].all (inB 12622780799) = v → Calls Try.prog 36 #[.int .i64 12622780799, .slice (some ⟨w2.heap.size, 0, none⟩) 1 1] (w2.alloc (.cells #[.int .i64 from_] 3)) fun e w' => e = .returned (.bool v) ∧ (w2.alloc (.cells #[.int .i64 from_] 3)) = w') := Lib.hid (fun v hv => by
    subst hv
    exact within_any 12622780799 _ 1 1 [from_] _ (Sl.new w2 #[.int .i64 from_] 3 w2.heap.size rfl [from_] 1 rfl (by unfold maxLen; decide) rfl))
  by_cases hf : from_ < 0 ∨ 12622780800 ≤ from_
  · have HQ := Lib.hid (tarE_from (PZ := PZ) (SB := SB) (SR := SR) (E := E) (zs := zs) (bs := bs) (rs := rs) (ds := ds) HN.out hf)
    have hv : [from_].all (inB 12622780799) = false := by
      show (inB 12622780799 from_ && true) = false
      rw [Bool.and_true]
      unfold inB
      rcases hf with h | h
      · rw [decide_eq_false (by omega : ¬ 0 ≤ from_)]; rfl
      · rw [decide_eq_false (by omega : ¬ from_ ≤ 12622780799)]; simp
    go_wp2_with fail
    refine (HWI.out false hv).mono ?_
    rintro e w' ⟨rfl, rfl⟩
    replace hbT := hbT.alloc hbT.size (.cells #[.int .i64 from_] 3)
    go_wp2_with fail
    go_ret
    exact ⟨ret_int HQ.out.symm, hbT⟩
  have HT := Lib.hid (tarE_rest (from_ := from_) (PZ := PZ) (SB := SB) (SR := SR) (E := E) (zs := zs) (bs := bs) (rs := rs) (ds := ds) HN.out (by omega) (by omega))
  have hv : [from_].all (inB 12622780799) = true := by simp [inB]; omega
  clear hf
  go_wp2_with fail
  refine (HWI.out true hv).mono ?_
  rintro e w3 ⟨rfl, hw3⟩
  have hb3 : Below w2.heap.size w2 w3 := by rw [← hw3]; exact (Below.refl _ _).alloc (Nat.le_refl _) _
  have hgw2 : w.heap.size < w2.heap.size := by omega
  clear hw3 hv HWI
  have hzT3 := hbT.size
  (have hzhb3 := hb3.size; replace qa0 := (hb3.cell (p := ⟨_, _, none⟩) (by (try dsimp only) <;> omega)).trans qa0; replace qa1 := (hb3.cell (p := ⟨_, _, none⟩) (by (try dsimp only) <;> omega)).trans qa1; replace qa2 := (hb3.cell (p := ⟨_, _, none⟩) (by (try dsimp only) <;> omega)).trans qa2; replace qa3 := (hb3.cell (p := ⟨_, _, none⟩) (by (try dsimp only) <;> omega)).trans qa3; replace qa4 := (hb3.cell (p := ⟨_, _, none⟩) (by (try dsimp only) <;> omega)).trans qa4; replace qa5 := (hb3.cell (p := ⟨_, _, none⟩) (by (try dsimp only) <;> omega)).trans qa5; replace qa6 := (hb3.cell (p := ⟨_, _, none⟩) (by (try dsimp only) <;> omega)).trans qa6; replace hbT := Below.trans hbT (Below.mono hb3 (by omega)))
  go_wp2_with fail
  refine (zonescheck_any PZ Az nz cz zs _ (H.out.on hbT).z (H.out.on hbT).zk H.out.zn H.out.zp).mono ?_
  rintro e w4 ⟨rfl, hb4⟩
  have hzT4 := hbT.size
  (have hzhb4 := hb4.size; replace qa0 := (hb4.cell (p := ⟨_, _, none⟩) (by (try dsimp only) <;> omega)).trans qa0; replace qa1 := (hb4.cell (p := ⟨_, _, none⟩) (by (try dsimp only) <;> omega)).trans qa1; replace qa2 := (hb4.cell (p := ⟨_, _, none⟩) (by (try dsimp only) <;> omega)).trans qa2; replace qa3 := (hb4.cell (p := ⟨_, _, none⟩) (by (try dsimp only) <;> omega)).trans qa3; replace qa4 := (hb4.cell (p := ⟨_, _, none⟩) (by (try dsimp only) <;> omega)).trans qa4; replace qa5 := (hb4.cell (p := ⟨_, _, none⟩) (by (try dsimp only) <;> omega)).trans qa5; replace qa6 := (hb4.cell (p := ⟨_, _, none⟩) (by (try dsimp only) <;> omega)).trans qa6; replace hbT := Below.trans hbT (Below.mono hb4 (by omega)))
  obtain ⟨y, hy⟩ : ∃ y, zonesE PZ zs = y := ⟨_, rfl⟩
  rw [hy]
  have HY := Lib.hid hy
  clear hy
  by_cases hy0 : y = 0
  case neg =>
    have q5 : (y != 0) = true := by simpa using hy0
    have HQ := Lib.hid (HT.out.trans ((restT_z (by rw [HY.out]; exact hy0)).trans HY.out))
    clear hy0
    go_wp2_with fail
    go_ret
    exact ⟨ret_int HQ.out.symm, hbT⟩
  subst hy0
  have HZ0 := HY
  clear HY
  go_wp2_with fail
  refine (bandscheck_any SB Ab nb cb bs _ (H.out.on hbT).b (H.out.on hbT).bk H.out.bn).mono ?_
  rintro e w5 ⟨rfl, hb5⟩
  have hzT5 := hbT.size
  (have hzhb5 := hb5.size; replace qa0 := (hb5.cell (p := ⟨_, _, none⟩) (by (try dsimp only) <;> omega)).trans qa0; replace qa1 := (hb5.cell (p := ⟨_, _, none⟩) (by (try dsimp only) <;> omega)).trans qa1; replace qa2 := (hb5.cell (p := ⟨_, _, none⟩) (by (try dsimp only) <;> omega)).trans qa2; replace qa3 := (hb5.cell (p := ⟨_, _, none⟩) (by (try dsimp only) <;> omega)).trans qa3; replace qa4 := (hb5.cell (p := ⟨_, _, none⟩) (by (try dsimp only) <;> omega)).trans qa4; replace qa5 := (hb5.cell (p := ⟨_, _, none⟩) (by (try dsimp only) <;> omega)).trans qa5; replace qa6 := (hb5.cell (p := ⟨_, _, none⟩) (by (try dsimp only) <;> omega)).trans qa6; replace hbT := Below.trans hbT (Below.mono hb5 (by omega)))
  obtain ⟨y, hy⟩ : ∃ y, bandsE SB bs = y := ⟨_, rfl⟩
  rw [hy]
  have HY := Lib.hid hy
  clear hy
  by_cases hy0 : y = 0
  case neg =>
    have q5 : (y != 0) = true := by simpa using hy0
    have HQ := Lib.hid (HT.out.trans ((restT_b HZ0.out (by rw [HY.out]; exact hy0)).trans HY.out))
    clear hy0
    go_wp2_with fail
    go_ret
    exact ⟨ret_int HQ.out.symm, hbT⟩
  subst hy0
  have HB0 := HY
  clear HY
  by_cases h64 : 64 < nr
  · have h64i : (64 : Int) < (nr : Int) := by omega
    have h5 : ratesE SR zs bs rs = 5 := by rw [ratesE, if_pos (by omega)]
    have HQ := Lib.hid (HT.out.trans ((restT_r HZ0.out HB0.out (by rw [h5]; decide)).trans h5))
    clear h5
    go_wp2_with fail
    go_ret
    exact ⟨ret_int HQ.out.symm, hbT⟩
  have h64i : ¬ (64 : Int) < (nr : Int) := by omega
  have h64n : ¬ 64 < rs.length := by omega
  have HLR := Lib.hid hlr
  have HLD := Lib.hid hld
  have hg5 : w.heap.size < w5.heap.size := by omega
  clear h64 hlr hld
  go_wp2_with fail
  go_loopw [38] (fun s wr => ∃ k : Nat, k ≤ nr ∧ s = .int .i64 k ∧ Below w5.heap.size w5 wr ∧ ∀ j, j < k → ratesF SR zs bs rs j = 0) (fun s _ => nr - (intOf s).toNat)
  case atStart => exact ⟨0, Nat.zero_le _, rfl, Below.refl _ _, fun j hj => absurd hj (by omega)⟩
  case round =>
    obtain ⟨k, hk, rfl, hbr, ha⟩ := hrel
    have HA := Lib.hid ha
    clear ha
    have hzr := hbr.size
    replace hbT := hbT.trans (hbr.mono hbT.size)
    (have hzhbr := hbr.size; replace qa0 := (hbr.cell (p := ⟨_, _, none⟩) (by (try dsimp only) <;> omega)).trans qa0; replace qa1 := (hbr.cell (p := ⟨_, _, none⟩) (by (try dsimp only) <;> omega)).trans qa1; replace qa2 := (hbr.cell (p := ⟨_, _, none⟩) (by (try dsimp only) <;> omega)).trans qa2; replace qa3 := (hbr.cell (p := ⟨_, _, none⟩) (by (try dsimp only) <;> omega)).trans qa3; replace qa4 := (hbr.cell (p := ⟨_, _, none⟩) (by (try dsimp only) <;> omega)).trans qa4; replace qa5 := (hbr.cell (p := ⟨_, _, none⟩) (by (try dsimp only) <;> omega)).trans qa5; replace qa6 := (hbr.cell (p := ⟨_, _, none⟩) (by (try dsimp only) <;> omega)).trans qa6)
    by_cases hlt : k < nr
    · obtain ⟨AR, hAR⟩ : ∃ AR, Ar = AR := ⟨_, rfl⟩
      have hsr := H.out.r
      rw [hAR] at hsr qa5 ⊢
      obtain ⟨b, off, rfl, hbl, hcells⟩ := hsr.baseIn hbT (by omega)
      obtain ⟨r, hx⟩ := hsr.get hlt
      have e0 : wr.cell? ⟨b, off + k * 5, none⟩ = some (.int .i64 r.kind) := Sl.at_ hcells hx 0 rfl
      have e1 : wr.cell? ⟨b, off + k * 5 + 1, none⟩ = some (.string r.zone) := Sl.at_ hcells hx 1 rfl
      have e2 : wr.cell? ⟨b, off + k * 5 + 2, none⟩ = some (.string r.band) := Sl.at_ hcells hx 2 rfl
      have e3 : wr.cell? ⟨b, off + k * 5 + 3, none⟩ = some (.int .i64 r.setup) := Sl.at_ hcells hx 3 rfl
      have e4 : wr.cell? ⟨b, off + k * 5 + 4, none⟩ = some (.slice r.A r.n r.c) := Sl.at_ hcells hx 4 rfl
      have HX := Lib.hid hx
      have HSX := Lib.hid (H.out.rk r (List.mem_of_getElem? hx))
      clear hcells hx hsr
      go_upto_region 16 with (fail)
      (obtain ⟨V, hWV, hbV, hzV, f1V, mfa⟩ := box1 wr #[.int .i64 r.kind, .string r.zone, .string r.band, .int .i64 r.setup, .slice r.A r.n r.c] 73; rw [← hWV]; have ma0 : V.cell? ⟨wr.heap.size, 0, none⟩ = some (.int .i64 r.kind) := f1V 0 _ rfl; have ma1 : V.cell? ⟨wr.heap.size, 1, none⟩ = some (.string r.zone) := f1V 1 _ rfl; have ma2 : V.cell? ⟨wr.heap.size, 2, none⟩ = some (.string r.band) := f1V 2 _ rfl; have ma3 : V.cell? ⟨wr.heap.size, 3, none⟩ = some (.int .i64 r.setup) := f1V 3 _ rfl; have ma4 : V.cell? ⟨wr.heap.size, 4, none⟩ = some (.slice r.A r.n r.c) := f1V 4 _ rfl; clear hWV f1V)
      have hbR := hbr.trans (hbV.mono hbr.size)
      replace hbT := hbT.trans (hbV.mono hbT.size)
      have hzV2 : wr.heap.size < V.heap.size := hzV
      have hwr2 : w.heap.size < wr.heap.size := by omega
      (have hzhbV := hbV.size; replace qa0 := (hbV.cell (p := ⟨_, _, none⟩) (by (try dsimp only) <;> omega)).trans qa0; replace qa1 := (hbV.cell (p := ⟨_, _, none⟩) (by (try dsimp only) <;> omega)).trans qa1; replace qa2 := (hbV.cell (p := ⟨_, _, none⟩) (by (try dsimp only) <;> omega)).trans qa2; replace qa3 := (hbV.cell (p := ⟨_, _, none⟩) (by (try dsimp only) <;> omega)).trans qa3; replace qa4 := (hbV.cell (p := ⟨_, _, none⟩) (by (try dsimp only) <;> omega)).trans qa4; replace qa5 := (hbV.cell (p := ⟨_, _, none⟩) (by (try dsimp only) <;> omega)).trans qa5; replace qa6 := (hbV.cell (p := ⟨_, _, none⟩) (by (try dsimp only) <;> omega)).trans qa6)
      clear e0 e1 e2 e3 e4 hbV hzV mfa
      go_wp2_with fail
      refine (rate_any name from_ split Az nz cz Ab nb cb (some ⟨b, off, none⟩) nr cr Ad nd cd SR zs bs r _ (H.out.on hbT).z (H.out.on hbT).b (HSX.out.below hbT)).mono ?_
      rintro e w6 ⟨rfl, hb6⟩
      replace hbT := hbT.trans (hb6.mono hbT.size)
      obtain ⟨y, hy⟩ : ∃ y, rateE SR zs bs r = y := ⟨_, rfl⟩
      rw [hy]
      have HY := Lib.hid hy
      clear hy
      by_cases hy0 : y = 0
      · subst hy0
        go_wp2_with fail
        go_roundw
        case rel => exact ⟨k + 1, by omega, by go_num, hbR.trans (hb6.mono hbR.size), zero_step HA.out ((ratesF_at HX.out).trans HY.out)⟩
        case measure => simp [intOf]; omega
      · have q5 : (y != 0) = true := by simpa using hy0
        have hre := ratesE_bad h64n HA.out HX.out HY.out hy0
        have HQ := Lib.hid (HT.out.trans ((restT_r HZ0.out HB0.out (by rw [hre]; exact hy0)).trans hre))
        clear hy0 hre
        go_wp2_with fail
        go_ret
        exact ⟨ret_int HQ.out.symm, hbT⟩
    · obtain rfl : nr = k := by omega
      have hkn' : ¬ ((nr : Int) < (nr : Int)) := by omega
      have HR0 := Lib.hid (ratesE_ok (S := SR) (zs := zs) (bs := bs) h64n (by rw [HLR.out]; exact HA.out))
      have HTD := Lib.hid (HT.out.trans (restT_d (E := E) (ds := ds) HZ0.out HB0.out HR0.out))
      have hgr : w.heap.size < wr.heap.size := by omega
      by_cases d64 : 64 < nd
      · have d64i : (64 : Int) < (nd : Int) := by omega
        have HQ := Lib.hid (HTD.out.trans (show discsE E ds = 5 by rw [discsE, if_pos (by rw [HLD.out]; exact d64)]))
        go_wp2_with fail
        go_ret
        exact ⟨ret_int HQ.out.symm, hbT⟩
      have d64i : ¬ (64 : Int) < (nd : Int) := by omega
      have d64n : ¬ 64 < ds.length := by rw [HLD.out]; exact d64
      clear d64
      go_wp2_with fail
      go_loopw [56] (fun s wi => ∃ i : Nat, i ≤ nd ∧ s = .int .i64 i ∧ Below wr.heap.size wr wi ∧ ∀ j, j < i → discE E ds j = 0) (fun s _ => nd - (intOf s).toNat)
      case atStart => exact ⟨0, Nat.zero_le _, rfl, Below.refl _ _, fun j hj => absurd hj (by omega)⟩
      case round =>
        obtain ⟨i, hi, rfl, hbi, ha⟩ := hrel
        have HAD := Lib.hid ha
        clear ha
        have hzi := hbi.size
        replace hbT := hbT.trans (hbi.mono hbT.size)
        have qd6 := (hbi.cell (p := ⟨w.heap.size, 6, none⟩) hgr).trans qa6
        by_cases hin : i < nd
        · go_wp2_with fail
          refine (discount_any E Ad nd cd i ds _ hin (H.out.on hbT).d (H.out.on hbT).dk H.out.dn).mono ?_
          rintro e w6 ⟨rfl, hb6⟩
          replace hbT := hbT.trans (hb6.mono hbT.size)
          obtain ⟨y, hy⟩ : ∃ y, discE E ds i = y := ⟨_, rfl⟩
          rw [hy]
          have HY := Lib.hid hy
          clear hy
          by_cases hy0 : y = 0
          · subst hy0
            go_wp2_with fail
            go_roundw
            case rel => exact ⟨i + 1, by omega, by go_num, hbi.trans (hb6.mono hbi.size), zero_step HAD.out HY.out⟩
            case measure => simp [intOf]; omega
          · have q5 : (y != 0) = true := by simpa using hy0
            have HQ := Lib.hid (HTD.out.trans (discsE_bad d64n HAD.out (by rw [HLD.out]; exact hin) HY.out hy0))
            clear hy0
            go_wp2_with fail
            go_ret
            exact ⟨ret_int HQ.out.symm, hbT⟩
        · obtain rfl : nd = i := by omega
          have hin' : ¬ ((nd : Int) < (nd : Int)) := by omega
          have HQ := Lib.hid (HTD.out.trans (discsE_ok (E := E) d64n (by rw [HLD.out]; exact HAD.out)))
          go_wp2_with fail
          go_ret
          exact ⟨ret_int HQ.out.symm, hbT⟩
set_option maxHeartbeats 16000000 in
theorem reftariff_any (name : ByteArray) (from_ : Int) (split : Bool) (Az : Option Addr) (nz cz : Nat) (Ab : Option Addr) (nb cb : Nat) (Ar : Option Addr) (nr cr : Nat) (Ad : Option Addr) (nd cd : Nat) (PZ : Nm → List ByteArray) (SB : Nm → List Slt) (SR : Rt → List Stp) (E : Dq → Ex) (zs bs : List Nm) (rs : List Rt) (ds : List Dq) (w : World) (h : TS w name Az nz cz Ab nb cb Ar nr cr Ad nd cd PZ SB SR E zs bs rs ds) :
    Calls Try.prog 26 #[.agg #[.string name, .int .i64 from_, .bool split, .slice Az nz cz, .slice Ab nb cb, .slice Ar nr cr, .slice Ad nd cd]] w fun e w' => e = .returned (.int .i64 (tarE name from_ PZ SB SR E zs bs rs ds)) ∧ Below w.heap.size w w' := by
  have H := Lib.hid h
  have hnm := h.nm
  have hnr := h.r.nmax
  have hnd := h.d.nmax
  have hlr := h.r.len
  have hld := h.d.len
  clear h
  go_enter Try.func26, Try.ntmps26
  go_upto_region 1 with (fail)
  (obtain ⟨W, hWW, hbW, hzW, f1W, qfa⟩ := box1 w #[.string name, .int .i64 from_, .bool split, .slice Az nz cz, .slice Ab nb cb, .slice Ar nr cr, .slice Ad nd cd] 32; rw [← hWW]; have qa0 : W.cell? ⟨w.heap.size, 0, none⟩ = some (.string name) := f1W 0 _ rfl; have qa1 : W.cell? ⟨w.heap.size, 1, none⟩ = some (.int .i64 from_) := f1W 1 _ rfl; have qa2 : W.cell? ⟨w.heap.size, 2, none⟩ = some (.bool split) := f1W 2 _ rfl; have qa3 : W.cell? ⟨w.heap.size, 3, none⟩ = some (.slice Az nz cz) := f1W 3 _ rfl; have qa4 : W.cell? ⟨w.heap.size, 4, none⟩ = some (.slice Ab nb cb) := f1W 4 _ rfl; have qa5 : W.cell? ⟨w.heap.size, 5, none⟩ = some (.slice Ar nr cr) := f1W 5 _ rfl; have qa6 : W.cell? ⟨w.heap.size, 6, none⟩ = some (.slice Ad nd cd) := f1W 6 _ rfl; clear hWW f1W)
  have hbT := hbW
  have hgW : w.heap.size < W.heap.size := hzW
  clear hbW
  go_wp2_with fail
  refine (refname_any name _ hnm).mono ?_
  rintro e w' ⟨rfl, rfl⟩
  cases hn : nameB name
  · have HQ := Lib.hid (tarE_name (from_ := from_) (PZ := PZ) (SB := SB) (SR := SR) (E := E) (zs := zs) (bs := bs) (rs := rs) (ds := ds) hn)
    clear hn
    go_wp2_with fail
    go_ret
    exact ⟨ret_int HQ.out.symm, hbT⟩
  have HN := Lib.hid hn
  clear hn
  by_cases f1 : from_ < 0
  · have HQ := Lib.hid (tarE_from (PZ := PZ) (SB := SB) (SR := SR) (E := E) (zs := zs) (bs := bs) (rs := rs) (ds := ds) HN.out (.inl f1))
    go_wp2_with fail
    go_ret
    exact ⟨ret_int HQ.out.symm, hbT⟩
  by_cases f2 : 12622780800 ≤ from_
  · have HQ := Lib.hid (tarE_from (PZ := PZ) (SB := SB) (SR := SR) (E := E) (zs := zs) (bs := bs) (rs := rs) (ds := ds) HN.out (.inr f2))
    go_wp2_with fail
    go_ret
    exact ⟨ret_int HQ.out.symm, hbT⟩
  have HT := Lib.hid (tarE_rest (from_ := from_) (PZ := PZ) (SB := SB) (SR := SR) (E := E) (zs := zs) (bs := bs) (rs := rs) (ds := ds) HN.out f1 f2)
  go_wp2_with fail
  refine (refzones_any PZ Az nz cz zs _ (H.out.on hbT).z (H.out.on hbT).zk H.out.zn H.out.zp).mono ?_
  rintro e w4 ⟨rfl, hb4⟩
  have hzT4 := hbT.size
  (have hzhb4 := hb4.size; replace qa0 := (hb4.cell (p := ⟨_, _, none⟩) (by (try dsimp only) <;> omega)).trans qa0; replace qa1 := (hb4.cell (p := ⟨_, _, none⟩) (by (try dsimp only) <;> omega)).trans qa1; replace qa2 := (hb4.cell (p := ⟨_, _, none⟩) (by (try dsimp only) <;> omega)).trans qa2; replace qa3 := (hb4.cell (p := ⟨_, _, none⟩) (by (try dsimp only) <;> omega)).trans qa3; replace qa4 := (hb4.cell (p := ⟨_, _, none⟩) (by (try dsimp only) <;> omega)).trans qa4; replace qa5 := (hb4.cell (p := ⟨_, _, none⟩) (by (try dsimp only) <;> omega)).trans qa5; replace qa6 := (hb4.cell (p := ⟨_, _, none⟩) (by (try dsimp only) <;> omega)).trans qa6; replace hbT := Below.trans hbT (Below.mono hb4 (by omega)))
  obtain ⟨y, hy⟩ : ∃ y, zonesE PZ zs = y := ⟨_, rfl⟩
  rw [hy]
  have HY := Lib.hid hy
  clear hy
  by_cases hy0 : y = 0
  case neg =>
    have q5 : (y == 0) = false := by simpa using hy0
    have HQ := Lib.hid (HT.out.trans ((restT_z (by rw [HY.out]; exact hy0)).trans HY.out))
    clear hy0
    go_wp2_with fail
    go_ret
    exact ⟨ret_int HQ.out.symm, hbT⟩
  subst hy0
  have HZ0 := HY
  clear HY
  go_wp2_with fail
  refine (refbands_any SB Ab nb cb bs _ (H.out.on hbT).b (H.out.on hbT).bk H.out.bn).mono ?_
  rintro e w5 ⟨rfl, hb5⟩
  have hzT5 := hbT.size
  (have hzhb5 := hb5.size; replace qa0 := (hb5.cell (p := ⟨_, _, none⟩) (by (try dsimp only) <;> omega)).trans qa0; replace qa1 := (hb5.cell (p := ⟨_, _, none⟩) (by (try dsimp only) <;> omega)).trans qa1; replace qa2 := (hb5.cell (p := ⟨_, _, none⟩) (by (try dsimp only) <;> omega)).trans qa2; replace qa3 := (hb5.cell (p := ⟨_, _, none⟩) (by (try dsimp only) <;> omega)).trans qa3; replace qa4 := (hb5.cell (p := ⟨_, _, none⟩) (by (try dsimp only) <;> omega)).trans qa4; replace qa5 := (hb5.cell (p := ⟨_, _, none⟩) (by (try dsimp only) <;> omega)).trans qa5; replace qa6 := (hb5.cell (p := ⟨_, _, none⟩) (by (try dsimp only) <;> omega)).trans qa6; replace hbT := Below.trans hbT (Below.mono hb5 (by omega)))
  obtain ⟨y, hy⟩ : ∃ y, bandsE SB bs = y := ⟨_, rfl⟩
  rw [hy]
  have HY := Lib.hid hy
  clear hy
  by_cases hy0 : y = 0
  case neg =>
    have q5 : (y == 0) = false := by simpa using hy0
    have HQ := Lib.hid (HT.out.trans ((restT_b HZ0.out (by rw [HY.out]; exact hy0)).trans HY.out))
    clear hy0
    go_wp2_with fail
    go_ret
    exact ⟨ret_int HQ.out.symm, hbT⟩
  subst hy0
  have HB0 := HY
  clear HY
  go_wp2_with fail
  refine (refrates_any name from_ split Az nz cz Ab nb cb Ar nr cr Ad nd cd SR zs bs rs _ (H.out.on hbT).z (H.out.on hbT).b (H.out.on hbT).r (H.out.on hbT).rk).mono ?_
  rintro e w6 ⟨rfl, hb6⟩
  have hzT6 := hbT.size
  (have hzhb6 := hb6.size; replace qa0 := (hb6.cell (p := ⟨_, _, none⟩) (by (try dsimp only) <;> omega)).trans qa0; replace qa1 := (hb6.cell (p := ⟨_, _, none⟩) (by (try dsimp only) <;> omega)).trans qa1; replace qa2 := (hb6.cell (p := ⟨_, _, none⟩) (by (try dsimp only) <;> omega)).trans qa2; replace qa3 := (hb6.cell (p := ⟨_, _, none⟩) (by (try dsimp only) <;> omega)).trans qa3; replace qa4 := (hb6.cell (p := ⟨_, _, none⟩) (by (try dsimp only) <;> omega)).trans qa4; replace qa5 := (hb6.cell (p := ⟨_, _, none⟩) (by (try dsimp only) <;> omega)).trans qa5; replace qa6 := (hb6.cell (p := ⟨_, _, none⟩) (by (try dsimp only) <;> omega)).trans qa6; replace hbT := Below.trans hbT (Below.mono hb6 (by omega)))
  obtain ⟨y, hy⟩ : ∃ y, ratesE SR zs bs rs = y := ⟨_, rfl⟩
  rw [hy]
  have HY := Lib.hid hy
  clear hy
  by_cases hy0 : y = 0
  case neg =>
    have q5 : (y == 0) = false := by simpa using hy0
    have HQ := Lib.hid (HT.out.trans ((restT_r HZ0.out HB0.out (by rw [HY.out]; exact hy0)).trans HY.out))
    clear hy0
    go_wp2_with fail
    go_ret
    exact ⟨ret_int HQ.out.symm, hbT⟩
  subst hy0
  have HR0 := HY
  clear HY
  have HQ := Lib.hid (HT.out.trans (restT_d (E := E) (ds := ds) HZ0.out HB0.out HR0.out))
  go_wp2_with fail
  refine (refdiscs_any name from_ split Az nz cz Ab nb cb Ar nr cr Ad nd cd E ds _ (H.out.on hbT).d (H.out.on hbT).dk H.out.dn).mono ?_
  rintro e w7 ⟨rfl, hb7⟩
  replace hbT := hbT.trans (hb7.mono hbT.size)
  go_wp2_with fail
  go_ret
  exact ⟨ret_int HQ.out.symm, hbT⟩
end Cv
end Go.Proofs.Ytdnnnajohdohaaa
