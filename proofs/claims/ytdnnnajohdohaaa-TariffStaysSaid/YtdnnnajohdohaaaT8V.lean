/-
  Zones: the map of prefixes, index, Check. No condition.
-/
import Derived.Test.YtdnnnajohdohaaaT8U
import Derived.BigQuiet
import Derived.StillTailTactics
import Derived.Lib.Overlaps
import Derived.Deep.DeepCutAuto
import Derived.LoopN
import Derived.Deep.RegionWith
import Derived.Laws.RangeAny
import Derived.Maps.OwnSet
import Derived.StringKeys
set_option maxRecDepth 100000
set_option linter.unusedVariables false
set_option linter.unusedSimpArgs false
namespace Go.Proofs.Ytdnnnajohdohaaa
open Go.RowKit

namespace Cv
open Xp Ck
open Go.Maps
theorem slaw : Keyed Try.prog 9 := string_keyed Try.underlying9
theorem zeroS (w : World) : (zeroValue 9).run Try.prog w = .ok (.string ⟨#[]⟩) w := by kernel_rfl
/-- block b is a map of at most n keys; f tells which keys are in it -/
def Mp (w : World) (b n : Nat) (f : ByteArray → Bool) : Prop :=
  ∃ D : DataW Unit, w.ownsMap Try.prog 9 (plainElem Try.prog 9) b n D ∧ ∀ u : ByteArray, Maps.has D (.string u.data.toList) = f u
theorem Mp.made (w : World) : Mp (w.alloc (.map #[] 0)) w.heap.size 0 (fun _ => false) := ⟨_, World.ownsMap_made w Try.prog 9 _, fun u => rfl⟩
theorem Mp.below {w w' : World} {b n : Nat} {f : ByteArray → Bool} (h : Mp w b n f) (hb : Below w.heap.size w w') : Mp w' b n f := by
  obtain ⟨D, hD, hf⟩ := h
  exact ⟨D, hD.kept (row := none) ⟨hb.os, hb.tape, hb.output, hb.size, fun k hk _ => hb.block k hk⟩ (by simp), hf⟩
theorem Mp.lt {w : World} {b n : Nat} {f : ByteArray → Bool} (h : Mp w b n f) : b < w.heap.size := by
  obtain ⟨D, hD, _⟩ := h
  exact hD.lt
theorem Mp.congr {w : World} {b n : Nat} {f g : ByteArray → Bool} (h : Mp w b n f) (hfg : ∀ u, f u = g u) : Mp w b n g := by
  obtain ⟨D, hD, hf⟩ := h
  exact ⟨D, hD, fun u => (hf u).trans (hfg u)⟩
theorem lit_eq {u p : ByteArray} : (Lit.string u.data.toList = Lit.string p.data.toList) ↔ (p.toList == u.toList) = true := by
  rw [beq_iff_eq, Lib.toList_data, Lib.toList_data]
  constructor
  · intro h; injection h with h; exact h.symm
  · intro h; rw [h]
theorem wpl_look {w : World} {ops : Array Oper} {rest : List Oper} {o : Oper} {a : Act} {Q : Exit → Act → World → Prop} (hg : o.guard = none) (m x : Operand) (t : TypeId) (hop : o.op = Op.lookup t m x true)
    (ht : Try.prog.underlying t = some (.map 9 9)) (b n : Nat) (f : ByteArray → Bool) (hm : a.eval m = .map (some b)) (h : Mp w b n f) (p : ByteArray) (hp : p.size ≤ maxLen) (fv : Bool) (hfv : f p = fv) (hx : a.eval x = .string p)
    (hK : ∀ s : ByteArray, wpList Try.prog ops Q rest (a.put o.dst (.tuple #[.string s, .bool fv])) w) : wpList Try.prog ops Q (o :: rest) a w := by
  obtain ⟨D, hD, hf⟩ := h
  refine wpList_lookup_own_ok w hg m x t hop 9 9 slaw ht (plainElem Try.prog 9) (zeroS w) (.lit (.string [])) [] (plainElem_string Try.underlying9 (by decide)) b n D hm hD (.string p) _ hx (Go.WideMaps.keyOf_string_mk Try.underlying9 hp) ?_
  intro v ps hv
  rw [hf p, hfv]
  have : ∃ s, v = .string s := by
    unfold plainElem at hv
    rw [Try.underlying9] at hv
    cases v <;> simp at hv
    exact ⟨_, rfl⟩
  obtain ⟨s, rfl⟩ := this
  exact hK s
theorem wpl_put {w : World} {ops : Array Oper} {rest : List Oper} {o : Oper} {a : Act} {Q : Exit → Act → World → Prop} (hg : o.guard = none) (m x v : Operand) (t : TypeId) (hop : o.op = Op.mapUpdate t m x v)
    (ht : Try.prog.underlying t = some (.map 9 9)) (b n : Nat) (f : ByteArray → Bool) (hm : a.eval m = .map (some b)) (h : Mp w b n f) (hn : n < maxLen) (p s : ByteArray) (hp : p.size ≤ maxLen) (hs : s.size ≤ maxLen) (hx : a.eval x = .string p) (hv : a.eval v = .string s)
    (hK : ∀ w', Mp w' b (n + 1) (fun u => f u || pEq u p) → w.grownBy w' (some b) → wpList Try.prog ops Q rest (a.put o.dst undef) w') : wpList Try.prog ops Q (o :: rest) a w := by
  obtain ⟨D, hD, hf⟩ := h
  refine wpList_mapUpdate_own w hg m x v t hop 9 9 slaw ht (plainElem Try.prog 9) b n D hm hD hn (.string p) (.string s) _ hx hv (Go.WideMaps.keyOf_string_mk Try.underlying9 hp) _ [] (plainElem_string Try.underlying9 hs) ?_
  intro w' hD' hgr
  refine hK w' ⟨_, hD', fun u => ?_⟩ hgr
  show has _ _ = (f u || pEq u p)
  by_cases hq : (p.toList == u.toList) = true
  · rw [show pEq u p = true from hq, Bool.or_true, lit_eq.2 hq]
    exact has_put_same hD.isMap (by trivial) _
  · rw [show pEq u p = false by simpa [pEq] using hq, Bool.or_false, ← hf u]
    exact has_put_other (fun e => hq (lit_eq.1 e)) _
theorem ret_snd {v : Value} {a b : Int} (h : b = a) : ∃ v' : Value, Ending.returned (.tuple #[v, .int .i64 a]) = .returned (.tuple #[v', .int .i64 b]) := ⟨v, by rw [h]⟩
set_option maxHeartbeats 16000000 in
theorem index_any (PZ : Nm → List ByteArray) (A : Option Addr) (n c : Nat) (zs : List Nm) (w : World) (h : Sl w A n c zs) (hP : ∀ x ∈ zs, Sl w x.A x.n x.c (PZ x)) (hstr : ∀ x ∈ zs, x.name.size ≤ maxLen) (hps : ∀ x ∈ zs, ∀ p ∈ PZ x, p.size ≤ maxLen) :
    Calls Try.prog 52 #[.slice A n c] w fun e w' => (∃ v : Value, e = .returned (.tuple #[v, .int .i64 (zonesE PZ zs)])) ∧ Below w.heap.size w w' := by
  have hn := h.nmax
  have hlen := h.len
  have H := Lib.hid h
  have HP := Lib.hid hP
  have HSTR := Lib.hid hstr
  have HPS := Lib.hid hps
  clear h hP hstr hps
  by_cases h64 : (64 : Int) < (n : Int)
  · have HE : Hid (zonesE PZ zs = 5) := Lib.hid (by rw [zonesE, if_pos (by omega)])
    go_enter Try.func52, Try.ntmps52
    go_wp2_with fail
    go_ret2
    exact ⟨ret_snd HE.out, Below.refl _ _⟩
  have HE : Hid (zonesE PZ zs = firstE n (zoneE PZ zs)) := Lib.hid (by rw [zonesE, if_neg (by omega), hlen])
  have hb0 := (Below.refl w.heap.size w).alloc (Nat.le_refl _) (.map #[] 0)
  have HM0 := Lib.hid (Mp.made w)
  have hmm := @run_makeMap Try.prog
  go_enter Try.func52, Try.ntmps52
  go_wp2_with fail
  clear hmm
  go_loopw [17] (fun s wr => ∃ (k m : Nat), k ≤ n ∧ s = .int .i64 k ∧ Below w.heap.size w wr ∧ w.heap.size < wr.heap.size ∧ m ≤ k * 64 ∧ Mp wr w.heap.size m (fun u => (zs.take k).any (fun y => (PZ y).any (pEq u))) ∧ ∀ j, j < k → zoneE PZ zs j = 0) (fun s _ => n - (intOf s).toNat)
  case atStart => exact ⟨0, 0, Nat.zero_le _, rfl, hb0, by simp, Nat.zero_le _, HM0.out, fun j hj => absurd hj (by omega)⟩
  case round =>
    clear hb0 HM0
    obtain ⟨k, m, hk, rfl, hbT, hwz, hm, hM, ha⟩ := hrel
    have HA := Lib.hid ha
    have HM := Lib.hid hM
    clear ha hM
    by_cases hlt : k < n
    · obtain ⟨b, off, rfl, hbl, hcells⟩ := H.out.baseIn hbT (by omega)
      obtain ⟨z, hz⟩ := H.out.get hlt
      have hmem := List.mem_of_getElem? hz
      have hsz := HP.out z hmem
      have hzn := hsz.nmax
      have hsx := HSTR.out z hmem
      have HPZ := Lib.hid (HPS.out z hmem)
      have HZ := Lib.hid hz
      have HSZ := Lib.hid hsz
      have e0 : wr.cell? ⟨b, off + k * 2, none⟩ = some (.string z.name) := Sl.at_ hcells hz 0 rfl
      have e1 : wr.cell? ⟨b, off + k * 2 + 1, none⟩ = some (.slice z.A z.n z.c) := Sl.at_ hcells hz 1 rfl
      have hslT : ∀ W, (Instr.slice 27 (.slice (some ⟨b, off, none⟩) n c) none (some (.int .i64 (k : Int))) none).run Try.prog W = .ok (.slice (some ⟨b, off, none⟩) k c) W := fun W => run_slice_to (sz := 2) (by kernel_rfl) (by kernel_rfl) (by have := H.out.le; omega) W
      clear hcells hz hmem hsz
      go_upto_region 7 with (fail)
      (obtain ⟨V, hWV, hbV, hzV, f1V, qfa⟩ := box1 wr #[.string z.name, .slice z.A z.n z.c] 56; rw [← hWV]; have qa0 : V.cell? ⟨wr.heap.size, 0, none⟩ = some (.string z.name) := f1V 0 _ rfl; have qa1 : V.cell? ⟨wr.heap.size, 1, none⟩ = some (.slice z.A z.n z.c) := f1V 1 _ rfl; clear hWV f1V)
      replace hbT := hbT.trans (hbV.mono hbT.size)
      replace HM := Lib.hid (HM.out.below hbV)
      have hzV2 : wr.heap.size < V.heap.size := hzV
      obtain ⟨g, hg⟩ : ∃ g, wr.heap.size = g := ⟨_, rfl⟩
      rw [hg] at qa0 qa1 ⊢
      have hgV : g < V.heap.size := by omega
      have hgw : w.heap.size < g := by omega
      have hwV : w.heap.size < V.heap.size := by omega
      clear e0 e1 hbV hzV qfa hg hzV2 hwz
      go_wp2_with fail
      refine (zname_any z.name _ hsx).mono ?_
      rintro e w' ⟨rfl, rfl⟩
      cases hnm : nameB z.name
      · have HQ := Lib.hid (HE.out.trans (firstE_bad _ k _ _ HA.out hlt (zoneE_name (PZ := PZ) HZ.out hnm) (by decide)))
        clear hnm
        go_wp2_with fail
        go_ret2
        exact ⟨ret_snd HQ.out, hbT⟩
      have HNM := Lib.hid hnm
      clear hnm
      go_wp2_with fail
      refine (zcontains_any g z.name _ k c (zs.take k) _ ((H.out.below hbT).takeK (by omega)) hgV qa0).mono ?_
      rintro e w3 ⟨rfl, hb3⟩
      have hz3 := hb3.size
      replace qa0 := (hb3.cell (p := ⟨g, 0, none⟩) hgV).trans qa0
      replace qa1 := (hb3.cell (p := ⟨g, 1, none⟩) hgV).trans qa1
      replace hbT := hbT.trans (hb3.mono hbT.size)
      replace HM := Lib.hid (HM.out.below hb3)
      clear hb3
      cases htw : (zs.take k).any (nmEq z.name)
      · have HTW := Lib.hid htw
        clear htw
        by_cases h0 : z.n = 0
        · have HQ := Lib.hid (HE.out.trans (firstE_bad _ k _ _ HA.out hlt (zoneE_none (PZ := PZ) HZ.out HNM.out HTW.out h0) (by decide)))
          have q0 : ((z.n : Int) == 0) = true := by rw [beq_iff_eq]; omega
          clear h0
          go_wp2_with fail
          go_ret2
          exact ⟨ret_snd HQ.out, hbT⟩
        have q0 : ((z.n : Int) == 0) = false := by rw [beq_eq_false_iff_ne]; omega
        by_cases hz64 : 64 < z.n
        · have HQ := Lib.hid (HE.out.trans (firstE_bad _ k _ _ HA.out hlt (zoneE_long (PZ := PZ) HZ.out HNM.out HTW.out hz64) (by decide)))
          have h64i : (64 : Int) < (z.n : Int) := by omega
          go_wp2_with fail
          go_ret2
          exact ⟨ret_snd HQ.out, hbT⟩
        have h64i : ¬ (64 : Int) < (z.n : Int) := by omega
        have HO := Lib.hid (zoneE_pref (PZ := PZ) HZ.out HNM.out HTW.out h0 hz64)
        have hg3 : g < w3.heap.size := by omega
        have hz0 : 0 < z.n := by omega
        clear h0
        obtain ⟨AZ, hAZ⟩ : ∃ AZ, z.A = AZ := ⟨_, rfl⟩
        have hs2 := HSZ.out
        rw [hAZ] at hs2 qa1 ⊢
        obtain ⟨b9, off9, rfl, hbl9, hcells9⟩ := Sl.one rfl hs2 hz0
        have HC9 := Lib.hid hcells9
        have HAZ := Lib.hid hAZ
        clear hs2 hAZ hcells9 hz0
        go_wp2_with fail
        go_loopw [46] (fun s wj => ∃ (i m2 : Nat), i ≤ z.n ∧ s = .int .i64 i ∧ Below w.heap.size w wj ∧ g < wj.heap.size ∧ m2 ≤ k * 64 + i ∧ wj.cell? ⟨g, 0, none⟩ = some (.string z.name) ∧ Mp wj w.heap.size m2 (fun u => seenB PZ zs k z i u) ∧ ∀ j, j < i → prefE PZ zs k z j = 0) (fun s _ => z.n - (intOf s).toNat)
        case atStart => exact ⟨0, m, Nat.zero_le _, rfl, hbT, hg3, by omega, qa0, HM.out.congr (fun u => by simp [seenB]), fun j hj => absurd hj (by omega)⟩
        case round =>
          clear hbT qa0 qa1 HM hg3 hm
          obtain ⟨i, m2, hi, rfl, hbT, hgr, hm2, qa0, hM2, ha2⟩ := hrel
          have HA2 := Lib.hid ha2
          have HM := Lib.hid hM2
          clear ha2 hM2
          by_cases hin : i < z.n
          · obtain ⟨p, hp⟩ := HSZ.out.get hin
            have e3 : wr.cell? ⟨b9, off9 + i, none⟩ = some (.string p) := (hbT.cell (p := ⟨b9, off9 + i, none⟩) hbl9).trans (HC9.out i p _ hp rfl)
            have hpz := HPZ.out p (List.mem_of_getElem? hp)
            have HPX := Lib.hid hp
            clear hp
            cases hv : Dg.valid p.data.toList
            · have HQ := Lib.hid (HE.out.trans (firstE_bad _ k _ _ HA.out hlt (HO.out.trans (firstE_bad _ i _ _ HA2.out hin (prefE_bad HPX.out hv) (by decide))) (by decide)))
              go_wp2_with fail
              refine (Dg.valid_any p _ hpz).mono ?_
              rintro e w' ⟨rfl, rfl⟩
              rw [hv]
              go_wp2_with fail
              go_ret2
              exact ⟨ret_snd HQ.out, hbT⟩
            have HV := Lib.hid hv
            clear hv
            cases hse : seenB PZ zs k z i p
            · have HN := Lib.hid (prefE_ok HPX.out HV.out hse)
              have HSE := Lib.hid hse
              clear hse
              have hmx : m2 < maxLen := by unfold maxLen; omega
              go_wp2_with fail
              refine (Dg.valid_any p _ hpz).mono ?_
              rintro e w' ⟨rfl, rfl⟩
              rw [HV.out]
              go_wp2_with (first
                | (at_lookup; refine wpl_look rfl _ _ _ rfl Try.underlying91 w.heap.size m2 _ rfl HM.out p hpz false HSE.out rfl ?_; intro s9)
                | (at_mapUpdate; refine wpl_put rfl _ _ _ _ rfl Try.underlying91 w.heap.size m2 _ rfl HM.out hmx p z.name hpz hsx rfl rfl ?_; intro w6 hM6 hgr6))
              have hgz := hgr6.size
              have hqa := (World.cell?_of_block (a := ⟨g, 0, none⟩) (hgr6.block g hgr (by simp; omega))).trans qa0
              have hbN := hbT.grown hgr6 hbT.size (fun j hj => by cases hj; exact Nat.le_refl _)
              go_roundw
              case rel => exact ⟨i + 1, m2 + 1, by omega, by go_num, hbN, by omega, by omega, hqa, hM6.congr (fun u => by unfold seenB; rw [List.take_add_one, HPX.out, List.any_append, Bool.or_assoc]; simp), zero_step HA2.out HN.out⟩
              case measure => simp [intOf]; omega
            · have HQ := Lib.hid (HE.out.trans (firstE_bad _ k _ _ HA.out hlt (HO.out.trans (firstE_bad _ i _ _ HA2.out hin (prefE_twice HPX.out HV.out hse) (by decide))) (by decide)))
              have HSE := Lib.hid hse
              clear hse
              go_wp2_with fail
              refine (Dg.valid_any p _ hpz).mono ?_
              rintro e w' ⟨rfl, rfl⟩
              rw [HV.out]
              go_wp2_with (at_lookup; refine wpl_look rfl _ _ _ rfl Try.underlying91 w.heap.size m2 _ rfl HM.out p hpz true HSE.out rfl ?_; intro s9)
              go_ret2
              exact ⟨ret_snd HQ.out, hbT⟩
          · obtain rfl : z.n = i := by omega
            have hin' : ¬ ((z.n : Int) < (z.n : Int)) := by omega
            have HN := Lib.hid (HO.out.trans (firstE_ok _ _ HA2.out))
            have hfull : ∀ u, seenB PZ zs k z z.n u = (zs.take (k + 1)).any (fun y => (PZ y).any (pEq u)) := fun u => by
              unfold seenB
              rw [show (PZ z).take z.n = PZ z from List.take_of_length_le (by rw [HSZ.out.len]; exact Nat.le_refl _), List.take_add_one, HZ.out, List.any_append]
              simp
            have HFU := Lib.hid hfull
            clear hfull
            go_wp2_with fail
            go_roundw
            case rel => exact ⟨k + 1, m2, by omega, by go_num, hbT, by omega, by omega, HM.out.congr HFU.out, zero_step HA.out HN.out⟩
            case measure => simp [intOf]; omega
      · have HQ := Lib.hid (HE.out.trans (firstE_bad _ k _ _ HA.out hlt (zoneE_twice (PZ := PZ) HZ.out HNM.out htw) (by decide)))
        clear htw
        go_wp2_with fail
        go_ret2
        exact ⟨ret_snd HQ.out, hbT⟩
    · obtain rfl : n = k := by omega
      have hkn' : ¬ ((n : Int) < (n : Int)) := by omega
      have HQ := Lib.hid (HE.out.trans (firstE_ok _ _ HA.out))
      go_wp2_with fail
      go_ret2
      exact ⟨ret_snd HQ.out, hbT⟩
theorem zonescheck_any (PZ : Nm → List ByteArray) (A : Option Addr) (n c : Nat) (zs : List Nm) (w : World) (h : Sl w A n c zs) (hP : ∀ x ∈ zs, Sl w x.A x.n x.c (PZ x)) (hstr : ∀ x ∈ zs, x.name.size ≤ maxLen) (hps : ∀ x ∈ zs, ∀ p ∈ PZ x, p.size ≤ maxLen) :
    Calls Try.prog 37 #[.slice A n c] w fun e w' => e = .returned (.int .i64 (zonesE PZ zs)) ∧ Below w.heap.size w w' := by
  go_enter Try.func37, Try.ntmps37
  go_wp2_with fail
  refine (index_any PZ A n c zs _ h hP hstr hps).mono ?_
  rintro e w2 ⟨⟨v, rfl⟩, hb2⟩
  go_wp2_with fail
  go_ret
  exact ⟨rfl, hb2⟩
end Cv
end Go.Proofs.Ytdnnnajohdohaaa
