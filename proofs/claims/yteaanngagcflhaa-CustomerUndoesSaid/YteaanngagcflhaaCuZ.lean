/-
  Customers: world.customers. No condition.
-/
import Derived.Test.YteaanngagcflhaaCuY
import Derived.Test.YteaanngagcflhaaCuO
import Derived.Test.YteaanngagcflhaaCuC
import Derived.Test.YteaanngagcflhaaCuA
import Derived.BigQuiet
import Derived.StillTailTactics
import Derived.Lib.Overlaps
import Derived.Deep.DeepCutAuto
import Derived.Deep.RegionWith
import Derived.Laws.RangeAny
import Derived.Deep.RegionHeld
import Derived.Deep.RegionHeldLaw
set_option maxRecDepth 100000
set_option linter.unusedVariables false
set_option linter.unusedSimpArgs false
namespace Go.Proofs.Yteaanngagcflhaa
open Go.RowKit

namespace Cu
open Go.Maps
theorem infoSb : (Try.prog.info? 51).map (fun i => (i.zero, i.size, i.bytes)) = some (some (.agg #[.int .i64 0, .int .i64 0, .int .i64 0, .string ⟨#[]⟩, .slice none 0 0, .slice none 0 0, .bool false, .bool false]), 8, 96) := by kernel_rfl
theorem infoAc : (Try.prog.info? 46).map (fun i => (i.zero, i.size, i.bytes)) = some (some (.agg #[.int .i64 0, .int .i64 0, .int .i64 0, .bool false, .bool false, .slice none 0 0]), 6, 56) := by kernel_rfl
theorem zeroSl (w : World) : (zeroValue 44).run Try.prog w = .ok (.slice none 0 0) w := by kernel_rfl
theorem wfK {x : Int} (h : 1 ≤ x ∧ x ≤ 9999) : (Lit.int .i64 x).wf = true := by
  show (decide (IntKind.i64.min ≤ x) && decide (x ≤ IntKind.i64.max)) = true
  have e1 : IntKind.i64.min = -9223372036854775808 := by decide
  have e2 : IntKind.i64.max = 9223372036854775807 := by decide
  rw [e1, e2]
  simp
  omega
theorem pSubs_len (s : St) (l : List Int) (j : Nat) : (pSubs s (l.take j)).length ≤ j := Nat.le_trans (List.length_filterMap_le _ _) (List.length_take_le _ _)
theorem pOf_len (s : St) (l : List Int) (j : Nat) (x : Int) : (pOf s (l.take j) x).length ≤ j := Nat.le_trans (List.length_filter_le _ _) (List.length_take_le _ _)
def C1 (w : World) (s : St) (j : Nat) (wr : World) : Prop := ∃ f G vs xs, CS w.heap.size (w.heap.size + 1 + 1 + 1) (w.heap.size + 1 + 1) j w wr f G (pOf s (s.added.take j)) (.slice none 0 0) vs [] xs ∧ All2 (SR w) xs (pSubs s (s.added.take j)) ∧
  wr.cell? ⟨w.heap.size + 1, 0, none⟩ = some (.slice none 0 0) ∧ wr.cell? ⟨w.heap.size + 1, 1, none⟩ = some vs ∧ wr.cell? ⟨w.heap.size, 0, none⟩ = some (.slice none 0 0) ∧ wr.cell? ⟨w.heap.size, 1, none⟩ = some (.slice none 0 0) ∧ (∀ j, wr.frozen? ⟨w.heap.size, j, none⟩ = false) ∧ (∀ j, wr.frozen? ⟨w.heap.size + 1, j, none⟩ = false)
def AG (s : St) (G : Int → Value) (t : Av) (n : Int) : Prop := t.id = ((s.acc n).getD ac0).id ∧ t.since = ((s.acc n).getD ac0).since ∧ t.anchor = ((s.acc n).getD ac0).anchor ∧ t.prepaid = ((s.acc n).getD ac0).prepaid ∧ t.closed = ((s.acc n).getD ac0).closed ∧ G n = .slice t.A t.n t.c
def C2 (w : World) (s : St) (N : Nat) (f : Lit → Option Value) (G : Int → Value) (vs : Value) (xs : List Sv) (j : Nat) (wr : World) : Prop := ∃ va xa, CS w.heap.size (w.heap.size + 1 + 1 + 1) (w.heap.size + 1 + 1) N w wr f G (pOf s s.added) va vs xa xs ∧ All2 (AG s G) xa (s.opened.take j) ∧
  wr.cell? ⟨w.heap.size + 1, 0, none⟩ = some va ∧ wr.cell? ⟨w.heap.size + 1, 1, none⟩ = some vs ∧ wr.cell? ⟨w.heap.size, 0, none⟩ = some (.slice none 0 0) ∧ wr.cell? ⟨w.heap.size, 1, none⟩ = some (.slice none 0 0) ∧ (∀ j, wr.frozen? ⟨w.heap.size, j, none⟩ = false) ∧ (∀ j, wr.frozen? ⟨w.heap.size + 1, j, none⟩ = false)
theorem rowLS {α : Type} [Flat α] {w : World} {base : Nat} {e : TypeId} {A : Option Addr} {n c : Nat} {xs : List α} (h : Ow w base e (.slice A n c) xs) : (A = none → c = 0) ∧ Sl w A n c xs := by
  obtain ⟨A', c', hv, h0, hs⟩ := h.slN
  injection hv with h1 h2 h3
  rw [h1, h2, h3]
  exact ⟨h0, hs⟩
theorem accsAR {s : St} {G : Int → Value} {xa : List Av} {l : List Int} {Z : World} {C : Nat} (h : All2 (AG s G) xa l) (hO : ∀ x, Ow Z C 3 (G x) (pOf s s.added x)) : All2 (AR Z) xa (pAccs s l) := by
  refine ⟨by unfold pAccs; rw [List.length_map]; exact h.1, fun i t y ht hy => ?_⟩
  unfold pAccs at hy
  rw [List.getElem?_map] at hy
  cases hq : l[i]? with
  | none => rw [hq] at hy; cases hy
  | some n =>
    rw [hq] at hy
    cases hy
    obtain ⟨a1, a2, a3, a4, a5, a6⟩ := h.2 i t n ht hq
    have hr := hO n
    rw [a6] at hr
    exact ⟨a1, a2, a3, a4, a5, (rowLS hr).1, (rowLS hr).2⟩
set_option maxHeartbeats 16000000 in
theorem customers_any (B M NN : Nat) (k : Bl) (s : St) (w : World) (h : Rep w B M NN k s) (hA : ∀ x ∈ s.added, 1 ≤ x ∧ x ≤ 9999) (hO : ∀ x ∈ s.opened, 1 ≤ x ∧ x ≤ 9999) (hNN : NN ≤ 100000) :
    Calls Try.prog 75 #[.pointer (some ⟨k.p, 0, none⟩)] w fun r w' => ∃ Aa na ca As ns cs, r = .returned (.agg #[.slice Aa na ca, .slice As ns cs]) ∧ LAc w' Aa na ca (pAccs s s.opened) ∧ LSb w' As ns cs (pSubs s s.added) ∧ Below w.heap.size w w' := by
  have HR := Lib.hid h
  have HA := Lib.hid hA
  have HO := Lib.hid hO
  have hpw : k.p < w.heap.size := Nat.lt_of_lt_of_le h.hi.1 h.m
  obtain ⟨A6, n6, c6, hc6, hs6, hn6, ho6, hl6⟩ := h.added
  have HS6 := Lib.hid hs6
  have hln6 := hs6.len
  have hmx6 := hs6.nmax
  clear h hA hO hs6 hn6 ho6
  have hmm := @run_makeMap Try.prog
  go_enter Try.func75, Try.ntmps75
  go_upto_region 2 with (fail)
  obtain ⟨W, hWW, hbW, hzW, f1W, f2W, qfa, qfb⟩ := box2 w #[.slice none 0 0, .slice none 0 0] 32 #[.slice none 0 0, .slice none 0 0] 32
  have hszW : W.heap.size = w.heap.size + 1 + 1 := by rw [hWW]; simp
  rw [← hWW]
  clear hWW
  have qa0 := f1W 0 _ rfl
  have qa1 := f1W 1 _ rfl
  have qb0 := f2W 0 _ rfl
  have qb1 := f2W 1 _ rfl
  clear f1W f2W
  go_upto_region 3 with (fail)
  obtain ⟨X, hX⟩ : ∃ X, X = W.alloc (.map #[] 0) := ⟨_, rfl⟩
  rw [← hX]
  have hbX : Below W.heap.size W X := by rw [hX]; exact (Below.refl _ _).alloc (Nat.le_refl _) _
  have hszX : X.heap.size = w.heap.size + 1 + 1 + 1 := by rw [hX]; simp [hszW]
  have hMX : MI X (w.heap.size + 1 + 1) 0 (fun _ => none) := by rw [hX, ← hszW]; exact Mf.made W Try.prog _
  (have hzhbX := hbX.size; replace qa0 := cl hbX qa0; replace qa1 := cl hbX qa1; replace qb0 := cl hbX qb0; replace qb1 := cl hbX qb1; replace qfa := cz hbX qfa; replace qfb := cz hbX qfb; replace hbW := Below.trans hbW (Below.mono hbX (by omega)))
  have hCS0 : CS w.heap.size (w.heap.size + 1 + 1 + 1) (w.heap.size + 1 + 1) 0 w X (fun _ => none) (fun _ => .slice none 0 0) (pOf s (s.added.take 0)) (.slice none 0 0) (.slice none 0 0) [] [] :=
    ⟨hbW, by omega, by omega, by omega, by omega, hMX, fun _ => rfl, fun x => Ow.nil_ _ _ _, Ow.nil_ _ _ _, Ow.nil_ _ _ _, fun _ _ _ => Sep.nil_ _, fun _ => Sep.nil_ _, fun _ => Sep.nil_ _, Sep.nil_ _⟩
  have HCS0 := Lib.hid hCS0
  clear hCS0 hMX
  have x6 := (hbW.cell (p := ⟨k.p, 6, none⟩) hpw).trans hc6
  clear hbW hbX hX hzW hmm
  go_wp2_with fail
  go_loopw [18] (fun i wr => ∃ j : Nat, j ≤ n6 ∧ i = .int .i64 j ∧ C1 w s j wr) (fun i _ => n6 - (intOf i).toNat)
  case atStart =>
    exact ⟨0, Nat.zero_le _, rfl, _, _, _, _, HCS0.out, All2.nil_, qb0, qb1, qa0, qa1, qfa, qfb⟩
  case round =>
    obtain ⟨j, hj, rfl, f, G, vs, xs, hcs, hal, d0, d1, r0, r1, rf, df⟩ := hrel
    obtain ⟨As, cs, hvs, _, _⟩ := hcs.s.val
    subst hvs
    have hnsj : xs.length ≤ j := by rw [hal.1]; exact pSubs_len _ _ _
    obtain ⟨ns, hns⟩ : ∃ ns, xs.length = ns := ⟨_, rfl⟩
    have HNS := Lib.hid hns
    rw [hns] at hcs d1 hnsj
    clear hns
    have HCS := Lib.hid hcs
    have HAL := Lib.hid hal
    have hbr := hcs.hb
    have hszr := hcs.bs
    clear hcs hal HCS0 qa0 qa1 qb0 qb1 qfa qfb hszX hszW
    by_cases hlt : j < n6
    · obtain ⟨b, off, hAe, hbl, hcells⟩ := HS6.out.baseIn hbr (by omega)
      obtain ⟨n, hn⟩ := HS6.out.get hlt
      have hwn := HA.out n (List.mem_of_getElem? hn)
      have e0 : wr.cell? ⟨b, off + j * 1, none⟩ = some (.int .i64 n) := Sl.at_ hcells hn 0 rfl
      rw [Nat.mul_one] at e0
      have hbl2 : b < wr.heap.size := by omega
      have hpr : k.p < wr.heap.size := by omega
      have c1 := (hbr.cell (p := ⟨k.p, 1, none⟩) hpw).trans HR.out.c1
      obtain ⟨fs, hMS, hFS⟩ := HR.out.sub
      have HMS := Lib.hid (hMS.below hbr)
      have hfx := hFS n
      have HN := Lib.hid hn
      subst hAe
      clear hcells hMS hFS hn
      cases hsub : s.sub n
      case none =>
        rw [hsub] at hfx
        have hl := HMS.out.run_ok keyI Try.underlying124 (zeroSb _) (kI (wfK hwn)) (v := .agg #[.int .i64 0, .int .i64 0, .int .i64 0, .string ⟨#[]⟩, .slice none 0 0, .slice none 0 0, .bool false, .bool false]) (c := false) (by rw [hfx]; rfl) (by rw [hfx]; rfl)
        clear hfx
        have HSB := Lib.hid hsub
        clear hsub
        go_upto_region 7 with (fail)
        (obtain ⟨V, hWV, hbV, hzV, f1V, vfa⟩ := box1 wr #[.int .i64 0, .int .i64 0, .int .i64 0, .string ⟨#[]⟩, .slice none 0 0, .slice none 0 0, .bool false, .bool false] 51; rw [← hWV]; have va0 : V.cell? ⟨wr.heap.size, 0, none⟩ = some (.int .i64 0) := f1V 0 _ rfl; have va1 : V.cell? ⟨wr.heap.size, 1, none⟩ = some (.int .i64 0) := f1V 1 _ rfl; have va2 : V.cell? ⟨wr.heap.size, 2, none⟩ = some (.int .i64 0) := f1V 2 _ rfl; have va3 : V.cell? ⟨wr.heap.size, 3, none⟩ = some (.string ⟨#[]⟩) := f1V 3 _ rfl; have va4 : V.cell? ⟨wr.heap.size, 4, none⟩ = some (.slice none 0 0) := f1V 4 _ rfl; have va5 : V.cell? ⟨wr.heap.size, 5, none⟩ = some (.slice none 0 0) := f1V 5 _ rfl; have va6 : V.cell? ⟨wr.heap.size, 6, none⟩ = some (.bool false) := f1V 6 _ rfl; have va7 : V.cell? ⟨wr.heap.size, 7, none⟩ = some (.bool false) := f1V 7 _ rfl; clear hWV f1V)
        go_wp2_with fail
        go_roundw
        case rel =>
          have hC : ∀ b o, b < w.heap.size + 1 + 1 + 1 → V.cell? ⟨b, o, none⟩ = wr.cell? ⟨b, o, none⟩ := fun b o h => hbV.cell (p := ⟨b, o, none⟩) (by dsimp only; omega)
          have hF : ∀ b o, b < w.heap.size + 1 + 1 + 1 → V.frozen? ⟨b, o, none⟩ = wr.frozen? ⟨b, o, none⟩ := fun b o h => hbV.frozen (p := ⟨b, o, none⟩) (by dsimp only; omega)
          exact ⟨j + 1, by omega, by go_num, f, G, _, xs, by rw [pOf_none HN.out HSB.out]; exact (HCS.out.below hbV).mono (Nat.le_succ _), by rw [pSubs_none HN.out HSB.out]; exact HAL.out, (hC _ _ (by omega)).trans d0, (hC _ _ (by omega)).trans d1, (hC _ _ (by omega)).trans r0, (hC _ _ (by omega)).trans r1, fun i => (hF _ i (by omega)).trans (rf i), fun i => (hF _ i (by omega)).trans (df i)⟩
        case measure => simp [intOf]; omega
      case some =>
        rename_i sb
        rw [hsub] at hfx
        obtain ⟨v, hv, hsr, _, _, _, hwacc⟩ := hfx
        unfold Sv.val at hv
        rw [← hsr.1.acc] at hwacc
        have HSR := Lib.hid hsr
        have hl := HMS.out.run_ok keyI Try.underlying124 (zeroSb _) (kI (wfK hwn)) (v := .agg #[.int .i64 v.id, .int .i64 v.acc, .int .i64 v.since, .string v.plan, .slice v.An v.nn v.cn, .slice v.Ap v.np v.cp, .bool v.susp, .bool v.fam]) (c := true) (by rw [hv]; rfl) (by rw [hv]; rfl)
        have HSB := Lib.hid hsub
        clear hv hsr hsub
        go_upto_region 7 with (fail)
        (obtain ⟨V, hWV, hbV, hzV, f1V, vfa⟩ := box1 wr #[.int .i64 v.id, .int .i64 v.acc, .int .i64 v.since, .string v.plan, .slice v.An v.nn v.cn, .slice v.Ap v.np v.cp, .bool v.susp, .bool v.fam] 51; rw [← hWV]; have va0 : V.cell? ⟨wr.heap.size, 0, none⟩ = some (.int .i64 v.id) := f1V 0 _ rfl; have va1 : V.cell? ⟨wr.heap.size, 1, none⟩ = some (.int .i64 v.acc) := f1V 1 _ rfl; have va2 : V.cell? ⟨wr.heap.size, 2, none⟩ = some (.int .i64 v.since) := f1V 2 _ rfl; have va3 : V.cell? ⟨wr.heap.size, 3, none⟩ = some (.string v.plan) := f1V 3 _ rfl; have va4 : V.cell? ⟨wr.heap.size, 4, none⟩ = some (.slice v.An v.nn v.cn) := f1V 4 _ rfl; have va5 : V.cell? ⟨wr.heap.size, 5, none⟩ = some (.slice v.Ap v.np v.cp) := f1V 5 _ rfl; have va6 : V.cell? ⟨wr.heap.size, 6, none⟩ = some (.bool v.susp) := f1V 6 _ rfl; have va7 : V.cell? ⟨wr.heap.size, 7, none⟩ = some (.bool v.fam) := f1V 7 _ rfl; clear hWV f1V)
        go_upto_region 8 with (fail)
        have HCV := Lib.hid (HCS.out.below hbV)
        have hszV : w.heap.size + 1 + 1 + 1 ≤ V.heap.size := by omega
        obtain ⟨Ag, cg, hG, _, _⟩ := (HCS.out.g v.acc).val
        have hlgj := pOf_len s s.added j v.acc
        obtain ⟨lg, hlg⟩ : ∃ lg, (pOf s (s.added.take j) v.acc).length = lg := ⟨_, rfl⟩
        rw [hlg] at hG hlgj
        have HLG := Lib.hid hlg
        have HG := Lib.hid hG
        have hlk : (f (.int .i64 v.acc)).getD (.slice none 0 0) = .slice Ag lg cg := (HCS.out.fg v.acc).trans hG
        clear hG hlg hl
        have hl0 := (HCV.out.m.drew).run keyI Try.underlying142 (zeroSl _) (kI hwacc) hlk
        have hl1 := ((HCV.out.m.alloc (.cells #[.int .i64 n] 3)).drew).run keyI Try.underlying142 (zeroSl _) (kI hwacc) hlk
        have hmx : NN + 4 < maxLen := by unfold maxLen; omega
        clear hlk
        refine wp_region_held_drew (S := fun w' => Keeps (fun b => (G v.acc).ownBlock ≠ some b) V w') (by kernel_rfl) (Keeps.ofBelow (Below.refl _ _).drew) (fun hHeld => ?_)
        refine tk 0 (v := ?_) ?_ ?_
        rotate_left
        · intro w' hSw; go_simp; (try with_reducible rfl)
        refine tk 1 (v := ?_) ?_ ?_
        rotate_left
        · intro w' hSw; go_simp; (try with_reducible rfl)
        refine tk 2 (v := ?_) ?_ ?_
        rotate_left
        · intro w' hSw; have ze1 := (hSw.2 wr.heap.size 1 ((HCS.out.nB (.inr (Nat.le_refl _))).1 v.acc) hzV).trans va1; go_simp; (try with_reducible rfl)
        refine tk 3 (v := ?_) ?_ ?_
        rotate_left
        · intro w' hSw; go_simp; (try with_reducible rfl)
        refine tk 4 (v := ?_) ?_ ?_
        rotate_left
        · intro w' hSw; go_simp; (try with_reducible rfl)
        refine tk 5 (v := ?_) ?_ ?_
        rotate_left
        · intro w' hSw; have ze1 := (hSw.2 wr.heap.size 1 ((HCS.out.nB (.inr (Nat.le_refl _))).1 v.acc) hzV).trans va1; go_simp; (try with_reducible rfl)
        refine tk 7 (v := ?_) ?_ ?_
        rotate_left
        · intro w' hSw; go_simp; (try with_reducible rfl)
        (try simp only [List.getElem_toArray, List.getElem_cons_succ, List.getElem_cons_zero, Act.put, List.setIfInBounds_toArray, List.set_cons_zero, List.set_cons_succ])
        refine wpAnyH_ready (rs := [6, 8]) (by kernel_rfl) (by simp) ?_
        refine AllReadyH.cons rfl (fun K' hK => ?_) (AllReadyH.cons rfl (fun K' hK => ?_) AllReadyH.nil)
        · go_simp
          refine hK.out _ _ (hHeld) (fun hHeld => ?_)
          clear hK K'
          (try simp only [List.getElem_toArray, List.getElem_cons_succ, List.getElem_cons_zero, Act.put, List.setIfInBounds_toArray, List.set_cons_zero, List.set_cons_succ])
          refine wpAnyH_ready (rs := [8]) (by kernel_rfl) (by simp) ?_
          refine AllReadyH.cons rfl (fun K' hK => ?_) AllReadyH.nil
          go_simp
          refine hK.out _ _ (hHeld.trans (Keeps.ofBelow ((Below.refl _ _).alloc (Nat.le_refl _) _))) (fun hHeld => ?_)
          clear hK K'
          (try simp only [List.getElem_toArray, List.getElem_cons_succ, List.getElem_cons_zero, Act.put, List.setIfInBounds_toArray, List.set_cons_zero, List.set_cons_succ])
          refine wpAnyH_ready (rs := [9]) (by kernel_rfl) (by simp) ?_
          refine AllReadyH.cons rfl (fun K' hK => ?_) AllReadyH.nil
          refine step_append (α := Int) rfl (.tmp 39) (.tmp 41) 44 rfl (w.heap.size + 1 + 1 + 1) 3 (.int .i64 0) 8 Try.underlying44 infoI rfl (.slice Ag lg cg) (pOf s (s.added.take j) v.acc) rfl (by rw [← HG.out]; exact ((HCV.out.g v.acc).alloc _).drew) (some ⟨V.heap.size, 0, none⟩) 1 1 [n] rfl (fun e => by cases e) (Sl.new V #[.int .i64 n] _ V.heap.size rfl [n] 1 rfl (by unfold maxLen; omega) rfl) (by have := HLG.out; omega) (by decide) (by show _ ≤ (V.alloc _).heap.size; rw [World.size_alloc]; omega) ?_
          intro u9 w9 ho9 hu9
          have hu9' := hu9
          rw [← HG.out] at hu9'
          refine hK.out _ _ (hHeld.trans (Keeps.ofUpd hu9' fun b hb => hb)) (fun hHeld => ?_)
          clear hK K'
          (try simp only [List.getElem_toArray, List.getElem_cons_succ, List.getElem_cons_zero, Act.put, List.setIfInBounds_toArray, List.set_cons_zero, List.set_cons_succ])
          refine wpAnyH_ready (rs := [10]) (by kernel_rfl) (by simp) ?_
          refine AllReadyH.cons rfl (fun K' hK => ?_) AllReadyH.nil
          rw [if_pos (by rfl)]
          refine op_put (.tmp 33) (.tmp 35) (.tmp 42) rfl keyI Try.underlying142 rfl ((HCV.out.below ((Below.refl _ _).alloc (Nat.le_refl _) _).drew).mG hu9') (by omega) (.int .i64 v.acc) u9 (.int .i64 v.acc) rfl rfl (kI hwacc) ?_
          intro w7 hm7 ht7
          refine hK.out _ _ (hHeld.trans (turned_keeps ht7)) (fun hHeld => ?_)
          clear hK K'
          (try simp only [List.getElem_toArray, List.getElem_cons_succ, List.getElem_cons_zero, Act.put, List.setIfInBounds_toArray, List.set_cons_zero, List.set_cons_succ])
          refine wpAnyH_done (by kernel_rfl) ?_ _
          (try simp only [List.getElem_toArray, List.getElem_cons_succ, List.getElem_cons_zero, Act.put, List.setIfInBounds_toArray, List.set_cons_zero, List.set_cons_succ])
          have hCX := (HCV.out.below ((Below.refl _ _).alloc (Nat.le_refl _) _).drew).upG hu9' ho9 ht7 hm7
          have hpo := pOf_some HN.out HSB.out
          rw [← HSR.out.1.acc] at hpo
          rw [← hpo] at hCX
          have HCX := Lib.hid hCX
          have hszX7 := hCX.bs
          have HT7 := Lib.hid ht7
          have HU9 := Lib.hid hu9'
          have hkC : Keeps (fun b => b < w.heap.size + 1 + 1 + 1) wr w7 := (Keeps.ofBelow hbV).trans (kless hHeld fun b hb => (HCS.out.nB (.inl hb)).1 v.acc)
          have hkB : Keeps (fun b => b = wr.heap.size) V w7 := kless hHeld fun b hb => by subst hb; exact (HCS.out.nB (.inr (Nat.le_refl _))).1 v.acc
          have hF : ∀ b j, b < w.heap.size + 1 + 1 + 1 → w7.frozen? ⟨b, j, none⟩ = wr.frozen? ⟨b, j, none⟩ := fun b j hb => (turned_frozen HT7.out b j).trans ((upd_frozen HU9.out (by show b < (V.alloc _).heap.size; rw [World.size_alloc]; omega) ((HCS.out.nB (.inl hb)).1 v.acc)).trans ((((Below.refl V.heap.size V).alloc (Nat.le_refl _) _).drew.frozen (p := ⟨b, j, none⟩) (by dsimp only; omega)).trans (hbV.frozen (p := ⟨b, j, none⟩) (by dsimp only; omega))))
          replace d0 := (hkC.2 _ 0 (by omega) (by omega)).trans d0
          replace d1 := (hkC.2 _ 1 (by omega) (by omega)).trans d1
          replace r0 := (hkC.2 _ 0 (by omega) (by omega)).trans r0
          replace r1 := (hkC.2 _ 1 (by omega) (by omega)).trans r1
          replace rf := fun j => (hF _ j (by omega)).trans (rf j)
          replace df := fun j => (hF _ j (by omega)).trans (df j)
          replace va0 := (hkB.2 _ 0 rfl hzV).trans va0
          replace va1 := (hkB.2 _ 1 rfl hzV).trans va1
          replace va2 := (hkB.2 _ 2 rfl hzV).trans va2
          replace va3 := (hkB.2 _ 3 rfl hzV).trans va3
          replace va4 := (hkB.2 _ 4 rfl hzV).trans va4
          replace va5 := (hkB.2 _ 5 rfl hzV).trans va5
          replace va6 := (hkB.2 _ 6 rfl hzV).trans va6
          replace va7 := (hkB.2 _ 7 rfl hzV).trans va7
          have hz7 : wr.heap.size < w7.heap.size := Nat.lt_of_lt_of_le hzV hkB.1
          clear hpo hCX ht7 hm7 hu9 hu9' ho9 hl0 hl1 hHeld hkC hkB hF HT7 HU9 HCV c1 e0 vfa hbV HCS
          go_wp2_with (at_builtin; go_must (
            refine wpl_append1 _ rfl (.tmp 44) (.tmp 46) 30 rfl (w.heap.size + 1 + 1 + 1) 51 _ 96 Try.underlying30 infoSb rfl (.slice As ns cs) xs rfl (HCX.out.s.alloc _) _ v rfl (fun j u hu => cells_new _ _ _ _ _ (by simp) u hu) (by have := HNS.out; omega) (by omega) (by rw [World.size_alloc]; omega) ?_
            intro v6 w6 ho6 hu6
            have HC6 := Lib.hid ((HCX.out.below ((Below.refl _ _).alloc (Nat.le_refl _) _)).upS hu6 ho6)
            have hk6 : Keeps (fun b => b < w.heap.size + 1 + 1 + 1) w7 w6 := (Keeps.ofBelow ((Below.refl _ _).alloc (Nat.le_refl _) _)).trans (Keeps.ofUpd hu6 fun b hb => (HCX.out.nB (.inl hb)).2.2)
            have hf6 : ∀ b j, b < w.heap.size + 1 + 1 + 1 → w6.frozen? ⟨b, j, none⟩ = w7.frozen? ⟨b, j, none⟩ := fun b j hb => (upd_frozen hu6 (by rw [World.size_alloc]; omega) ((HCX.out.nB (.inl hb)).2.2)).trans (((Below.refl w7.heap.size w7).alloc (Nat.le_refl _) _).frozen (p := ⟨b, j, none⟩) (by dsimp only; omega))
            obtain ⟨A7, c7, rfl, _, _⟩ := ho6.val
            replace HC6 := Lib.hid (by have h := HC6.out; rw [List.length_append, List.length_singleton] at h; exact h)
            replace d0 := (hk6.2 _ 0 (by omega) (by omega)).trans d0
            replace d1 := (hk6.2 _ 1 (by omega) (by omega)).trans d1
            replace r0 := (hk6.2 _ 0 (by omega) (by omega)).trans r0
            replace r1 := (hk6.2 _ 1 (by omega) (by omega)).trans r1
            replace rf := fun j => (hf6 _ j (by omega)).trans (rf j)
            replace df := fun j => (hf6 _ j (by omega)).trans (df j)
            clear ho6 hu6 hk6 hf6))
          go_roundw
          case rel =>
            have hn6 := HC6.out.nB (b := w.heap.size + 1) (.inl (by omega))
            have hoth : ∀ b o u, (b ≠ w.heap.size + 1 ∨ o ≠ 1) → (w6.setCell ⟨w.heap.size + 1, 1, none⟩ u).cell? ⟨b, o, none⟩ = w6.cell? ⟨b, o, none⟩ := fun b o u h => World.cell?_setCell_other _ _ _ _ (fun e => by injection e with e1 e2; omega)
            exact ⟨j + 1, by omega, by go_num, _, _, _, xs ++ [v], HC6.out.set_ (by omega) (by omega) hn6.1 hn6.2.1 hn6.2.2 _ _, by rw [pSubs_some HN.out HSB.out]; exact HAL.out.snoc HSR.out.1, (hoth _ _ _ (.inr (by omega))).trans d0, World.cell?_setCell_same _ _ _ d1, (hoth _ _ _ (.inl (by omega))).trans r0, (hoth _ _ _ (.inl (by omega))).trans r1, fun i => by rw [World.frozen?_setCell]; exact rf i, fun i => by rw [World.frozen?_setCell]; exact df i⟩
          case measure => simp [intOf]; omega
        · go_simp
          refine hK.out _ _ (hHeld.trans (Keeps.ofBelow ((Below.refl _ _).alloc (Nat.le_refl _) _))) (fun hHeld => ?_)
          clear hK K'
          (try simp only [List.getElem_toArray, List.getElem_cons_succ, List.getElem_cons_zero, Act.put, List.setIfInBounds_toArray, List.set_cons_zero, List.set_cons_succ])
          refine wpAnyH_ready (rs := [6]) (by kernel_rfl) (by simp) ?_
          refine AllReadyH.cons rfl (fun K' hK => ?_) AllReadyH.nil
          go_simp
          refine hK.out _ _ (hHeld) (fun hHeld => ?_)
          clear hK K'
          (try simp only [List.getElem_toArray, List.getElem_cons_succ, List.getElem_cons_zero, Act.put, List.setIfInBounds_toArray, List.set_cons_zero, List.set_cons_succ])
          refine wpAnyH_ready (rs := [9]) (by kernel_rfl) (by simp) ?_
          refine AllReadyH.cons rfl (fun K' hK => ?_) AllReadyH.nil
          refine step_append (α := Int) rfl (.tmp 39) (.tmp 41) 44 rfl (w.heap.size + 1 + 1 + 1) 3 (.int .i64 0) 8 Try.underlying44 infoI rfl (.slice Ag lg cg) (pOf s (s.added.take j) v.acc) rfl (by rw [← HG.out]; exact ((HCV.out.g v.acc).alloc _).drew) (some ⟨V.heap.size, 0, none⟩) 1 1 [n] rfl (fun e => by cases e) (Sl.new V #[.int .i64 n] _ V.heap.size rfl [n] 1 rfl (by unfold maxLen; omega) rfl) (by have := HLG.out; omega) (by decide) (by show _ ≤ (V.alloc _).heap.size; rw [World.size_alloc]; omega) ?_
          intro u9 w9 ho9 hu9
          have hu9' := hu9
          rw [← HG.out] at hu9'
          refine hK.out _ _ (hHeld.trans (Keeps.ofUpd hu9' fun b hb => hb)) (fun hHeld => ?_)
          clear hK K'
          (try simp only [List.getElem_toArray, List.getElem_cons_succ, List.getElem_cons_zero, Act.put, List.setIfInBounds_toArray, List.set_cons_zero, List.set_cons_succ])
          refine wpAnyH_ready (rs := [10]) (by kernel_rfl) (by simp) ?_
          refine AllReadyH.cons rfl (fun K' hK => ?_) AllReadyH.nil
          rw [if_pos (by rfl)]
          refine op_put (.tmp 33) (.tmp 35) (.tmp 42) rfl keyI Try.underlying142 rfl ((HCV.out.below ((Below.refl _ _).alloc (Nat.le_refl _) _).drew).mG hu9') (by omega) (.int .i64 v.acc) u9 (.int .i64 v.acc) rfl rfl (kI hwacc) ?_
          intro w7 hm7 ht7
          refine hK.out _ _ (hHeld.trans (turned_keeps ht7)) (fun hHeld => ?_)
          clear hK K'
          (try simp only [List.getElem_toArray, List.getElem_cons_succ, List.getElem_cons_zero, Act.put, List.setIfInBounds_toArray, List.set_cons_zero, List.set_cons_succ])
          refine wpAnyH_done (by kernel_rfl) ?_ _
          (try simp only [List.getElem_toArray, List.getElem_cons_succ, List.getElem_cons_zero, Act.put, List.setIfInBounds_toArray, List.set_cons_zero, List.set_cons_succ])
          have hCX := (HCV.out.below ((Below.refl _ _).alloc (Nat.le_refl _) _).drew).upG hu9' ho9 ht7 hm7
          have hpo := pOf_some HN.out HSB.out
          rw [← HSR.out.1.acc] at hpo
          rw [← hpo] at hCX
          have HCX := Lib.hid hCX
          have hszX7 := hCX.bs
          have HT7 := Lib.hid ht7
          have HU9 := Lib.hid hu9'
          have hkC : Keeps (fun b => b < w.heap.size + 1 + 1 + 1) wr w7 := (Keeps.ofBelow hbV).trans (kless hHeld fun b hb => (HCS.out.nB (.inl hb)).1 v.acc)
          have hkB : Keeps (fun b => b = wr.heap.size) V w7 := kless hHeld fun b hb => by subst hb; exact (HCS.out.nB (.inr (Nat.le_refl _))).1 v.acc
          have hF : ∀ b j, b < w.heap.size + 1 + 1 + 1 → w7.frozen? ⟨b, j, none⟩ = wr.frozen? ⟨b, j, none⟩ := fun b j hb => (turned_frozen HT7.out b j).trans ((upd_frozen HU9.out (by show b < (V.alloc _).heap.size; rw [World.size_alloc]; omega) ((HCS.out.nB (.inl hb)).1 v.acc)).trans ((((Below.refl V.heap.size V).alloc (Nat.le_refl _) _).drew.frozen (p := ⟨b, j, none⟩) (by dsimp only; omega)).trans (hbV.frozen (p := ⟨b, j, none⟩) (by dsimp only; omega))))
          replace d0 := (hkC.2 _ 0 (by omega) (by omega)).trans d0
          replace d1 := (hkC.2 _ 1 (by omega) (by omega)).trans d1
          replace r0 := (hkC.2 _ 0 (by omega) (by omega)).trans r0
          replace r1 := (hkC.2 _ 1 (by omega) (by omega)).trans r1
          replace rf := fun j => (hF _ j (by omega)).trans (rf j)
          replace df := fun j => (hF _ j (by omega)).trans (df j)
          replace va0 := (hkB.2 _ 0 rfl hzV).trans va0
          replace va1 := (hkB.2 _ 1 rfl hzV).trans va1
          replace va2 := (hkB.2 _ 2 rfl hzV).trans va2
          replace va3 := (hkB.2 _ 3 rfl hzV).trans va3
          replace va4 := (hkB.2 _ 4 rfl hzV).trans va4
          replace va5 := (hkB.2 _ 5 rfl hzV).trans va5
          replace va6 := (hkB.2 _ 6 rfl hzV).trans va6
          replace va7 := (hkB.2 _ 7 rfl hzV).trans va7
          have hz7 : wr.heap.size < w7.heap.size := Nat.lt_of_lt_of_le hzV hkB.1
          clear hpo hCX ht7 hm7 hu9 hu9' ho9 hl0 hl1 hHeld hkC hkB hF HT7 HU9 HCV c1 e0 vfa hbV HCS
          go_wp2_with (at_builtin; go_must (
            refine wpl_append1 _ rfl (.tmp 44) (.tmp 46) 30 rfl (w.heap.size + 1 + 1 + 1) 51 _ 96 Try.underlying30 infoSb rfl (.slice As ns cs) xs rfl (HCX.out.s.alloc _) _ v rfl (fun j u hu => cells_new _ _ _ _ _ (by simp) u hu) (by have := HNS.out; omega) (by omega) (by rw [World.size_alloc]; omega) ?_
            intro v6 w6 ho6 hu6
            have HC6 := Lib.hid ((HCX.out.below ((Below.refl _ _).alloc (Nat.le_refl _) _)).upS hu6 ho6)
            have hk6 : Keeps (fun b => b < w.heap.size + 1 + 1 + 1) w7 w6 := (Keeps.ofBelow ((Below.refl _ _).alloc (Nat.le_refl _) _)).trans (Keeps.ofUpd hu6 fun b hb => (HCX.out.nB (.inl hb)).2.2)
            have hf6 : ∀ b j, b < w.heap.size + 1 + 1 + 1 → w6.frozen? ⟨b, j, none⟩ = w7.frozen? ⟨b, j, none⟩ := fun b j hb => (upd_frozen hu6 (by rw [World.size_alloc]; omega) ((HCX.out.nB (.inl hb)).2.2)).trans (((Below.refl w7.heap.size w7).alloc (Nat.le_refl _) _).frozen (p := ⟨b, j, none⟩) (by dsimp only; omega))
            obtain ⟨A7, c7, rfl, _, _⟩ := ho6.val
            replace HC6 := Lib.hid (by have h := HC6.out; rw [List.length_append, List.length_singleton] at h; exact h)
            replace d0 := (hk6.2 _ 0 (by omega) (by omega)).trans d0
            replace d1 := (hk6.2 _ 1 (by omega) (by omega)).trans d1
            replace r0 := (hk6.2 _ 0 (by omega) (by omega)).trans r0
            replace r1 := (hk6.2 _ 1 (by omega) (by omega)).trans r1
            replace rf := fun j => (hf6 _ j (by omega)).trans (rf j)
            replace df := fun j => (hf6 _ j (by omega)).trans (df j)
            clear ho6 hu6 hk6 hf6))
          go_roundw
          case rel =>
            have hn6 := HC6.out.nB (b := w.heap.size + 1) (.inl (by omega))
            have hoth : ∀ b o u, (b ≠ w.heap.size + 1 ∨ o ≠ 1) → (w6.setCell ⟨w.heap.size + 1, 1, none⟩ u).cell? ⟨b, o, none⟩ = w6.cell? ⟨b, o, none⟩ := fun b o u h => World.cell?_setCell_other _ _ _ _ (fun e => by injection e with e1 e2; omega)
            exact ⟨j + 1, by omega, by go_num, _, _, _, xs ++ [v], HC6.out.set_ (by omega) (by omega) hn6.1 hn6.2.1 hn6.2.2 _ _, by rw [pSubs_some HN.out HSB.out]; exact HAL.out.snoc HSR.out.1, (hoth _ _ _ (.inr (by omega))).trans d0, World.cell?_setCell_same _ _ _ d1, (hoth _ _ _ (.inl (by omega))).trans r0, (hoth _ _ _ (.inl (by omega))).trans r1, fun i => by rw [World.frozen?_setCell]; exact rf i, fun i => by rw [World.frozen?_setCell]; exact df i⟩
          case measure => simp [intOf]; omega
    · obtain rfl : n6 = j := by omega
      have hkn : ¬ ((n6 : Int) < (n6 : Int)) := by omega
      have htk : s.added.take n6 = s.added := List.take_of_length_le (by omega)
      replace HCS := Lib.hid (by have h := HCS.out; rw [htk] at h; exact h)
      replace HAL := Lib.hid (by have h := HAL.out; rw [htk] at h; exact h)
      have hsG : ∀ x, (pOf s s.added x).length ≤ n6 := fun x => by have := pOf_len s s.added n6 x; rw [htk] at this; exact this
      obtain ⟨A5, n5, c5, hc5, hs5, _, _, hl5⟩ := HR.out.opened
      have HS5 := Lib.hid hs5
      have hln5 := hs5.len
      have hmx5 := hs5.nmax
      have x5 := (hbr.cell (p := ⟨k.p, 5, none⟩) hpw).trans hc5
      clear hs5 hc5 x6 hc6 htk hnsj hzhbX
      have HSG := Lib.hid hsG
      clear hsG
      go_wp2_with fail
      go_loopw [55] (fun i wx => ∃ j : Nat, j ≤ n5 ∧ i = .int .i64 j ∧ C2 w s n6 f G (.slice As ns cs) xs j wx) (fun i _ => n5 - (intOf i).toNat)
      case atStart =>
        exact ⟨0, Nat.zero_le _, rfl, _, _, HCS.out, All2.nil_, d0, d1, r0, r1, rf, df⟩
      case round =>
        obtain ⟨j, hj2, rfl, va, xa, hcs2, hal2, e0', e1', q0, q1, qf, ef⟩ := hrel
        obtain ⟨Aa, ca, hva, _, _⟩ := hcs2.a.val
        subst hva
        have hnaj : xa.length ≤ j := by rw [hal2.1]; exact List.length_take_le _ _
        obtain ⟨na, hna⟩ : ∃ na, xa.length = na := ⟨_, rfl⟩
        have HNA := Lib.hid hna
        rw [hna] at hcs2 e0' hnaj
        clear hna
        have hbs := hcs2.hb
        have hszs := hcs2.bs
        have HCT := Lib.hid hcs2
        have HAM := Lib.hid hal2
        clear hcs2 hal2 hbr hszr HCS d0 d1 r0 r1 rf df x5
        by_cases hlt : j < n5
        · obtain ⟨b, off, hAe, hbl, hcells⟩ := HS5.out.baseIn hbs (by omega)
          obtain ⟨n, hn⟩ := HS5.out.get hlt
          have hwn := HO.out n (List.mem_of_getElem? hn)
          have e0 : wr.cell? ⟨b, off + j * 1, none⟩ = some (.int .i64 n) := Sl.at_ hcells hn 0 rfl
          rw [Nat.mul_one] at e0
          have hbl2 : b < wr.heap.size := by omega
          have hpr : k.p < wr.heap.size := by omega
          have c0 := (hbs.cell (p := ⟨k.p, 0, none⟩) hpw).trans HR.out.c0
          obtain ⟨fa, hMA, hFA⟩ := HR.out.acc
          have HN := Lib.hid hn
          obtain ⟨ac, hac⟩ : ∃ ac, (s.acc n).getD ac0 = ac := ⟨_, rfl⟩
          have HAC := Lib.hid hac
          have hl := (hMA.below hbs).run keyI Try.underlying123 (zeroA _) (kI (wfK hwn)) (v := .agg #[.int .i64 ac.id, .int .i64 ac.since, .int .i64 ac.anchor, .bool ac.prepaid, .bool ac.closed, .slice none 0 0]) (by rw [hFA n, ← hac]; cases s.acc n <;> rfl)
          subst hAe
          clear hcells hMA hFA hn hac
          go_upto_region 15 with (fail)
          (obtain ⟨V, hWV, hbV, hzV, f1V, vfa⟩ := box1 wr #[.int .i64 ac.id, .int .i64 ac.since, .int .i64 ac.anchor, .bool ac.prepaid, .bool ac.closed, .slice none 0 0] 46; rw [← hWV]; have va0 : V.cell? ⟨wr.heap.size, 0, none⟩ = some (.int .i64 ac.id) := f1V 0 _ rfl; have va1 : V.cell? ⟨wr.heap.size, 1, none⟩ = some (.int .i64 ac.since) := f1V 1 _ rfl; have va2 : V.cell? ⟨wr.heap.size, 2, none⟩ = some (.int .i64 ac.anchor) := f1V 2 _ rfl; have va3 : V.cell? ⟨wr.heap.size, 3, none⟩ = some (.bool ac.prepaid) := f1V 3 _ rfl; have va4 : V.cell? ⟨wr.heap.size, 4, none⟩ = some (.bool ac.closed) := f1V 4 _ rfl; have va5 : V.cell? ⟨wr.heap.size, 5, none⟩ = some (.slice none 0 0) := f1V 5 _ rfl; clear hWV f1V)
          have hszV : w.heap.size + 1 + 1 + 1 ≤ V.heap.size := by omega
          obtain ⟨Ag, cg, hG, _, _⟩ := (HCT.out.g n).val
          obtain ⟨lg, hlg⟩ : ∃ lg, (pOf s s.added n).length = lg := ⟨_, rfl⟩
          rw [hlg] at hG
          have HG := Lib.hid hG
          have hl2 := (HCT.out.m.below hbV).run keyI Try.underlying142 (zeroSl _) (kI (wfK hwn)) ((HCT.out.fg n).trans hG)
          clear hl hlg hG
          go_upto_region 16 with (fail)
          obtain ⟨X, hX, hnX, hfarX, hfrX, hblX, hszX⟩ := set1 wr.heap.size 5 (u := .slice Ag lg cg) va5
          rw [← hX]
          have hnb := HCT.out.nB (b := wr.heap.size) (.inr (Nat.le_refl _))
          have hCX : CS w.heap.size (w.heap.size + 1 + 1 + 1) (w.heap.size + 1 + 1) n6 w X f G (pOf s s.added) (.slice Aa na ca) (.slice As ns cs) xa xs := by
            rw [hX]; exact (HCT.out.below hbV).set_ (by omega) (by omega) hnb.1 hnb.2.1 hnb.2.2 _ _
          have HCX := Lib.hid hCX
          have hszX2 := hCX.bs
          have hszX3 : wr.heap.size < X.heap.size := by omega
          have hcc : ∀ b o, b < w.heap.size + 1 + 1 + 1 → X.cell? ⟨b, o, none⟩ = wr.cell? ⟨b, o, none⟩ := fun b o hb => (hfarX b o (.inl (by omega))).trans (hbV.cell (p := ⟨b, o, none⟩) (by dsimp only; omega))
          have hff : ∀ b o, b < w.heap.size + 1 + 1 + 1 → X.frozen? ⟨b, o, none⟩ = wr.frozen? ⟨b, o, none⟩ := fun b o hb => (hfrX b o).trans (hbV.frozen (p := ⟨b, o, none⟩) (by dsimp only; omega))
          replace e0' := (hcc _ 0 (by omega)).trans e0'
          replace e1' := (hcc _ 1 (by omega)).trans e1'
          replace q0 := (hcc _ 0 (by omega)).trans q0
          replace q1 := (hcc _ 1 (by omega)).trans q1
          replace qf := fun j => (hff _ j (by omega)).trans (qf j)
          replace ef := fun j => (hff _ j (by omega)).trans (ef j)
          replace va0 := (hfarX _ 0 (.inr (by omega))).trans va0
          replace va1 := (hfarX _ 1 (.inr (by omega))).trans va1
          replace va2 := (hfarX _ 2 (.inr (by omega))).trans va2
          replace va3 := (hfarX _ 3 (.inr (by omega))).trans va3
          replace va4 := (hfarX _ 4 (.inr (by omega))).trans va4
          replace va5 := hnX
          clear hX hnX hfarX hfrX hblX hCX hl2 hnb hbV hcc hff c0 e0 vfa HCT
          go_wp2_with (at_builtin; go_must (
            refine wpl_append1 _ rfl (.tmp 70) (.tmp 72) 29 rfl (w.heap.size + 1 + 1 + 1) 46 _ 56 Try.underlying29 infoAc rfl (.slice Aa na ca) xa rfl (HCX.out.a.alloc _) _ ⟨ac.id, ac.since, ac.anchor, ac.prepaid, ac.closed, Ag, lg, cg⟩ rfl (fun j u hu => cells_new _ _ _ _ _ (by simp) u hu) (by have := HNA.out; omega) (by omega) (by rw [World.size_alloc]; omega) ?_
            intro v6 w6 ho6 hu6
            have HC6 := Lib.hid ((HCX.out.below ((Below.refl _ _).alloc (Nat.le_refl _) _)).upA hu6 ho6)
            have hk6 : Keeps (fun b => b < w.heap.size + 1 + 1 + 1) X w6 := (Keeps.ofBelow ((Below.refl _ _).alloc (Nat.le_refl _) _)).trans (Keeps.ofUpd hu6 fun b hb => (HCX.out.nB (.inl hb)).2.1)
            have hf6 : ∀ b j, b < w.heap.size + 1 + 1 + 1 → w6.frozen? ⟨b, j, none⟩ = X.frozen? ⟨b, j, none⟩ := fun b j hb => (upd_frozen hu6 (by rw [World.size_alloc]; omega) ((HCX.out.nB (.inl hb)).2.1)).trans (((Below.refl X.heap.size X).alloc (Nat.le_refl _) _).frozen (p := ⟨b, j, none⟩) (by dsimp only; omega))
            obtain ⟨A7, c7, rfl, _, _⟩ := ho6.val
            replace HC6 := Lib.hid (by have h := HC6.out; rw [List.length_append, List.length_singleton] at h; exact h)
            replace e0' := (hk6.2 _ 0 (by omega) (by omega)).trans e0'
            replace e1' := (hk6.2 _ 1 (by omega) (by omega)).trans e1'
            replace q0 := (hk6.2 _ 0 (by omega) (by omega)).trans q0
            replace q1 := (hk6.2 _ 1 (by omega) (by omega)).trans q1
            replace qf := fun j => (hf6 _ j (by omega)).trans (qf j)
            replace ef := fun j => (hf6 _ j (by omega)).trans (ef j)
            clear ho6 hu6 hk6 hf6))
          go_roundw
          case rel =>
            have hn6 := HC6.out.nB (b := w.heap.size + 1) (.inl (by omega))
            have hoth : ∀ b o u, (b ≠ w.heap.size + 1 ∨ o ≠ 0) → (w6.setCell ⟨w.heap.size + 1, 0, none⟩ u).cell? ⟨b, o, none⟩ = w6.cell? ⟨b, o, none⟩ := fun b o u h => World.cell?_setCell_other _ _ _ _ (fun e => by injection e with e1 e2; omega)
            exact ⟨j + 1, by omega, by go_num, _, _, HC6.out.set_ (by omega) (by omega) hn6.1 hn6.2.1 hn6.2.2 _ _, (by rw [List.take_add_one, HN.out]; exact HAM.out.snoc ⟨by rw [HAC.out], by rw [HAC.out], by rw [HAC.out], by rw [HAC.out], by rw [HAC.out], HG.out⟩), World.cell?_setCell_same _ _ _ e0', (hoth _ _ _ (.inr (by omega))).trans e1', (hoth _ _ _ (.inl (by omega))).trans q0, (hoth _ _ _ (.inl (by omega))).trans q1, fun i => by rw [World.frozen?_setCell]; exact qf i, fun i => by rw [World.frozen?_setCell]; exact ef i⟩
          case measure => simp [intOf]; omega
        · obtain rfl : n5 = j := by omega
          have hkn2 : ¬ ((n5 : Int) < (n5 : Int)) := by omega
          have htk : s.opened.take n5 = s.opened := List.take_of_length_le (by omega)
          replace HAM := Lib.hid (by have h := HAM.out; rw [htk] at h; exact h)
          clear htk
          go_wp2_with fail
          obtain ⟨Z, hZ⟩ : ∃ Z, Z = (wr.setCell ⟨w.heap.size, 0, none⟩ (.slice Aa na ca)).setCell ⟨w.heap.size, 1, none⟩ (.slice As ns cs) := ⟨_, rfl⟩
          rw [← hZ]
          have z0 : Z.cell? ⟨w.heap.size, 0, none⟩ = some (.slice Aa na ca) := by rw [hZ]; exact (World.cell?_setCell_other _ _ _ _ (fun e => by injection e with e1 e2; omega)).trans (World.cell?_setCell_same _ _ _ q0)
          have z1 : Z.cell? ⟨w.heap.size, 1, none⟩ = some (.slice As ns cs) := by rw [hZ]; exact World.cell?_setCell_same _ _ _ ((World.cell?_setCell_other _ _ _ _ (fun e => by injection e with e1 e2; omega)).trans q1)
          refine bodyPost_ret (results_cells rfl _ _ w.heap.size #[.slice Aa na ca, .slice As ns cs] _ rfl (fun j v hv => by
            match j, hv with
            | 0, hv => cases hv; exact z0
            | 1, hv => cases hv; exact z1
            | j + 2, hv => simp at hv) rfl rfl rfl) rfl ?_
          have hnb := HCT.out.nB (b := w.heap.size) (.inl (by omega))
          have hZC : CS w.heap.size (w.heap.size + 1 + 1 + 1) (w.heap.size + 1 + 1) n6 w Z f G (pOf s s.added) (.slice Aa na ca) (.slice As ns cs) xa xs := by
            rw [hZ]; exact (HCT.out.set_ (Nat.le_refl _) (by omega) hnb.1 hnb.2.1 hnb.2.2 _ _).set_ (Nat.le_refl _) (by omega) hnb.1 hnb.2.1 hnb.2.2 _ _
          exact ⟨Aa, na, ca, As, ns, cs, rfl, ⟨(rowLS hZC.a).1, xa, (rowLS hZC.a).2, accsAR HAM.out hZC.g⟩, ⟨(rowLS hZC.s).1, xs, (rowLS hZC.s).2, HAL.out.imp fun _ _ h => h.on hZC.hb⟩, hZC.hb⟩
end Cu
end Go.Proofs.Yteaanngagcflhaa
