/-
  Customers: world.changed. No condition.
-/
import Derived.Test.YteaanngagcflhaaCuN
import Derived.BigQuiet
import Derived.StillTailTactics
import Derived.Lib.Overlaps
import Derived.Deep.DeepCutAuto
import Derived.Deep.RegionWith
import Derived.Laws.RangeAny
import Derived.Deep.RegionHeld
import Derived.Deep.RegionHeldLaw
set_option maxRecDepth 100000
set_option linter.unusedVariables false
set_option linter.unusedSimpArgs false
namespace Go.Proofs.Yteaanngagcflhaa
open Go.RowKit

namespace Cu
open Go.Maps
theorem box3 (w : World) (c1 c2 c3 : Array Value) (t1 t2 t3 : TypeId) : ∃ W, W = ((w.alloc (.cells c1 t1)).alloc (.cells c2 t2)).alloc (.cells c3 t3) ∧ Below w.heap.size w W ∧ W.heap.size = w.heap.size + 1 + 1 + 1 ∧ (∀ j u, c1.toList[j]? = some u → W.cell? ⟨w.heap.size, j, none⟩ = some u) ∧ (∀ j u, c2.toList[j]? = some u → W.cell? ⟨w.heap.size + 1, j, none⟩ = some u) ∧ (∀ j u, c3.toList[j]? = some u → W.cell? ⟨w.heap.size + 1 + 1, j, none⟩ = some u) ∧
    (∀ j, W.frozen? ⟨w.heap.size, j, none⟩ = false) ∧ (∀ j, W.frozen? ⟨w.heap.size + 1 + 1, j, none⟩ = false) := by
  obtain ⟨V, hV, hb, hz, h1, h2, f1, f2⟩ := box2 w c1 t1 c2 t2
  obtain ⟨X, hX, hbX, hzX, h3, f3⟩ := box1 V c3 t3
  have hVs : V.heap.size = w.heap.size + 1 + 1 := by rw [hV]; simp
  rw [hVs] at h3 f3
  refine ⟨X, by rw [hX, hV], hb.trans (hbX.mono hb.size), by rw [hX]; simp [hVs], fun j u h => (hbX.cell (p := ⟨w.heap.size, j, none⟩) (by show w.heap.size < V.heap.size; omega)).trans (h1 j u h), fun j u h => (hbX.cell (p := ⟨w.heap.size + 1, j, none⟩) (by show w.heap.size + 1 < V.heap.size; omega)).trans (h2 j u h), h3, fun j => (hbX.frozen (p := ⟨w.heap.size, j, none⟩) (by show w.heap.size < V.heap.size; omega)).trans (f1 j), f3⟩
theorem eight {w : World} {g : Nat} {v0 v1 v2 v3 v4 v5 v6 v7 : Value} (h0 : w.cell? ⟨g, 0, none⟩ = some v0) (h1 : w.cell? ⟨g, 1, none⟩ = some v1) (h2 : w.cell? ⟨g, 2, none⟩ = some v2) (h3 : w.cell? ⟨g, 3, none⟩ = some v3) (h4 : w.cell? ⟨g, 4, none⟩ = some v4) (h5 : w.cell? ⟨g, 5, none⟩ = some v5) (h6 : w.cell? ⟨g, 6, none⟩ = some v6) (h7 : w.cell? ⟨g, 7, none⟩ = some v7) :
    ∀ j u, [v0, v1, v2, v3, v4, v5, v6, v7][j]? = some u → w.cell? ⟨g, 0 + j, none⟩ = some u := fun j u hu => by
  match j, hu with
  | 0, hu => cases hu; exact h0
  | 1, hu => cases hu; exact h1
  | 2, hu => cases hu; exact h2
  | 3, hu => cases hu; exact h3
  | 4, hu => cases hu; exact h4
  | 5, hu => cases hu; exact h5
  | 6, hu => cases hu; exact h6
  | 7, hu => cases hu; exact h7
theorem kless {p q : Nat → Prop} {w w' : World} (h : Keeps p w w') (hq : ∀ b, q b → p b) : Keeps q w w' := ⟨h.1, fun b o hb hl => h.2 b o (hq b hb) hl⟩
theorem RepQ.setRunFar {q : Nat → Prop} {B M N g : Nat} {k : Bl} {s : St} : ∀ (vs : List Value) {w : World} (o : Nat), RepQ w q B M N k s → M ≤ g → (∀ b, q b → b ≠ g) → RepQ (setRun w g o vs) q B M N k s
  | [], _, _, h, _, _ => h
  | v :: vs, _, o, h, hg, hq => RepQ.setRunFar vs (o + 1) (h.setFar hg hq) hg hq
theorem Stp0.setRun {B M g : Nat} : ∀ (vs : List Value) {w : World} (o : Nat), B ≤ g → Stp0 B M w (setRun w g o vs)
  | [], _, _, _ => (Stp.refl _ _ _).zero
  | v :: vs, _, o, hg => (Stp0.set_ hg).trans (Stp0.setRun vs (o + 1) hg)
theorem fO_put {f : Lit → Option Value} {s : St} (h : fO f s) (u : ByteArray) (x : Int) : fO (setM f (.string u.data.toList) (some (.int .i64 x))) { s with own := upd s.own u.toList (some x) } := fun y => by
  show setM _ _ _ _ = (upd s.own u.toList (some x) y.toList).map (Value.int .i64 ·)
  unfold upd
  by_cases he : y.toList = u.toList
  · rw [lit_str.2 he.symm, setM_same, if_pos he]; rfl
  · rw [setM_other _ (fun e => he (lit_str.1 e).symm), if_neg he]; exact h y
theorem fO_none {f : Lit → Option Value} {s : St} (h : fO f s) (u : ByteArray) : fO (setM f (.string u.data.toList) none) { s with own := upd s.own u.toList none } := fun y => by
  show setM _ _ _ _ = (upd s.own u.toList none y.toList).map (Value.int .i64 ·)
  unfold upd
  by_cases he : y.toList = u.toList
  · rw [lit_str.2 he.symm, setM_same, if_pos he]; rfl
  · rw [setM_other _ (fun e => he (lit_str.1 e).symm), if_neg he]; exact h y
set_option maxHeartbeats 16000000 in
theorem changed_5 (v : Sv) (sb : Sb) (at_ acc sub val : Int) (num name : ByteArray) (B M NN : Nat) (k : Bl) (s : St) (w : World) (h : Rep w B M NN k s) (hsr : SRP w (fun b => b ≠ k.p) v sb) (ws : (Lit.int .i64 sub).wf = true) (hnm : num.size ≤ maxLen) (hNN : NN ≤ 100000) (hln : sb.nums.length ≤ NN) (hlp : sb.prods.length ≤ NN) :
    Calls Try.prog 101 #[.pointer (some ⟨k.p, 0, none⟩), .agg #[.int .i64 v.id, .int .i64 v.acc, .int .i64 v.since, .string v.plan, .slice v.An v.nn v.cn, .slice v.Ap v.np v.cp, .bool v.susp, .bool v.fam], .agg #[.int .i64 at_, .int .i64 5, .int .i64 acc, .int .i64 sub, .string num, .string name, .int .i64 val]] w fun r w' => (∃ v' : Sv, r = .returned v'.val ∧ SRP w' (fun b => b ≠ k.p) v' (chgS sb ⟨at_, 5, acc, sub, num, name, val⟩)) ∧ Rep w' B M (NN + 1) k { s with own := upd s.own num.toList (some sub) } ∧ Stp B M w w' ∧ Keeps (fun _ => True) w w' := by
  have hBw : B ≤ w.heap.size := by have := h.lo; have := h.hi; have := h.m; omega
  have hmx : NN + 4 < maxLen := by unfold maxLen; omega
  have HR := Lib.hid h
  have HS0 := Lib.hid hsr
  have HR0 := Lib.hid h
  have HSR := Lib.hid (famS.lt hsr)
  have hnn := hsr.1.n.len
  have hpp := hsr.1.p.len
  clear h hsr
  go_enter Try.func101, Try.ntmps101
  go_upto_region 1 with (fail)
  obtain ⟨W, hW, hbW, hzW, f1, f2, f3, ff1, ff3⟩ := box3 w #[.int .i64 v.id, .int .i64 v.acc, .int .i64 v.since, .string v.plan, .slice v.An v.nn v.cn, .slice v.Ap v.np v.cp, .bool v.susp, .bool v.fam] #[.int .i64 at_, .int .i64 5, .int .i64 acc, .int .i64 sub, .string num, .string name, .int .i64 val] #[.int .i64 0, .int .i64 0, .int .i64 0, .string ⟨#[]⟩, .slice none 0 0, .slice none 0 0, .bool false, .bool false] 51 36 51
  rw [← hW]
  have va0 := f1 0 _ rfl
  have va1 := f1 1 _ rfl
  have va2 := f1 2 _ rfl
  have va3 := f1 3 _ rfl
  have va4 := f1 4 _ rfl
  have va5 := f1 5 _ rfl
  have va6 := f1 6 _ rfl
  have va7 := f1 7 _ rfl
  have qb0 := f2 0 _ rfl
  have qb1 := f2 1 _ rfl
  have qb2 := f2 2 _ rfl
  have qb3 := f2 3 _ rfl
  have qb4 := f2 4 _ rfl
  have qb5 := f2 5 _ rfl
  have qb6 := f2 6 _ rfl
  have rc0 := f3 0 _ rfl
  have rc1 := f3 1 _ rfl
  have rc2 := f3 2 _ rfl
  have rc3 := f3 3 _ rfl
  have rc4 := f3 4 _ rfl
  have rc5 := f3 5 _ rfl
  have rc6 := f3 6 _ rfl
  have rc7 := f3 7 _ rfl
  clear hW f1 f2 f3
  have HT := Lib.hid (Stp.below (M := M) hbW hBw)
  have hpw : k.p < w.heap.size := Nat.lt_of_lt_of_le HR.out.hi.1 HR.out.m
  have hpW : k.p < W.heap.size := by omega
  have hgW : w.heap.size + 1 < W.heap.size := by omega
  replace HR := Lib.hid (HR.out.lt.below hbW)
  replace HSR := Lib.hid (famS.keep HSR.out (Keeps.ofBelow hbW))
  have c3 := HR.out.c3
  obtain ⟨fo, hMO, hFO⟩ := HR.out.own
  have HMO := Lib.hid hMO
  clear hMO
  go_upto_region 3 with (fail)
  refine wp_region_held_drew (S := fun w' => Keeps (fun _ => True) W w') (by kernel_rfl) (Keeps.ofBelow (Below.refl _ _).drew) (fun hHeld => ?_)
  refine tk 0 (v := ?_) ?_ ?_
  rotate_left
  · intro w' hSw; go_simp; (try with_reducible rfl)
  refine tk 1 (v := ?_) ?_ ?_
  rotate_left
  · intro w' hSw; go_simp; (try with_reducible rfl)
  refine tk 2 (v := ?_) ?_ ?_
  rotate_left
  · intro w' hSw; go_simp; (try with_reducible rfl)
  refine tk 3 (v := ?_) ?_ ?_
  rotate_left
  · intro w' hSw; have zc3 := (hSw.2 k.p 3 trivial hpW).trans c3; have ze4 := (hSw.2 (w.heap.size + 1) 4 trivial hgW).trans qb4; have ze3 := (hSw.2 (w.heap.size + 1) 3 trivial hgW).trans qb3; go_simp; (try with_reducible rfl)
  refine tk 4 (v := ?_) ?_ ?_
  rotate_left
  · intro w' hSw; go_simp; (try with_reducible rfl)
  refine tk 5 (v := ?_) ?_ ?_
  rotate_left
  · intro w' hSw; have zc3 := (hSw.2 k.p 3 trivial hpW).trans c3; have ze4 := (hSw.2 (w.heap.size + 1) 4 trivial hgW).trans qb4; have ze3 := (hSw.2 (w.heap.size + 1) 3 trivial hgW).trans qb3; go_simp; (try with_reducible rfl)
  refine tk 6 (v := ?_) ?_ ?_
  rotate_left
  · intro w' hSw; go_simp; (try with_reducible rfl)
  refine tk 7 (v := ?_) ?_ ?_
  rotate_left
  · intro w' hSw; have zc3 := (hSw.2 k.p 3 trivial hpW).trans c3; have ze4 := (hSw.2 (w.heap.size + 1) 4 trivial hgW).trans qb4; have ze3 := (hSw.2 (w.heap.size + 1) 3 trivial hgW).trans qb3; go_simp; (try with_reducible rfl)
  (try simp only [List.getElem_toArray, List.getElem_cons_succ, List.getElem_cons_zero, Act.put, List.setIfInBounds_toArray, List.set_cons_zero, List.set_cons_succ])
  refine wpAnyH_ready (rs := [8]) (by kernel_rfl) (by simp) ?_
  refine AllReadyH.cons rfl (fun K' hK => ?_) AllReadyH.nil
  rw [if_pos (by rfl)]
  refine op_put (.tmp 14) (.tmp 16) (.tmp 18) rfl keyS Try.underlying108 rfl HMO.out.drew (by omega) (.string num) (.int .i64 sub) (.string num.data.toList) rfl rfl (kS hnm) ?_
  intro w7 hm7 ht7
  refine hK.out _ _ (hHeld.trans (turned_keeps ht7)) (fun hHeld => ?_)
  clear hK K'
  (try simp only [List.getElem_toArray, List.getElem_cons_succ, List.getElem_cons_zero, Act.put, List.setIfInBounds_toArray, List.set_cons_zero, List.set_cons_succ])
  refine wpAnyH_done (by kernel_rfl) ?_ _
  (try simp only [List.getElem_toArray, List.getElem_cons_succ, List.getElem_cons_zero, Act.put, List.setIfInBounds_toArray, List.set_cons_zero, List.set_cons_succ])
  clear hHeld
  have hd := (Below.refl W.heap.size W).drew
  replace HT := Lib.hid (HT.out.trans (Stp.drew.trans (Stp.turn ht7 HR.out.lo.2.2.2.2.1 HR.out.hi.2.2.2.2.1)))
  replace HR := Lib.hid ((HR.out.below hd).turn_own ht7 _ hm7 (by omega) _ (fO_put hFO num sub))
  replace HSR := Lib.hid (famS.keep (famS.keep HSR.out (Keeps.ofBelow hd)) (turned_keeps ht7))
  have hcT : ∀ b j u, W.cell? ⟨b, j, none⟩ = some u → w7.cell? ⟨b, j, none⟩ = some u := fun b j u h => (turned_cell ht7 _).trans h
  have hfT : ∀ b j, W.frozen? ⟨b, j, none⟩ = false → w7.frozen? ⟨b, j, none⟩ = false := fun b j h => (turned_frozen ht7 _ _).trans h
  have hsz7 : W.heap.size ≤ w7.heap.size := ht7.grown.size
  have hkT : Keeps (fun _ => True) w w7 := (Keeps.ofBelow hbW).trans ((Keeps.ofBelow hd).trans (turned_keeps ht7))
  replace va0 := hcT _ _ _ va0
  replace va1 := hcT _ _ _ va1
  replace va2 := hcT _ _ _ va2
  replace va3 := hcT _ _ _ va3
  replace va4 := hcT _ _ _ va4
  replace va5 := hcT _ _ _ va5
  replace va6 := hcT _ _ _ va6
  replace va7 := hcT _ _ _ va7
  replace rc0 := hcT _ _ _ rc0
  replace rc1 := hcT _ _ _ rc1
  replace rc2 := hcT _ _ _ rc2
  replace rc3 := hcT _ _ _ rc3
  replace rc4 := hcT _ _ _ rc4
  replace rc5 := hcT _ _ _ rc5
  replace rc6 := hcT _ _ _ rc6
  replace rc7 := hcT _ _ _ rc7
  replace qb0 := hcT _ _ _ qb0
  replace qb1 := hcT _ _ _ qb1
  replace qb2 := hcT _ _ _ qb2
  replace qb3 := hcT _ _ _ qb3
  replace qb4 := hcT _ _ _ qb4
  replace qb5 := hcT _ _ _ qb5
  replace qb6 := hcT _ _ _ qb6
  replace ff1 := fun j => hfT _ _ (ff1 j)
  replace ff3 := fun j => hfT _ _ (ff3 j)
  clear hcT hfT ht7 hm7 hd hpW hgW HMO hFO c3
  have hrm : ((insS sb.nums num) : List ByteArray).length ≤ sb.nums.length + 1 := by exact Nat.le_of_eq (insS_len _ _)
  have hln9 : v.nn ≤ 900000 := by omega
  go_upto_region 22 with (go_at_call 116; go_must (refine (placeS_any v.An v.nn v.cn sb.nums num _ HSR.out.1.n HSR.out.1.n0 hln9).mono ?_; rintro r w5 ⟨v5, rfl, ho5, hb5⟩; obtain ⟨A6, c6, rfl, hn6, hs6⟩ := ho5.slN; have za0 := (hb5.cell (p := ⟨w.heap.size, 0, none⟩) (by show w.heap.size < w7.heap.size; omega)).trans va0; have za1 := (hb5.cell (p := ⟨w.heap.size, 1, none⟩) (by show w.heap.size < w7.heap.size; omega)).trans va1; have za2 := (hb5.cell (p := ⟨w.heap.size, 2, none⟩) (by show w.heap.size < w7.heap.size; omega)).trans va2; have za3 := (hb5.cell (p := ⟨w.heap.size, 3, none⟩) (by show w.heap.size < w7.heap.size; omega)).trans va3; have za4 := (hb5.cell (p := ⟨w.heap.size, 4, none⟩) (by show w.heap.size < w7.heap.size; omega)).trans va4; have za5 := (hb5.cell (p := ⟨w.heap.size, 5, none⟩) (by show w.heap.size < w7.heap.size; omega)).trans va5; have za6 := (hb5.cell (p := ⟨w.heap.size, 6, none⟩) (by show w.heap.size < w7.heap.size; omega)).trans va6; have za7 := (hb5.cell (p := ⟨w.heap.size, 7, none⟩) (by show w.heap.size < w7.heap.size; omega)).trans va7; have zr0 := (hb5.cell (p := ⟨w.heap.size + 1 + 1, 0, none⟩) (by show w.heap.size + 1 + 1 < w7.heap.size; omega)).trans rc0; have zr1 := (hb5.cell (p := ⟨w.heap.size + 1 + 1, 1, none⟩) (by show w.heap.size + 1 + 1 < w7.heap.size; omega)).trans rc1; have zr2 := (hb5.cell (p := ⟨w.heap.size + 1 + 1, 2, none⟩) (by show w.heap.size + 1 + 1 < w7.heap.size; omega)).trans rc2; have zr3 := (hb5.cell (p := ⟨w.heap.size + 1 + 1, 3, none⟩) (by show w.heap.size + 1 + 1 < w7.heap.size; omega)).trans rc3; have zr4 := (hb5.cell (p := ⟨w.heap.size + 1 + 1, 4, none⟩) (by show w.heap.size + 1 + 1 < w7.heap.size; omega)).trans rc4; have zr5 := (hb5.cell (p := ⟨w.heap.size + 1 + 1, 5, none⟩) (by show w.heap.size + 1 + 1 < w7.heap.size; omega)).trans rc5; have zr6 := (hb5.cell (p := ⟨w.heap.size + 1 + 1, 6, none⟩) (by show w.heap.size + 1 + 1 < w7.heap.size; omega)).trans rc6; have zr7 := (hb5.cell (p := ⟨w.heap.size + 1 + 1, 7, none⟩) (by show w.heap.size + 1 + 1 < w7.heap.size; omega)).trans rc7; have zf1 : ∀ j, w5.frozen? ⟨w.heap.size, j, none⟩ = false := fun j => (hb5.frozen (p := ⟨w.heap.size, j, none⟩) (by show w.heap.size < w7.heap.size; omega)).trans (ff1 j); have zf3 : ∀ j, w5.frozen? ⟨w.heap.size + 1 + 1, j, none⟩ = false := fun j => (hb5.frozen (p := ⟨w.heap.size + 1 + 1, j, none⟩) (by show w.heap.size + 1 + 1 < w7.heap.size; omega)).trans (ff3 j); have HK6 := Lib.hid (And.intro hn6 (And.intro hs6 ho5.okA)); have HB5 := Lib.hid hb5; clear hn6 hs6 ho5 hb5))
  obtain ⟨X, hX, hnX, hfarX, hfrX, hblX, hszX⟩ := set1 w.heap.size 4 (u := .slice A6 (insS sb.nums num).length c6) za4
  rw [← hX]
  have va0 := (hfarX w.heap.size 0 (by omega)).trans za0
  have rc0 := (hfarX (w.heap.size + 1 + 1) 0 (by omega)).trans zr0
  have va1 := (hfarX w.heap.size 1 (by omega)).trans za1
  have rc1 := (hfarX (w.heap.size + 1 + 1) 1 (by omega)).trans zr1
  have va2 := (hfarX w.heap.size 2 (by omega)).trans za2
  have rc2 := (hfarX (w.heap.size + 1 + 1) 2 (by omega)).trans zr2
  have va3 := (hfarX w.heap.size 3 (by omega)).trans za3
  have rc3 := (hfarX (w.heap.size + 1 + 1) 3 (by omega)).trans zr3
  have rc4 := (hfarX (w.heap.size + 1 + 1) 4 (by omega)).trans zr4
  have va5 := (hfarX w.heap.size 5 (by omega)).trans za5
  have rc5 := (hfarX (w.heap.size + 1 + 1) 5 (by omega)).trans zr5
  have va6 := (hfarX w.heap.size 6 (by omega)).trans za6
  have rc6 := (hfarX (w.heap.size + 1 + 1) 6 (by omega)).trans zr6
  have va7 := (hfarX w.heap.size 7 (by omega)).trans za7
  have rc7 := (hfarX (w.heap.size + 1 + 1) 7 (by omega)).trans zr7
  have va4 := hnX
  have ffX : ∀ j, X.frozen? ⟨w.heap.size + 1 + 1, j, none⟩ = false := fun j => (hfrX _ _).trans (zf3 j)
  have hs5 := HB5.out.size
  have hgX : w.heap.size + 1 + 1 < X.heap.size := by omega
  clear za0 zr0 za1 zr1 za2 zr2 za3 zr3 za4 zr4 za5 zr5 za6 zr6 za7 zr7 zf1 zf3 ff1 ff3
  have HXE := Lib.hid hX
  clear hX hfarX hfrX hnX hblX
  go_wp2_with fail
  have hold := eight rc0 rc1 rc2 rc3 rc4 rc5 rc6 rc7
  have hr := setRun_is (vs := [.int .i64 v.id, .int .i64 v.acc, .int .i64 v.since, .string v.plan, .slice A6 (insS sb.nums num).length c6, .slice v.Ap v.np v.cp, .bool v.susp, .bool v.fam]) hold (Nat.le_refl _)
  refine bodyPost_ret (results_cells rfl _ _ (w.heap.size + 1 + 1) ⟨[.int .i64 v.id, .int .i64 v.acc, .int .i64 v.since, .string v.plan, .slice A6 (insS sb.nums num).length c6, .slice v.Ap v.np v.cp, .bool v.susp, .bool v.fam]⟩ _ rfl hr rfl rfl rfl) rfl ?_
  have hX := HXE.out
  have hkX : Keeps (fun b => b ≠ w.heap.size) w5 X := by rw [hX]; exact Keeps.ofSet fun b hb => hb
  have hkE : Keeps (fun b => b ≠ w.heap.size + 1 + 1) X (setRun X (w.heap.size + 1 + 1) 0 [.int .i64 v.id, .int .i64 v.acc, .int .i64 v.since, .string v.plan, .slice A6 (insS sb.nums num).length c6, .slice v.Ap v.np v.cp, .bool v.susp, .bool v.fam]) := setRun_keeps _ _ _ fun b hb => hb
  have hsE := famS.keep (p := fun b => b ≠ k.p ∧ b < w.heap.size) (famS.keep (famS.keep HSR.out (Keeps.ofBelow HB5.out)) (kless hkX fun b hb => Nat.ne_of_lt hb.2)) (kless hkE fun b hb => by have := hb.2; show b ≠ _; omega)
  have hnE := (HK6.out.2.1.keepP HK6.out.2.2 (kless hkX fun b hb => by have : w7.heap.size ≤ b := hb; show b ≠ _; omega)).keepP HK6.out.2.2 (kless hkE fun b hb => by have : w7.heap.size ≤ b := hb; show b ≠ _; omega)
  have hkN : ∀ b, w7.heap.size ≤ b → b ≠ k.p := fun b hb => by omega
  have hrep := ((HR.out.below HB5.out).setFar (g := w.heap.size) (o := 4) (u := .slice A6 (insS sb.nums num).length c6) (by have := HR0.out.m; omega) (fun b hb => Nat.ne_of_lt hb.2))
  rw [← hX] at hrep
  have hrepE := (RepQ.setRunFar [.int .i64 v.id, .int .i64 v.acc, .int .i64 v.since, .string v.plan, .slice A6 (insS sb.nums num).length c6, .slice v.Ap v.np v.cp, .bool v.susp, .bool v.fam] (g := w.heap.size + 1 + 1) 0 hrep (by have := HR0.out.m; omega) (fun b hb => by have := hb.2; omega)).monoQ (q' := fun b => b ≠ k.p) (fun b hb => hb.1) (fun b hb => hb)
  have hst := (Stp.below (M := M) (B := B) HB5.out (by have := HT.out.1.size; omega)).zero
  have hst2 : Stp0 B M w5 X := by rw [hX]; exact Stp0.set_ hBw
  have hst3 := Stp0.setRun (B := B) (M := M) [.int .i64 v.id, .int .i64 v.acc, .int .i64 v.since, .string v.plan, .slice A6 (insS sb.nums num).length c6, .slice v.Ap v.np v.cp, .bool v.susp, .bool v.fam] (w := X) (g := w.heap.size + 1 + 1) 0 (by omega)
  exact ⟨⟨{ v with An := A6, nn := (insS sb.nums num).length, cn := c6 }, rfl, ⟨⟨hsE.1.id, hsE.1.acc, hsE.1.since, hsE.1.plan, HK6.out.1, hnE, hsE.1.p0, hsE.1.p, hsE.1.susp, hsE.1.fam⟩, HK6.out.2.2.mono hkN, hsE.2.2.mono fun b hb => hb.1⟩⟩, hrepE.mono (by omega), ⟨(HT.out.zero.trans (hst.trans (hst2.trans hst3))).1, (HT.out.zero.trans (hst.trans (hst2.trans hst3))).2, ⟨Nat.le_trans hkT.1 (Nat.le_trans HB5.out.size (Nat.le_trans hkX.1 hkE.1)), fun b o _ hl => (hkE.2 b o (by show b ≠ _; omega) (by omega)).trans ((hkX.2 b o (Nat.ne_of_lt hl) (by omega)).trans ((HB5.out.cell (p := ⟨b, o, none⟩) (by show b < _; omega)).trans (hkT.2 b o trivial hl)))⟩⟩, ⟨Nat.le_trans hkT.1 (Nat.le_trans HB5.out.size (Nat.le_trans hkX.1 hkE.1)), fun b o _ hl => (hkE.2 b o (by show b ≠ _; omega) (by omega)).trans ((hkX.2 b o (Nat.ne_of_lt hl) (by omega)).trans ((HB5.out.cell (p := ⟨b, o, none⟩) (by show b < _; omega)).trans (hkT.2 b o trivial hl)))⟩⟩
set_option maxHeartbeats 16000000 in
theorem changed_6 (v : Sv) (sb : Sb) (at_ acc sub val : Int) (num name : ByteArray) (B M NN : Nat) (k : Bl) (s : St) (w : World) (h : Rep w B M NN k s) (hsr : SRP w (fun b => b ≠ k.p) v sb) (ws : (Lit.int .i64 sub).wf = true) (hnm : num.size ≤ maxLen) (hNN : NN ≤ 100000) (hln : sb.nums.length ≤ NN) (hlp : sb.prods.length ≤ NN) :
    Calls Try.prog 101 #[.pointer (some ⟨k.p, 0, none⟩), .agg #[.int .i64 v.id, .int .i64 v.acc, .int .i64 v.since, .string v.plan, .slice v.An v.nn v.cn, .slice v.Ap v.np v.cp, .bool v.susp, .bool v.fam], .agg #[.int .i64 at_, .int .i64 6, .int .i64 acc, .int .i64 sub, .string num, .string name, .int .i64 val]] w fun r w' => (∃ v' : Sv, r = .returned v'.val ∧ SRP w' (fun b => b ≠ k.p) v' (chgS sb ⟨at_, 6, acc, sub, num, name, val⟩)) ∧ Rep w' B M (NN + 1) k { s with own := upd s.own num.toList none } ∧ Stp B M w w' ∧ Keeps (fun _ => True) w w' := by
  have hBw : B ≤ w.heap.size := by have := h.lo; have := h.hi; have := h.m; omega
  have hmx : NN + 4 < maxLen := by unfold maxLen; omega
  have HR := Lib.hid h
  have HS0 := Lib.hid hsr
  have HR0 := Lib.hid h
  have HSR := Lib.hid (famS.lt hsr)
  have hnn := hsr.1.n.len
  have hpp := hsr.1.p.len
  clear h hsr
  go_enter Try.func101, Try.ntmps101
  go_upto_region 1 with (fail)
  obtain ⟨W, hW, hbW, hzW, f1, f2, f3, ff1, ff3⟩ := box3 w #[.int .i64 v.id, .int .i64 v.acc, .int .i64 v.since, .string v.plan, .slice v.An v.nn v.cn, .slice v.Ap v.np v.cp, .bool v.susp, .bool v.fam] #[.int .i64 at_, .int .i64 6, .int .i64 acc, .int .i64 sub, .string num, .string name, .int .i64 val] #[.int .i64 0, .int .i64 0, .int .i64 0, .string ⟨#[]⟩, .slice none 0 0, .slice none 0 0, .bool false, .bool false] 51 36 51
  rw [← hW]
  have va0 := f1 0 _ rfl
  have va1 := f1 1 _ rfl
  have va2 := f1 2 _ rfl
  have va3 := f1 3 _ rfl
  have va4 := f1 4 _ rfl
  have va5 := f1 5 _ rfl
  have va6 := f1 6 _ rfl
  have va7 := f1 7 _ rfl
  have qb0 := f2 0 _ rfl
  have qb1 := f2 1 _ rfl
  have qb2 := f2 2 _ rfl
  have qb3 := f2 3 _ rfl
  have qb4 := f2 4 _ rfl
  have qb5 := f2 5 _ rfl
  have qb6 := f2 6 _ rfl
  have rc0 := f3 0 _ rfl
  have rc1 := f3 1 _ rfl
  have rc2 := f3 2 _ rfl
  have rc3 := f3 3 _ rfl
  have rc4 := f3 4 _ rfl
  have rc5 := f3 5 _ rfl
  have rc6 := f3 6 _ rfl
  have rc7 := f3 7 _ rfl
  clear hW f1 f2 f3
  have HT := Lib.hid (Stp.below (M := M) hbW hBw)
  have hpw : k.p < w.heap.size := Nat.lt_of_lt_of_le HR.out.hi.1 HR.out.m
  have hpW : k.p < W.heap.size := by omega
  have hgW : w.heap.size + 1 < W.heap.size := by omega
  replace HR := Lib.hid (HR.out.lt.below hbW)
  replace HSR := Lib.hid (famS.keep HSR.out (Keeps.ofBelow hbW))
  have c3 := HR.out.c3
  obtain ⟨fo, hMO, hFO⟩ := HR.out.own
  have HMO := Lib.hid hMO
  clear hMO
  go_upto_region 6 with (fail)
  refine wp_region_held_drew (S := fun w' => Keeps (fun _ => True) W w') (by kernel_rfl) (Keeps.ofBelow (Below.refl _ _).drew) (fun hHeld => ?_)
  refine tk 0 (v := ?_) ?_ ?_
  rotate_left
  · intro w' hSw; go_simp; (try with_reducible rfl)
  refine tk 1 (v := ?_) ?_ ?_
  rotate_left
  · intro w' hSw; go_simp; (try with_reducible rfl)
  refine tk 2 (v := ?_) ?_ ?_
  rotate_left
  · intro w' hSw; go_simp; (try with_reducible rfl)
  refine tk 3 (v := ?_) ?_ ?_
  rotate_left
  · intro w' hSw; have zc3 := (hSw.2 k.p 3 trivial hpW).trans c3; have ze4 := (hSw.2 (w.heap.size + 1) 4 trivial hgW).trans qb4; go_simp; (try with_reducible rfl)
  refine tk 4 (v := ?_) ?_ ?_
  rotate_left
  · intro w' hSw; go_simp; (try with_reducible rfl)
  refine tk 5 (v := ?_) ?_ ?_
  rotate_left
  · intro w' hSw; have zc3 := (hSw.2 k.p 3 trivial hpW).trans c3; have ze4 := (hSw.2 (w.heap.size + 1) 4 trivial hgW).trans qb4; go_simp; (try with_reducible rfl)
  (try simp only [List.getElem_toArray, List.getElem_cons_succ, List.getElem_cons_zero, Act.put, List.setIfInBounds_toArray, List.set_cons_zero, List.set_cons_succ])
  refine wpAnyH_ready (rs := [6]) (by kernel_rfl) (by simp) ?_
  refine AllReadyH.cons rfl (fun K' hK => ?_) AllReadyH.nil
  rw [if_pos (by rfl)]
  refine op_del (.tmp 30) (.tmp 32) rfl keyS Try.underlying108 rfl HMO.out.drew (.string num) (.string num.data.toList) rfl (kS hnm) ?_
  intro w7 hm7 ht7
  refine hK.out _ _ (hHeld.trans (turned_keeps ht7)) (fun hHeld => ?_)
  clear hK K'
  (try simp only [List.getElem_toArray, List.getElem_cons_succ, List.getElem_cons_zero, Act.put, List.setIfInBounds_toArray, List.set_cons_zero, List.set_cons_succ])
  refine wpAnyH_done (by kernel_rfl) ?_ _
  (try simp only [List.getElem_toArray, List.getElem_cons_succ, List.getElem_cons_zero, Act.put, List.setIfInBounds_toArray, List.set_cons_zero, List.set_cons_succ])
  clear hHeld
  have hd := (Below.refl W.heap.size W).drew
  replace HT := Lib.hid (HT.out.trans (Stp.drew.trans (Stp.turn ht7 HR.out.lo.2.2.2.2.1 HR.out.hi.2.2.2.2.1)))
  replace HR := Lib.hid ((HR.out.below hd).turn_own ht7 _ hm7 (by omega) _ (fO_none hFO num))
  replace HSR := Lib.hid (famS.keep (famS.keep HSR.out (Keeps.ofBelow hd)) (turned_keeps ht7))
  have hcT : ∀ b j u, W.cell? ⟨b, j, none⟩ = some u → w7.cell? ⟨b, j, none⟩ = some u := fun b j u h => (turned_cell ht7 _).trans h
  have hfT : ∀ b j, W.frozen? ⟨b, j, none⟩ = false → w7.frozen? ⟨b, j, none⟩ = false := fun b j h => (turned_frozen ht7 _ _).trans h
  have hsz7 : W.heap.size ≤ w7.heap.size := ht7.grown.size
  have hkT : Keeps (fun _ => True) w w7 := (Keeps.ofBelow hbW).trans ((Keeps.ofBelow hd).trans (turned_keeps ht7))
  replace va0 := hcT _ _ _ va0
  replace va1 := hcT _ _ _ va1
  replace va2 := hcT _ _ _ va2
  replace va3 := hcT _ _ _ va3
  replace va4 := hcT _ _ _ va4
  replace va5 := hcT _ _ _ va5
  replace va6 := hcT _ _ _ va6
  replace va7 := hcT _ _ _ va7
  replace rc0 := hcT _ _ _ rc0
  replace rc1 := hcT _ _ _ rc1
  replace rc2 := hcT _ _ _ rc2
  replace rc3 := hcT _ _ _ rc3
  replace rc4 := hcT _ _ _ rc4
  replace rc5 := hcT _ _ _ rc5
  replace rc6 := hcT _ _ _ rc6
  replace rc7 := hcT _ _ _ rc7
  replace qb0 := hcT _ _ _ qb0
  replace qb1 := hcT _ _ _ qb1
  replace qb2 := hcT _ _ _ qb2
  replace qb3 := hcT _ _ _ qb3
  replace qb4 := hcT _ _ _ qb4
  replace qb5 := hcT _ _ _ qb5
  replace qb6 := hcT _ _ _ qb6
  replace ff1 := fun j => hfT _ _ (ff1 j)
  replace ff3 := fun j => hfT _ _ (ff3 j)
  clear hcT hfT ht7 hm7 hd hpW hgW HMO hFO c3
  have hrm : ((remS sb.nums num) : List ByteArray).length ≤ sb.nums.length + 1 := by unfold remS; exact Nat.le_trans (List.length_filter_le _ _) (Nat.le_succ _)
  have hln9 : v.nn ≤ 900000 := by omega
  go_upto_region 22 with (go_at_call 117; go_must (refine (remove_any v.An v.nn v.cn sb.nums num _ HSR.out.1.n hln9).mono ?_; rintro r w5 ⟨v5, rfl, ho5, hb5⟩; obtain ⟨A6, c6, rfl, hn6, hs6⟩ := ho5.slN; have za0 := (hb5.cell (p := ⟨w.heap.size, 0, none⟩) (by show w.heap.size < w7.heap.size; omega)).trans va0; have za1 := (hb5.cell (p := ⟨w.heap.size, 1, none⟩) (by show w.heap.size < w7.heap.size; omega)).trans va1; have za2 := (hb5.cell (p := ⟨w.heap.size, 2, none⟩) (by show w.heap.size < w7.heap.size; omega)).trans va2; have za3 := (hb5.cell (p := ⟨w.heap.size, 3, none⟩) (by show w.heap.size < w7.heap.size; omega)).trans va3; have za4 := (hb5.cell (p := ⟨w.heap.size, 4, none⟩) (by show w.heap.size < w7.heap.size; omega)).trans va4; have za5 := (hb5.cell (p := ⟨w.heap.size, 5, none⟩) (by show w.heap.size < w7.heap.size; omega)).trans va5; have za6 := (hb5.cell (p := ⟨w.heap.size, 6, none⟩) (by show w.heap.size < w7.heap.size; omega)).trans va6; have za7 := (hb5.cell (p := ⟨w.heap.size, 7, none⟩) (by show w.heap.size < w7.heap.size; omega)).trans va7; have zr0 := (hb5.cell (p := ⟨w.heap.size + 1 + 1, 0, none⟩) (by show w.heap.size + 1 + 1 < w7.heap.size; omega)).trans rc0; have zr1 := (hb5.cell (p := ⟨w.heap.size + 1 + 1, 1, none⟩) (by show w.heap.size + 1 + 1 < w7.heap.size; omega)).trans rc1; have zr2 := (hb5.cell (p := ⟨w.heap.size + 1 + 1, 2, none⟩) (by show w.heap.size + 1 + 1 < w7.heap.size; omega)).trans rc2; have zr3 := (hb5.cell (p := ⟨w.heap.size + 1 + 1, 3, none⟩) (by show w.heap.size + 1 + 1 < w7.heap.size; omega)).trans rc3; have zr4 := (hb5.cell (p := ⟨w.heap.size + 1 + 1, 4, none⟩) (by show w.heap.size + 1 + 1 < w7.heap.size; omega)).trans rc4; have zr5 := (hb5.cell (p := ⟨w.heap.size + 1 + 1, 5, none⟩) (by show w.heap.size + 1 + 1 < w7.heap.size; omega)).trans rc5; have zr6 := (hb5.cell (p := ⟨w.heap.size + 1 + 1, 6, none⟩) (by show w.heap.size + 1 + 1 < w7.heap.size; omega)).trans rc6; have zr7 := (hb5.cell (p := ⟨w.heap.size + 1 + 1, 7, none⟩) (by show w.heap.size + 1 + 1 < w7.heap.size; omega)).trans rc7; have zf1 : ∀ j, w5.frozen? ⟨w.heap.size, j, none⟩ = false := fun j => (hb5.frozen (p := ⟨w.heap.size, j, none⟩) (by show w.heap.size < w7.heap.size; omega)).trans (ff1 j); have zf3 : ∀ j, w5.frozen? ⟨w.heap.size + 1 + 1, j, none⟩ = false := fun j => (hb5.frozen (p := ⟨w.heap.size + 1 + 1, j, none⟩) (by show w.heap.size + 1 + 1 < w7.heap.size; omega)).trans (ff3 j); have HK6 := Lib.hid (And.intro hn6 (And.intro hs6 ho5.okA)); have HB5 := Lib.hid hb5; clear hn6 hs6 ho5 hb5))
  obtain ⟨X, hX, hnX, hfarX, hfrX, hblX, hszX⟩ := set1 w.heap.size 4 (u := .slice A6 (remS sb.nums num).length c6) za4
  rw [← hX]
  have va0 := (hfarX w.heap.size 0 (by omega)).trans za0
  have rc0 := (hfarX (w.heap.size + 1 + 1) 0 (by omega)).trans zr0
  have va1 := (hfarX w.heap.size 1 (by omega)).trans za1
  have rc1 := (hfarX (w.heap.size + 1 + 1) 1 (by omega)).trans zr1
  have va2 := (hfarX w.heap.size 2 (by omega)).trans za2
  have rc2 := (hfarX (w.heap.size + 1 + 1) 2 (by omega)).trans zr2
  have va3 := (hfarX w.heap.size 3 (by omega)).trans za3
  have rc3 := (hfarX (w.heap.size + 1 + 1) 3 (by omega)).trans zr3
  have rc4 := (hfarX (w.heap.size + 1 + 1) 4 (by omega)).trans zr4
  have va5 := (hfarX w.heap.size 5 (by omega)).trans za5
  have rc5 := (hfarX (w.heap.size + 1 + 1) 5 (by omega)).trans zr5
  have va6 := (hfarX w.heap.size 6 (by omega)).trans za6
  have rc6 := (hfarX (w.heap.size + 1 + 1) 6 (by omega)).trans zr6
  have va7 := (hfarX w.heap.size 7 (by omega)).trans za7
  have rc7 := (hfarX (w.heap.size + 1 + 1) 7 (by omega)).trans zr7
  have va4 := hnX
  have ffX : ∀ j, X.frozen? ⟨w.heap.size + 1 + 1, j, none⟩ = false := fun j => (hfrX _ _).trans (zf3 j)
  have hs5 := HB5.out.size
  have hgX : w.heap.size + 1 + 1 < X.heap.size := by omega
  clear za0 zr0 za1 zr1 za2 zr2 za3 zr3 za4 zr4 za5 zr5 za6 zr6 za7 zr7 zf1 zf3 ff1 ff3
  have HXE := Lib.hid hX
  clear hX hfarX hfrX hnX hblX
  go_wp2_with fail
  have hold := eight rc0 rc1 rc2 rc3 rc4 rc5 rc6 rc7
  have hr := setRun_is (vs := [.int .i64 v.id, .int .i64 v.acc, .int .i64 v.since, .string v.plan, .slice A6 (remS sb.nums num).length c6, .slice v.Ap v.np v.cp, .bool v.susp, .bool v.fam]) hold (Nat.le_refl _)
  refine bodyPost_ret (results_cells rfl _ _ (w.heap.size + 1 + 1) ⟨[.int .i64 v.id, .int .i64 v.acc, .int .i64 v.since, .string v.plan, .slice A6 (remS sb.nums num).length c6, .slice v.Ap v.np v.cp, .bool v.susp, .bool v.fam]⟩ _ rfl hr rfl rfl rfl) rfl ?_
  have hX := HXE.out
  have hkX : Keeps (fun b => b ≠ w.heap.size) w5 X := by rw [hX]; exact Keeps.ofSet fun b hb => hb
  have hkE : Keeps (fun b => b ≠ w.heap.size + 1 + 1) X (setRun X (w.heap.size + 1 + 1) 0 [.int .i64 v.id, .int .i64 v.acc, .int .i64 v.since, .string v.plan, .slice A6 (remS sb.nums num).length c6, .slice v.Ap v.np v.cp, .bool v.susp, .bool v.fam]) := setRun_keeps _ _ _ fun b hb => hb
  have hsE := famS.keep (p := fun b => b ≠ k.p ∧ b < w.heap.size) (famS.keep (famS.keep HSR.out (Keeps.ofBelow HB5.out)) (kless hkX fun b hb => Nat.ne_of_lt hb.2)) (kless hkE fun b hb => by have := hb.2; show b ≠ _; omega)
  have hnE := (HK6.out.2.1.keepP HK6.out.2.2 (kless hkX fun b hb => by have : w7.heap.size ≤ b := hb; show b ≠ _; omega)).keepP HK6.out.2.2 (kless hkE fun b hb => by have : w7.heap.size ≤ b := hb; show b ≠ _; omega)
  have hkN : ∀ b, w7.heap.size ≤ b → b ≠ k.p := fun b hb => by omega
  have hrep := ((HR.out.below HB5.out).setFar (g := w.heap.size) (o := 4) (u := .slice A6 (remS sb.nums num).length c6) (by have := HR0.out.m; omega) (fun b hb => Nat.ne_of_lt hb.2))
  rw [← hX] at hrep
  have hrepE := (RepQ.setRunFar [.int .i64 v.id, .int .i64 v.acc, .int .i64 v.since, .string v.plan, .slice A6 (remS sb.nums num).length c6, .slice v.Ap v.np v.cp, .bool v.susp, .bool v.fam] (g := w.heap.size + 1 + 1) 0 hrep (by have := HR0.out.m; omega) (fun b hb => by have := hb.2; omega)).monoQ (q' := fun b => b ≠ k.p) (fun b hb => hb.1) (fun b hb => hb)
  have hst := (Stp.below (M := M) (B := B) HB5.out (by have := HT.out.1.size; omega)).zero
  have hst2 : Stp0 B M w5 X := by rw [hX]; exact Stp0.set_ hBw
  have hst3 := Stp0.setRun (B := B) (M := M) [.int .i64 v.id, .int .i64 v.acc, .int .i64 v.since, .string v.plan, .slice A6 (remS sb.nums num).length c6, .slice v.Ap v.np v.cp, .bool v.susp, .bool v.fam] (w := X) (g := w.heap.size + 1 + 1) 0 (by omega)
  exact ⟨⟨{ v with An := A6, nn := (remS sb.nums num).length, cn := c6 }, rfl, ⟨⟨hsE.1.id, hsE.1.acc, hsE.1.since, hsE.1.plan, HK6.out.1, hnE, hsE.1.p0, hsE.1.p, hsE.1.susp, hsE.1.fam⟩, HK6.out.2.2.mono hkN, hsE.2.2.mono fun b hb => hb.1⟩⟩, hrepE.mono (by omega), ⟨(HT.out.zero.trans (hst.trans (hst2.trans hst3))).1, (HT.out.zero.trans (hst.trans (hst2.trans hst3))).2, ⟨Nat.le_trans hkT.1 (Nat.le_trans HB5.out.size (Nat.le_trans hkX.1 hkE.1)), fun b o _ hl => (hkE.2 b o (by show b ≠ _; omega) (by omega)).trans ((hkX.2 b o (Nat.ne_of_lt hl) (by omega)).trans ((HB5.out.cell (p := ⟨b, o, none⟩) (by show b < _; omega)).trans (hkT.2 b o trivial hl)))⟩⟩, ⟨Nat.le_trans hkT.1 (Nat.le_trans HB5.out.size (Nat.le_trans hkX.1 hkE.1)), fun b o _ hl => (hkE.2 b o (by show b ≠ _; omega) (by omega)).trans ((hkX.2 b o (Nat.ne_of_lt hl) (by omega)).trans ((HB5.out.cell (p := ⟨b, o, none⟩) (by show b < _; omega)).trans (hkT.2 b o trivial hl)))⟩⟩
set_option maxHeartbeats 16000000 in
theorem changed_7 (v : Sv) (sb : Sb) (at_ acc sub val : Int) (num name : ByteArray) (B M NN : Nat) (k : Bl) (s : St) (w : World) (h : Rep w B M NN k s) (hsr : SRP w (fun b => b ≠ k.p) v sb) (ws : (Lit.int .i64 sub).wf = true) (hnm : num.size ≤ maxLen) (hNN : NN ≤ 100000) (hln : sb.nums.length ≤ NN) (hlp : sb.prods.length ≤ NN) :
    Calls Try.prog 101 #[.pointer (some ⟨k.p, 0, none⟩), .agg #[.int .i64 v.id, .int .i64 v.acc, .int .i64 v.since, .string v.plan, .slice v.An v.nn v.cn, .slice v.Ap v.np v.cp, .bool v.susp, .bool v.fam], .agg #[.int .i64 at_, .int .i64 7, .int .i64 acc, .int .i64 sub, .string num, .string name, .int .i64 val]] w fun r w' => (∃ v' : Sv, r = .returned v'.val ∧ SRP w' (fun b => b ≠ k.p) v' (chgS sb ⟨at_, 7, acc, sub, num, name, val⟩)) ∧ Rep w' B M (NN + 1) k { s with own := s.own } ∧ Stp B M w w' ∧ Keeps (fun _ => True) w w' := by
  have hBw : B ≤ w.heap.size := by have := h.lo; have := h.hi; have := h.m; omega
  have hmx : NN + 4 < maxLen := by unfold maxLen; omega
  have HR := Lib.hid h
  have HS0 := Lib.hid hsr
  have HR0 := Lib.hid h
  have HSR := Lib.hid (famS.lt hsr)
  have hnn := hsr.1.n.len
  have hpp := hsr.1.p.len
  clear h hsr
  go_enter Try.func101, Try.ntmps101
  go_upto_region 1 with (fail)
  obtain ⟨W, hW, hbW, hzW, f1, f2, f3, ff1, ff3⟩ := box3 w #[.int .i64 v.id, .int .i64 v.acc, .int .i64 v.since, .string v.plan, .slice v.An v.nn v.cn, .slice v.Ap v.np v.cp, .bool v.susp, .bool v.fam] #[.int .i64 at_, .int .i64 7, .int .i64 acc, .int .i64 sub, .string num, .string name, .int .i64 val] #[.int .i64 0, .int .i64 0, .int .i64 0, .string ⟨#[]⟩, .slice none 0 0, .slice none 0 0, .bool false, .bool false] 51 36 51
  rw [← hW]
  have va0 := f1 0 _ rfl
  have va1 := f1 1 _ rfl
  have va2 := f1 2 _ rfl
  have va3 := f1 3 _ rfl
  have va4 := f1 4 _ rfl
  have va5 := f1 5 _ rfl
  have va6 := f1 6 _ rfl
  have va7 := f1 7 _ rfl
  have qb0 := f2 0 _ rfl
  have qb1 := f2 1 _ rfl
  have qb2 := f2 2 _ rfl
  have qb3 := f2 3 _ rfl
  have qb4 := f2 4 _ rfl
  have qb5 := f2 5 _ rfl
  have qb6 := f2 6 _ rfl
  have rc0 := f3 0 _ rfl
  have rc1 := f3 1 _ rfl
  have rc2 := f3 2 _ rfl
  have rc3 := f3 3 _ rfl
  have rc4 := f3 4 _ rfl
  have rc5 := f3 5 _ rfl
  have rc6 := f3 6 _ rfl
  have rc7 := f3 7 _ rfl
  clear hW f1 f2 f3
  have HT := Lib.hid (Stp.below (M := M) hbW hBw)
  have hpw : k.p < w.heap.size := Nat.lt_of_lt_of_le HR.out.hi.1 HR.out.m
  have hpW : k.p < W.heap.size := by omega
  have hgW : w.heap.size + 1 < W.heap.size := by omega
  replace HR := Lib.hid (HR.out.lt.below hbW)
  replace HSR := Lib.hid (famS.keep HSR.out (Keeps.ofBelow hbW))
  go_upto_region 22 with (fail)
  obtain ⟨X, hX, hnX, hfarX, hfrX, hblX, hszX⟩ := set1 w.heap.size 3 (u := .string name) va3
  rw [← hX]
  replace va0 := (hfarX w.heap.size 0 (by omega)).trans va0
  replace rc0 := (hfarX (w.heap.size + 1 + 1) 0 (by omega)).trans rc0
  replace va1 := (hfarX w.heap.size 1 (by omega)).trans va1
  replace rc1 := (hfarX (w.heap.size + 1 + 1) 1 (by omega)).trans rc1
  replace va2 := (hfarX w.heap.size 2 (by omega)).trans va2
  replace rc2 := (hfarX (w.heap.size + 1 + 1) 2 (by omega)).trans rc2
  replace rc3 := (hfarX (w.heap.size + 1 + 1) 3 (by omega)).trans rc3
  replace va4 := (hfarX w.heap.size 4 (by omega)).trans va4
  replace rc4 := (hfarX (w.heap.size + 1 + 1) 4 (by omega)).trans rc4
  replace va5 := (hfarX w.heap.size 5 (by omega)).trans va5
  replace rc5 := (hfarX (w.heap.size + 1 + 1) 5 (by omega)).trans rc5
  replace va6 := (hfarX w.heap.size 6 (by omega)).trans va6
  replace rc6 := (hfarX (w.heap.size + 1 + 1) 6 (by omega)).trans rc6
  replace va7 := (hfarX w.heap.size 7 (by omega)).trans va7
  replace rc7 := (hfarX (w.heap.size + 1 + 1) 7 (by omega)).trans rc7
  replace va3 := hnX
  have hbX : Below w.heap.size w X := by rw [hX]; exact hbW.setCell (Nat.le_refl _) _
  have hgX : w.heap.size + 1 + 1 < X.heap.size := by omega
  have ffX : ∀ j, X.frozen? ⟨w.heap.size + 1 + 1, j, none⟩ = false := fun j => (hfrX _ _).trans (ff3 j)
  clear hX hnX hfarX hfrX hblX HR HT hbW
  go_wp2_with fail
  have hold := eight rc0 rc1 rc2 rc3 rc4 rc5 rc6 rc7
  have hr := setRun_is (vs := [.int .i64 v.id, .int .i64 v.acc, .int .i64 v.since, .string name, .slice v.An v.nn v.cn, .slice v.Ap v.np v.cp, .bool v.susp, .bool v.fam]) hold (Nat.le_refl _)
  refine bodyPost_ret (results_cells rfl _ _ (w.heap.size + 1 + 1) ⟨[.int .i64 v.id, .int .i64 v.acc, .int .i64 v.since, .string name, .slice v.An v.nn v.cn, .slice v.Ap v.np v.cp, .bool v.susp, .bool v.fam]⟩ _ rfl hr rfl rfl rfl) rfl ?_
  have hbE : Below w.heap.size w (setRun X (w.heap.size + 1 + 1) 0 [.int .i64 v.id, .int .i64 v.acc, .int .i64 v.since, .string name, .slice v.An v.nn v.cn, .slice v.Ap v.np v.cp, .bool v.susp, .bool v.fam]) := setRun_below _ _ _ hbX (by omega)
  have hs := famS.keep HS0.out (Keeps.ofBelow hbE)
  exact ⟨⟨{ v with plan := name }, rfl, ⟨⟨hs.1.id, hs.1.acc, hs.1.since, rfl, hs.1.n0, hs.1.n, hs.1.p0, hs.1.p, hs.1.susp, hs.1.fam⟩, hs.2⟩⟩, (HR0.out.below hbE).mono (Nat.le_succ _), Stp.below hbE hBw, Keeps.ofBelow hbE⟩
set_option maxHeartbeats 16000000 in
theorem changed_8 (v : Sv) (sb : Sb) (at_ acc sub val : Int) (num name : ByteArray) (B M NN : Nat) (k : Bl) (s : St) (w : World) (h : Rep w B M NN k s) (hsr : SRP w (fun b => b ≠ k.p) v sb) (ws : (Lit.int .i64 sub).wf = true) (hnm : num.size ≤ maxLen) (hNN : NN ≤ 100000) (hln : sb.nums.length ≤ NN) (hlp : sb.prods.length ≤ NN) :
    Calls Try.prog 101 #[.pointer (some ⟨k.p, 0, none⟩), .agg #[.int .i64 v.id, .int .i64 v.acc, .int .i64 v.since, .string v.plan, .slice v.An v.nn v.cn, .slice v.Ap v.np v.cp, .bool v.susp, .bool v.fam], .agg #[.int .i64 at_, .int .i64 8, .int .i64 acc, .int .i64 sub, .string num, .string name, .int .i64 val]] w fun r w' => (∃ v' : Sv, r = .returned v'.val ∧ SRP w' (fun b => b ≠ k.p) v' (chgS sb ⟨at_, 8, acc, sub, num, name, val⟩)) ∧ Rep w' B M (NN + 1) k { s with own := s.own } ∧ Stp B M w w' ∧ Keeps (fun _ => True) w w' := by
  have hBw : B ≤ w.heap.size := by have := h.lo; have := h.hi; have := h.m; omega
  have hmx : NN + 4 < maxLen := by unfold maxLen; omega
  have HR := Lib.hid h
  have HS0 := Lib.hid hsr
  have HR0 := Lib.hid h
  have HSR := Lib.hid (famS.lt hsr)
  have hnn := hsr.1.n.len
  have hpp := hsr.1.p.len
  clear h hsr
  go_enter Try.func101, Try.ntmps101
  go_upto_region 1 with (fail)
  obtain ⟨W, hW, hbW, hzW, f1, f2, f3, ff1, ff3⟩ := box3 w #[.int .i64 v.id, .int .i64 v.acc, .int .i64 v.since, .string v.plan, .slice v.An v.nn v.cn, .slice v.Ap v.np v.cp, .bool v.susp, .bool v.fam] #[.int .i64 at_, .int .i64 8, .int .i64 acc, .int .i64 sub, .string num, .string name, .int .i64 val] #[.int .i64 0, .int .i64 0, .int .i64 0, .string ⟨#[]⟩, .slice none 0 0, .slice none 0 0, .bool false, .bool false] 51 36 51
  rw [← hW]
  have va0 := f1 0 _ rfl
  have va1 := f1 1 _ rfl
  have va2 := f1 2 _ rfl
  have va3 := f1 3 _ rfl
  have va4 := f1 4 _ rfl
  have va5 := f1 5 _ rfl
  have va6 := f1 6 _ rfl
  have va7 := f1 7 _ rfl
  have qb0 := f2 0 _ rfl
  have qb1 := f2 1 _ rfl
  have qb2 := f2 2 _ rfl
  have qb3 := f2 3 _ rfl
  have qb4 := f2 4 _ rfl
  have qb5 := f2 5 _ rfl
  have qb6 := f2 6 _ rfl
  have rc0 := f3 0 _ rfl
  have rc1 := f3 1 _ rfl
  have rc2 := f3 2 _ rfl
  have rc3 := f3 3 _ rfl
  have rc4 := f3 4 _ rfl
  have rc5 := f3 5 _ rfl
  have rc6 := f3 6 _ rfl
  have rc7 := f3 7 _ rfl
  clear hW f1 f2 f3
  have HT := Lib.hid (Stp.below (M := M) hbW hBw)
  have hpw : k.p < w.heap.size := Nat.lt_of_lt_of_le HR.out.hi.1 HR.out.m
  have hpW : k.p < W.heap.size := by omega
  have hgW : w.heap.size + 1 < W.heap.size := by omega
  replace HR := Lib.hid (HR.out.lt.below hbW)
  replace HSR := Lib.hid (famS.keep HSR.out (Keeps.ofBelow hbW))
  have hkT : Keeps (fun _ => True) w W := Keeps.ofBelow hbW
  have hrm : ((insS sb.prods name) : List ByteArray).length ≤ sb.prods.length + 1 := by exact Nat.le_of_eq (insS_len _ _)
  have hln9 : v.np ≤ 900000 := by omega
  go_upto_region 22 with (go_at_call 116; go_must (refine (placeS_any v.Ap v.np v.cp sb.prods name _ HSR.out.1.p HSR.out.1.p0 hln9).mono ?_; rintro r w5 ⟨v5, rfl, ho5, hb5⟩; obtain ⟨A6, c6, rfl, hn6, hs6⟩ := ho5.slN; have za0 := (hb5.cell (p := ⟨w.heap.size, 0, none⟩) (by show w.heap.size < W.heap.size; omega)).trans va0; have za1 := (hb5.cell (p := ⟨w.heap.size, 1, none⟩) (by show w.heap.size < W.heap.size; omega)).trans va1; have za2 := (hb5.cell (p := ⟨w.heap.size, 2, none⟩) (by show w.heap.size < W.heap.size; omega)).trans va2; have za3 := (hb5.cell (p := ⟨w.heap.size, 3, none⟩) (by show w.heap.size < W.heap.size; omega)).trans va3; have za4 := (hb5.cell (p := ⟨w.heap.size, 4, none⟩) (by show w.heap.size < W.heap.size; omega)).trans va4; have za5 := (hb5.cell (p := ⟨w.heap.size, 5, none⟩) (by show w.heap.size < W.heap.size; omega)).trans va5; have za6 := (hb5.cell (p := ⟨w.heap.size, 6, none⟩) (by show w.heap.size < W.heap.size; omega)).trans va6; have za7 := (hb5.cell (p := ⟨w.heap.size, 7, none⟩) (by show w.heap.size < W.heap.size; omega)).trans va7; have zr0 := (hb5.cell (p := ⟨w.heap.size + 1 + 1, 0, none⟩) (by show w.heap.size + 1 + 1 < W.heap.size; omega)).trans rc0; have zr1 := (hb5.cell (p := ⟨w.heap.size + 1 + 1, 1, none⟩) (by show w.heap.size + 1 + 1 < W.heap.size; omega)).trans rc1; have zr2 := (hb5.cell (p := ⟨w.heap.size + 1 + 1, 2, none⟩) (by show w.heap.size + 1 + 1 < W.heap.size; omega)).trans rc2; have zr3 := (hb5.cell (p := ⟨w.heap.size + 1 + 1, 3, none⟩) (by show w.heap.size + 1 + 1 < W.heap.size; omega)).trans rc3; have zr4 := (hb5.cell (p := ⟨w.heap.size + 1 + 1, 4, none⟩) (by show w.heap.size + 1 + 1 < W.heap.size; omega)).trans rc4; have zr5 := (hb5.cell (p := ⟨w.heap.size + 1 + 1, 5, none⟩) (by show w.heap.size + 1 + 1 < W.heap.size; omega)).trans rc5; have zr6 := (hb5.cell (p := ⟨w.heap.size + 1 + 1, 6, none⟩) (by show w.heap.size + 1 + 1 < W.heap.size; omega)).trans rc6; have zr7 := (hb5.cell (p := ⟨w.heap.size + 1 + 1, 7, none⟩) (by show w.heap.size + 1 + 1 < W.heap.size; omega)).trans rc7; have zf1 : ∀ j, w5.frozen? ⟨w.heap.size, j, none⟩ = false := fun j => (hb5.frozen (p := ⟨w.heap.size, j, none⟩) (by show w.heap.size < W.heap.size; omega)).trans (ff1 j); have zf3 : ∀ j, w5.frozen? ⟨w.heap.size + 1 + 1, j, none⟩ = false := fun j => (hb5.frozen (p := ⟨w.heap.size + 1 + 1, j, none⟩) (by show w.heap.size + 1 + 1 < W.heap.size; omega)).trans (ff3 j); have HK6 := Lib.hid (And.intro hn6 (And.intro hs6 ho5.okA)); have HB5 := Lib.hid hb5; clear hn6 hs6 ho5 hb5))
  obtain ⟨X, hX, hnX, hfarX, hfrX, hblX, hszX⟩ := set1 w.heap.size 5 (u := .slice A6 (insS sb.prods name).length c6) za5
  rw [← hX]
  have va0 := (hfarX w.heap.size 0 (by omega)).trans za0
  have rc0 := (hfarX (w.heap.size + 1 + 1) 0 (by omega)).trans zr0
  have va1 := (hfarX w.heap.size 1 (by omega)).trans za1
  have rc1 := (hfarX (w.heap.size + 1 + 1) 1 (by omega)).trans zr1
  have va2 := (hfarX w.heap.size 2 (by omega)).trans za2
  have rc2 := (hfarX (w.heap.size + 1 + 1) 2 (by omega)).trans zr2
  have va3 := (hfarX w.heap.size 3 (by omega)).trans za3
  have rc3 := (hfarX (w.heap.size + 1 + 1) 3 (by omega)).trans zr3
  have va4 := (hfarX w.heap.size 4 (by omega)).trans za4
  have rc4 := (hfarX (w.heap.size + 1 + 1) 4 (by omega)).trans zr4
  have rc5 := (hfarX (w.heap.size + 1 + 1) 5 (by omega)).trans zr5
  have va6 := (hfarX w.heap.size 6 (by omega)).trans za6
  have rc6 := (hfarX (w.heap.size + 1 + 1) 6 (by omega)).trans zr6
  have va7 := (hfarX w.heap.size 7 (by omega)).trans za7
  have rc7 := (hfarX (w.heap.size + 1 + 1) 7 (by omega)).trans zr7
  have va5 := hnX
  have ffX : ∀ j, X.frozen? ⟨w.heap.size + 1 + 1, j, none⟩ = false := fun j => (hfrX _ _).trans (zf3 j)
  have hs5 := HB5.out.size
  have hgX : w.heap.size + 1 + 1 < X.heap.size := by omega
  clear za0 zr0 za1 zr1 za2 zr2 za3 zr3 za4 zr4 za5 zr5 za6 zr6 za7 zr7 zf1 zf3 ff1 ff3
  have HXE := Lib.hid hX
  clear hX hfarX hfrX hnX hblX
  go_wp2_with fail
  have hold := eight rc0 rc1 rc2 rc3 rc4 rc5 rc6 rc7
  have hr := setRun_is (vs := [.int .i64 v.id, .int .i64 v.acc, .int .i64 v.since, .string v.plan, .slice v.An v.nn v.cn, .slice A6 (insS sb.prods name).length c6, .bool v.susp, .bool v.fam]) hold (Nat.le_refl _)
  refine bodyPost_ret (results_cells rfl _ _ (w.heap.size + 1 + 1) ⟨[.int .i64 v.id, .int .i64 v.acc, .int .i64 v.since, .string v.plan, .slice v.An v.nn v.cn, .slice A6 (insS sb.prods name).length c6, .bool v.susp, .bool v.fam]⟩ _ rfl hr rfl rfl rfl) rfl ?_
  have hX := HXE.out
  have hkX : Keeps (fun b => b ≠ w.heap.size) w5 X := by rw [hX]; exact Keeps.ofSet fun b hb => hb
  have hkE : Keeps (fun b => b ≠ w.heap.size + 1 + 1) X (setRun X (w.heap.size + 1 + 1) 0 [.int .i64 v.id, .int .i64 v.acc, .int .i64 v.since, .string v.plan, .slice v.An v.nn v.cn, .slice A6 (insS sb.prods name).length c6, .bool v.susp, .bool v.fam]) := setRun_keeps _ _ _ fun b hb => hb
  have hsE := famS.keep (p := fun b => b ≠ k.p ∧ b < w.heap.size) (famS.keep (famS.keep HSR.out (Keeps.ofBelow HB5.out)) (kless hkX fun b hb => Nat.ne_of_lt hb.2)) (kless hkE fun b hb => by have := hb.2; show b ≠ _; omega)
  have hnE := (HK6.out.2.1.keepP HK6.out.2.2 (kless hkX fun b hb => by have : W.heap.size ≤ b := hb; show b ≠ _; omega)).keepP HK6.out.2.2 (kless hkE fun b hb => by have : W.heap.size ≤ b := hb; show b ≠ _; omega)
  have hkN : ∀ b, W.heap.size ≤ b → b ≠ k.p := fun b hb => by omega
  have hbE : Below w.heap.size w (setRun X (w.heap.size + 1 + 1) 0 [.int .i64 v.id, .int .i64 v.acc, .int .i64 v.since, .string v.plan, .slice v.An v.nn v.cn, .slice A6 (insS sb.prods name).length c6, .bool v.susp, .bool v.fam]) := setRun_below _ _ _ (by rw [hX]; exact (hbW.trans (HB5.out.mono hbW.size)).setCell (Nat.le_refl _) _) (by omega)
  exact ⟨⟨{ v with Ap := A6, np := (insS sb.prods name).length, cp := c6 }, rfl, ⟨⟨hsE.1.id, hsE.1.acc, hsE.1.since, hsE.1.plan, hsE.1.n0, hsE.1.n, HK6.out.1, hnE, hsE.1.susp, hsE.1.fam⟩, hsE.2.1.mono fun b hb => hb.1, HK6.out.2.2.mono hkN⟩⟩, (HR0.out.below hbE).mono (Nat.le_succ _), Stp.below hbE hBw, Keeps.ofBelow hbE⟩
set_option maxHeartbeats 16000000 in
theorem changed_9 (v : Sv) (sb : Sb) (at_ acc sub val : Int) (num name : ByteArray) (B M NN : Nat) (k : Bl) (s : St) (w : World) (h : Rep w B M NN k s) (hsr : SRP w (fun b => b ≠ k.p) v sb) (ws : (Lit.int .i64 sub).wf = true) (hnm : num.size ≤ maxLen) (hNN : NN ≤ 100000) (hln : sb.nums.length ≤ NN) (hlp : sb.prods.length ≤ NN) :
    Calls Try.prog 101 #[.pointer (some ⟨k.p, 0, none⟩), .agg #[.int .i64 v.id, .int .i64 v.acc, .int .i64 v.since, .string v.plan, .slice v.An v.nn v.cn, .slice v.Ap v.np v.cp, .bool v.susp, .bool v.fam], .agg #[.int .i64 at_, .int .i64 9, .int .i64 acc, .int .i64 sub, .string num, .string name, .int .i64 val]] w fun r w' => (∃ v' : Sv, r = .returned v'.val ∧ SRP w' (fun b => b ≠ k.p) v' (chgS sb ⟨at_, 9, acc, sub, num, name, val⟩)) ∧ Rep w' B M (NN + 1) k { s with own := s.own } ∧ Stp B M w w' ∧ Keeps (fun _ => True) w w' := by
  have hBw : B ≤ w.heap.size := by have := h.lo; have := h.hi; have := h.m; omega
  have hmx : NN + 4 < maxLen := by unfold maxLen; omega
  have HR := Lib.hid h
  have HS0 := Lib.hid hsr
  have HR0 := Lib.hid h
  have HSR := Lib.hid (famS.lt hsr)
  have hnn := hsr.1.n.len
  have hpp := hsr.1.p.len
  clear h hsr
  go_enter Try.func101, Try.ntmps101
  go_upto_region 1 with (fail)
  obtain ⟨W, hW, hbW, hzW, f1, f2, f3, ff1, ff3⟩ := box3 w #[.int .i64 v.id, .int .i64 v.acc, .int .i64 v.since, .string v.plan, .slice v.An v.nn v.cn, .slice v.Ap v.np v.cp, .bool v.susp, .bool v.fam] #[.int .i64 at_, .int .i64 9, .int .i64 acc, .int .i64 sub, .string num, .string name, .int .i64 val] #[.int .i64 0, .int .i64 0, .int .i64 0, .string ⟨#[]⟩, .slice none 0 0, .slice none 0 0, .bool false, .bool false] 51 36 51
  rw [← hW]
  have va0 := f1 0 _ rfl
  have va1 := f1 1 _ rfl
  have va2 := f1 2 _ rfl
  have va3 := f1 3 _ rfl
  have va4 := f1 4 _ rfl
  have va5 := f1 5 _ rfl
  have va6 := f1 6 _ rfl
  have va7 := f1 7 _ rfl
  have qb0 := f2 0 _ rfl
  have qb1 := f2 1 _ rfl
  have qb2 := f2 2 _ rfl
  have qb3 := f2 3 _ rfl
  have qb4 := f2 4 _ rfl
  have qb5 := f2 5 _ rfl
  have qb6 := f2 6 _ rfl
  have rc0 := f3 0 _ rfl
  have rc1 := f3 1 _ rfl
  have rc2 := f3 2 _ rfl
  have rc3 := f3 3 _ rfl
  have rc4 := f3 4 _ rfl
  have rc5 := f3 5 _ rfl
  have rc6 := f3 6 _ rfl
  have rc7 := f3 7 _ rfl
  clear hW f1 f2 f3
  have HT := Lib.hid (Stp.below (M := M) hbW hBw)
  have hpw : k.p < w.heap.size := Nat.lt_of_lt_of_le HR.out.hi.1 HR.out.m
  have hpW : k.p < W.heap.size := by omega
  have hgW : w.heap.size + 1 < W.heap.size := by omega
  replace HR := Lib.hid (HR.out.lt.below hbW)
  replace HSR := Lib.hid (famS.keep HSR.out (Keeps.ofBelow hbW))
  have hkT : Keeps (fun _ => True) w W := Keeps.ofBelow hbW
  have hrm : ((remS sb.prods name) : List ByteArray).length ≤ sb.prods.length + 1 := by unfold remS; exact Nat.le_trans (List.length_filter_le _ _) (Nat.le_succ _)
  have hln9 : v.np ≤ 900000 := by omega
  go_upto_region 22 with (go_at_call 117; go_must (refine (remove_any v.Ap v.np v.cp sb.prods name _ HSR.out.1.p hln9).mono ?_; rintro r w5 ⟨v5, rfl, ho5, hb5⟩; obtain ⟨A6, c6, rfl, hn6, hs6⟩ := ho5.slN; have za0 := (hb5.cell (p := ⟨w.heap.size, 0, none⟩) (by show w.heap.size < W.heap.size; omega)).trans va0; have za1 := (hb5.cell (p := ⟨w.heap.size, 1, none⟩) (by show w.heap.size < W.heap.size; omega)).trans va1; have za2 := (hb5.cell (p := ⟨w.heap.size, 2, none⟩) (by show w.heap.size < W.heap.size; omega)).trans va2; have za3 := (hb5.cell (p := ⟨w.heap.size, 3, none⟩) (by show w.heap.size < W.heap.size; omega)).trans va3; have za4 := (hb5.cell (p := ⟨w.heap.size, 4, none⟩) (by show w.heap.size < W.heap.size; omega)).trans va4; have za5 := (hb5.cell (p := ⟨w.heap.size, 5, none⟩) (by show w.heap.size < W.heap.size; omega)).trans va5; have za6 := (hb5.cell (p := ⟨w.heap.size, 6, none⟩) (by show w.heap.size < W.heap.size; omega)).trans va6; have za7 := (hb5.cell (p := ⟨w.heap.size, 7, none⟩) (by show w.heap.size < W.heap.size; omega)).trans va7; have zr0 := (hb5.cell (p := ⟨w.heap.size + 1 + 1, 0, none⟩) (by show w.heap.size + 1 + 1 < W.heap.size; omega)).trans rc0; have zr1 := (hb5.cell (p := ⟨w.heap.size + 1 + 1, 1, none⟩) (by show w.heap.size + 1 + 1 < W.heap.size; omega)).trans rc1; have zr2 := (hb5.cell (p := ⟨w.heap.size + 1 + 1, 2, none⟩) (by show w.heap.size + 1 + 1 < W.heap.size; omega)).trans rc2; have zr3 := (hb5.cell (p := ⟨w.heap.size + 1 + 1, 3, none⟩) (by show w.heap.size + 1 + 1 < W.heap.size; omega)).trans rc3; have zr4 := (hb5.cell (p := ⟨w.heap.size + 1 + 1, 4, none⟩) (by show w.heap.size + 1 + 1 < W.heap.size; omega)).trans rc4; have zr5 := (hb5.cell (p := ⟨w.heap.size + 1 + 1, 5, none⟩) (by show w.heap.size + 1 + 1 < W.heap.size; omega)).trans rc5; have zr6 := (hb5.cell (p := ⟨w.heap.size + 1 + 1, 6, none⟩) (by show w.heap.size + 1 + 1 < W.heap.size; omega)).trans rc6; have zr7 := (hb5.cell (p := ⟨w.heap.size + 1 + 1, 7, none⟩) (by show w.heap.size + 1 + 1 < W.heap.size; omega)).trans rc7; have zf1 : ∀ j, w5.frozen? ⟨w.heap.size, j, none⟩ = false := fun j => (hb5.frozen (p := ⟨w.heap.size, j, none⟩) (by show w.heap.size < W.heap.size; omega)).trans (ff1 j); have zf3 : ∀ j, w5.frozen? ⟨w.heap.size + 1 + 1, j, none⟩ = false := fun j => (hb5.frozen (p := ⟨w.heap.size + 1 + 1, j, none⟩) (by show w.heap.size + 1 + 1 < W.heap.size; omega)).trans (ff3 j); have HK6 := Lib.hid (And.intro hn6 (And.intro hs6 ho5.okA)); have HB5 := Lib.hid hb5; clear hn6 hs6 ho5 hb5))
  obtain ⟨X, hX, hnX, hfarX, hfrX, hblX, hszX⟩ := set1 w.heap.size 5 (u := .slice A6 (remS sb.prods name).length c6) za5
  rw [← hX]
  have va0 := (hfarX w.heap.size 0 (by omega)).trans za0
  have rc0 := (hfarX (w.heap.size + 1 + 1) 0 (by omega)).trans zr0
  have va1 := (hfarX w.heap.size 1 (by omega)).trans za1
  have rc1 := (hfarX (w.heap.size + 1 + 1) 1 (by omega)).trans zr1
  have va2 := (hfarX w.heap.size 2 (by omega)).trans za2
  have rc2 := (hfarX (w.heap.size + 1 + 1) 2 (by omega)).trans zr2
  have va3 := (hfarX w.heap.size 3 (by omega)).trans za3
  have rc3 := (hfarX (w.heap.size + 1 + 1) 3 (by omega)).trans zr3
  have va4 := (hfarX w.heap.size 4 (by omega)).trans za4
  have rc4 := (hfarX (w.heap.size + 1 + 1) 4 (by omega)).trans zr4
  have rc5 := (hfarX (w.heap.size + 1 + 1) 5 (by omega)).trans zr5
  have va6 := (hfarX w.heap.size 6 (by omega)).trans za6
  have rc6 := (hfarX (w.heap.size + 1 + 1) 6 (by omega)).trans zr6
  have va7 := (hfarX w.heap.size 7 (by omega)).trans za7
  have rc7 := (hfarX (w.heap.size + 1 + 1) 7 (by omega)).trans zr7
  have va5 := hnX
  have ffX : ∀ j, X.frozen? ⟨w.heap.size + 1 + 1, j, none⟩ = false := fun j => (hfrX _ _).trans (zf3 j)
  have hs5 := HB5.out.size
  have hgX : w.heap.size + 1 + 1 < X.heap.size := by omega
  clear za0 zr0 za1 zr1 za2 zr2 za3 zr3 za4 zr4 za5 zr5 za6 zr6 za7 zr7 zf1 zf3 ff1 ff3
  have HXE := Lib.hid hX
  clear hX hfarX hfrX hnX hblX
  go_wp2_with fail
  have hold := eight rc0 rc1 rc2 rc3 rc4 rc5 rc6 rc7
  have hr := setRun_is (vs := [.int .i64 v.id, .int .i64 v.acc, .int .i64 v.since, .string v.plan, .slice v.An v.nn v.cn, .slice A6 (remS sb.prods name).length c6, .bool v.susp, .bool v.fam]) hold (Nat.le_refl _)
  refine bodyPost_ret (results_cells rfl _ _ (w.heap.size + 1 + 1) ⟨[.int .i64 v.id, .int .i64 v.acc, .int .i64 v.since, .string v.plan, .slice v.An v.nn v.cn, .slice A6 (remS sb.prods name).length c6, .bool v.susp, .bool v.fam]⟩ _ rfl hr rfl rfl rfl) rfl ?_
  have hX := HXE.out
  have hkX : Keeps (fun b => b ≠ w.heap.size) w5 X := by rw [hX]; exact Keeps.ofSet fun b hb => hb
  have hkE : Keeps (fun b => b ≠ w.heap.size + 1 + 1) X (setRun X (w.heap.size + 1 + 1) 0 [.int .i64 v.id, .int .i64 v.acc, .int .i64 v.since, .string v.plan, .slice v.An v.nn v.cn, .slice A6 (remS sb.prods name).length c6, .bool v.susp, .bool v.fam]) := setRun_keeps _ _ _ fun b hb => hb
  have hsE := famS.keep (p := fun b => b ≠ k.p ∧ b < w.heap.size) (famS.keep (famS.keep HSR.out (Keeps.ofBelow HB5.out)) (kless hkX fun b hb => Nat.ne_of_lt hb.2)) (kless hkE fun b hb => by have := hb.2; show b ≠ _; omega)
  have hnE := (HK6.out.2.1.keepP HK6.out.2.2 (kless hkX fun b hb => by have : W.heap.size ≤ b := hb; show b ≠ _; omega)).keepP HK6.out.2.2 (kless hkE fun b hb => by have : W.heap.size ≤ b := hb; show b ≠ _; omega)
  have hkN : ∀ b, W.heap.size ≤ b → b ≠ k.p := fun b hb => by omega
  have hbE : Below w.heap.size w (setRun X (w.heap.size + 1 + 1) 0 [.int .i64 v.id, .int .i64 v.acc, .int .i64 v.since, .string v.plan, .slice v.An v.nn v.cn, .slice A6 (remS sb.prods name).length c6, .bool v.susp, .bool v.fam]) := setRun_below _ _ _ (by rw [hX]; exact (hbW.trans (HB5.out.mono hbW.size)).setCell (Nat.le_refl _) _) (by omega)
  exact ⟨⟨{ v with Ap := A6, np := (remS sb.prods name).length, cp := c6 }, rfl, ⟨⟨hsE.1.id, hsE.1.acc, hsE.1.since, hsE.1.plan, hsE.1.n0, hsE.1.n, HK6.out.1, hnE, hsE.1.susp, hsE.1.fam⟩, hsE.2.1.mono fun b hb => hb.1, HK6.out.2.2.mono hkN⟩⟩, (HR0.out.below hbE).mono (Nat.le_succ _), Stp.below hbE hBw, Keeps.ofBelow hbE⟩
set_option maxHeartbeats 16000000 in
theorem changed_10 (v : Sv) (sb : Sb) (at_ acc sub val : Int) (num name : ByteArray) (B M NN : Nat) (k : Bl) (s : St) (w : World) (h : Rep w B M NN k s) (hsr : SRP w (fun b => b ≠ k.p) v sb) (ws : (Lit.int .i64 sub).wf = true) (hnm : num.size ≤ maxLen) (hNN : NN ≤ 100000) (hln : sb.nums.length ≤ NN) (hlp : sb.prods.length ≤ NN) :
    Calls Try.prog 101 #[.pointer (some ⟨k.p, 0, none⟩), .agg #[.int .i64 v.id, .int .i64 v.acc, .int .i64 v.since, .string v.plan, .slice v.An v.nn v.cn, .slice v.Ap v.np v.cp, .bool v.susp, .bool v.fam], .agg #[.int .i64 at_, .int .i64 10, .int .i64 acc, .int .i64 sub, .string num, .string name, .int .i64 val]] w fun r w' => (∃ v' : Sv, r = .returned v'.val ∧ SRP w' (fun b => b ≠ k.p) v' (chgS sb ⟨at_, 10, acc, sub, num, name, val⟩)) ∧ Rep w' B M (NN + 1) k { s with own := s.own } ∧ Stp B M w w' ∧ Keeps (fun _ => True) w w' := by
  have hBw : B ≤ w.heap.size := by have := h.lo; have := h.hi; have := h.m; omega
  have hmx : NN + 4 < maxLen := by unfold maxLen; omega
  have HR := Lib.hid h
  have HS0 := Lib.hid hsr
  have HR0 := Lib.hid h
  have HSR := Lib.hid (famS.lt hsr)
  have hnn := hsr.1.n.len
  have hpp := hsr.1.p.len
  clear h hsr
  go_enter Try.func101, Try.ntmps101
  go_upto_region 1 with (fail)
  obtain ⟨W, hW, hbW, hzW, f1, f2, f3, ff1, ff3⟩ := box3 w #[.int .i64 v.id, .int .i64 v.acc, .int .i64 v.since, .string v.plan, .slice v.An v.nn v.cn, .slice v.Ap v.np v.cp, .bool v.susp, .bool v.fam] #[.int .i64 at_, .int .i64 10, .int .i64 acc, .int .i64 sub, .string num, .string name, .int .i64 val] #[.int .i64 0, .int .i64 0, .int .i64 0, .string ⟨#[]⟩, .slice none 0 0, .slice none 0 0, .bool false, .bool false] 51 36 51
  rw [← hW]
  have va0 := f1 0 _ rfl
  have va1 := f1 1 _ rfl
  have va2 := f1 2 _ rfl
  have va3 := f1 3 _ rfl
  have va4 := f1 4 _ rfl
  have va5 := f1 5 _ rfl
  have va6 := f1 6 _ rfl
  have va7 := f1 7 _ rfl
  have qb0 := f2 0 _ rfl
  have qb1 := f2 1 _ rfl
  have qb2 := f2 2 _ rfl
  have qb3 := f2 3 _ rfl
  have qb4 := f2 4 _ rfl
  have qb5 := f2 5 _ rfl
  have qb6 := f2 6 _ rfl
  have rc0 := f3 0 _ rfl
  have rc1 := f3 1 _ rfl
  have rc2 := f3 2 _ rfl
  have rc3 := f3 3 _ rfl
  have rc4 := f3 4 _ rfl
  have rc5 := f3 5 _ rfl
  have rc6 := f3 6 _ rfl
  have rc7 := f3 7 _ rfl
  clear hW f1 f2 f3
  have HT := Lib.hid (Stp.below (M := M) hbW hBw)
  have hpw : k.p < w.heap.size := Nat.lt_of_lt_of_le HR.out.hi.1 HR.out.m
  have hpW : k.p < W.heap.size := by omega
  have hgW : w.heap.size + 1 < W.heap.size := by omega
  replace HR := Lib.hid (HR.out.lt.below hbW)
  replace HSR := Lib.hid (famS.keep HSR.out (Keeps.ofBelow hbW))
  go_upto_region 22 with (fail)
  obtain ⟨X, hX, hnX, hfarX, hfrX, hblX, hszX⟩ := set1 w.heap.size 6 (u := .bool true) va6
  rw [← hX]
  replace va0 := (hfarX w.heap.size 0 (by omega)).trans va0
  replace rc0 := (hfarX (w.heap.size + 1 + 1) 0 (by omega)).trans rc0
  replace va1 := (hfarX w.heap.size 1 (by omega)).trans va1
  replace rc1 := (hfarX (w.heap.size + 1 + 1) 1 (by omega)).trans rc1
  replace va2 := (hfarX w.heap.size 2 (by omega)).trans va2
  replace rc2 := (hfarX (w.heap.size + 1 + 1) 2 (by omega)).trans rc2
  replace va3 := (hfarX w.heap.size 3 (by omega)).trans va3
  replace rc3 := (hfarX (w.heap.size + 1 + 1) 3 (by omega)).trans rc3
  replace va4 := (hfarX w.heap.size 4 (by omega)).trans va4
  replace rc4 := (hfarX (w.heap.size + 1 + 1) 4 (by omega)).trans rc4
  replace va5 := (hfarX w.heap.size 5 (by omega)).trans va5
  replace rc5 := (hfarX (w.heap.size + 1 + 1) 5 (by omega)).trans rc5
  replace rc6 := (hfarX (w.heap.size + 1 + 1) 6 (by omega)).trans rc6
  replace va7 := (hfarX w.heap.size 7 (by omega)).trans va7
  replace rc7 := (hfarX (w.heap.size + 1 + 1) 7 (by omega)).trans rc7
  replace va6 := hnX
  have hbX : Below w.heap.size w X := by rw [hX]; exact hbW.setCell (Nat.le_refl _) _
  have hgX : w.heap.size + 1 + 1 < X.heap.size := by omega
  have ffX : ∀ j, X.frozen? ⟨w.heap.size + 1 + 1, j, none⟩ = false := fun j => (hfrX _ _).trans (ff3 j)
  clear hX hnX hfarX hfrX hblX HR HT hbW
  go_wp2_with fail
  have hold := eight rc0 rc1 rc2 rc3 rc4 rc5 rc6 rc7
  have hr := setRun_is (vs := [.int .i64 v.id, .int .i64 v.acc, .int .i64 v.since, .string v.plan, .slice v.An v.nn v.cn, .slice v.Ap v.np v.cp, .bool true, .bool v.fam]) hold (Nat.le_refl _)
  refine bodyPost_ret (results_cells rfl _ _ (w.heap.size + 1 + 1) ⟨[.int .i64 v.id, .int .i64 v.acc, .int .i64 v.since, .string v.plan, .slice v.An v.nn v.cn, .slice v.Ap v.np v.cp, .bool true, .bool v.fam]⟩ _ rfl hr rfl rfl rfl) rfl ?_
  have hbE : Below w.heap.size w (setRun X (w.heap.size + 1 + 1) 0 [.int .i64 v.id, .int .i64 v.acc, .int .i64 v.since, .string v.plan, .slice v.An v.nn v.cn, .slice v.Ap v.np v.cp, .bool true, .bool v.fam]) := setRun_below _ _ _ hbX (by omega)
  have hs := famS.keep HS0.out (Keeps.ofBelow hbE)
  exact ⟨⟨{ v with susp := true }, rfl, ⟨⟨hs.1.id, hs.1.acc, hs.1.since, hs.1.plan, hs.1.n0, hs.1.n, hs.1.p0, hs.1.p, rfl, hs.1.fam⟩, hs.2⟩⟩, (HR0.out.below hbE).mono (Nat.le_succ _), Stp.below hbE hBw, Keeps.ofBelow hbE⟩
set_option maxHeartbeats 16000000 in
theorem changed_11 (v : Sv) (sb : Sb) (at_ acc sub val : Int) (num name : ByteArray) (B M NN : Nat) (k : Bl) (s : St) (w : World) (h : Rep w B M NN k s) (hsr : SRP w (fun b => b ≠ k.p) v sb) (ws : (Lit.int .i64 sub).wf = true) (hnm : num.size ≤ maxLen) (hNN : NN ≤ 100000) (hln : sb.nums.length ≤ NN) (hlp : sb.prods.length ≤ NN) :
    Calls Try.prog 101 #[.pointer (some ⟨k.p, 0, none⟩), .agg #[.int .i64 v.id, .int .i64 v.acc, .int .i64 v.since, .string v.plan, .slice v.An v.nn v.cn, .slice v.Ap v.np v.cp, .bool v.susp, .bool v.fam], .agg #[.int .i64 at_, .int .i64 11, .int .i64 acc, .int .i64 sub, .string num, .string name, .int .i64 val]] w fun r w' => (∃ v' : Sv, r = .returned v'.val ∧ SRP w' (fun b => b ≠ k.p) v' (chgS sb ⟨at_, 11, acc, sub, num, name, val⟩)) ∧ Rep w' B M (NN + 1) k { s with own := s.own } ∧ Stp B M w w' ∧ Keeps (fun _ => True) w w' := by
  have hBw : B ≤ w.heap.size := by have := h.lo; have := h.hi; have := h.m; omega
  have hmx : NN + 4 < maxLen := by unfold maxLen; omega
  have HR := Lib.hid h
  have HS0 := Lib.hid hsr
  have HR0 := Lib.hid h
  have HSR := Lib.hid (famS.lt hsr)
  have hnn := hsr.1.n.len
  have hpp := hsr.1.p.len
  clear h hsr
  go_enter Try.func101, Try.ntmps101
  go_upto_region 1 with (fail)
  obtain ⟨W, hW, hbW, hzW, f1, f2, f3, ff1, ff3⟩ := box3 w #[.int .i64 v.id, .int .i64 v.acc, .int .i64 v.since, .string v.plan, .slice v.An v.nn v.cn, .slice v.Ap v.np v.cp, .bool v.susp, .bool v.fam] #[.int .i64 at_, .int .i64 11, .int .i64 acc, .int .i64 sub, .string num, .string name, .int .i64 val] #[.int .i64 0, .int .i64 0, .int .i64 0, .string ⟨#[]⟩, .slice none 0 0, .slice none 0 0, .bool false, .bool false] 51 36 51
  rw [← hW]
  have va0 := f1 0 _ rfl
  have va1 := f1 1 _ rfl
  have va2 := f1 2 _ rfl
  have va3 := f1 3 _ rfl
  have va4 := f1 4 _ rfl
  have va5 := f1 5 _ rfl
  have va6 := f1 6 _ rfl
  have va7 := f1 7 _ rfl
  have qb0 := f2 0 _ rfl
  have qb1 := f2 1 _ rfl
  have qb2 := f2 2 _ rfl
  have qb3 := f2 3 _ rfl
  have qb4 := f2 4 _ rfl
  have qb5 := f2 5 _ rfl
  have qb6 := f2 6 _ rfl
  have rc0 := f3 0 _ rfl
  have rc1 := f3 1 _ rfl
  have rc2 := f3 2 _ rfl
  have rc3 := f3 3 _ rfl
  have rc4 := f3 4 _ rfl
  have rc5 := f3 5 _ rfl
  have rc6 := f3 6 _ rfl
  have rc7 := f3 7 _ rfl
  clear hW f1 f2 f3
  have HT := Lib.hid (Stp.below (M := M) hbW hBw)
  have hpw : k.p < w.heap.size := Nat.lt_of_lt_of_le HR.out.hi.1 HR.out.m
  have hpW : k.p < W.heap.size := by omega
  have hgW : w.heap.size + 1 < W.heap.size := by omega
  replace HR := Lib.hid (HR.out.lt.below hbW)
  replace HSR := Lib.hid (famS.keep HSR.out (Keeps.ofBelow hbW))
  go_upto_region 22 with (fail)
  obtain ⟨X, hX, hnX, hfarX, hfrX, hblX, hszX⟩ := set1 w.heap.size 6 (u := .bool false) va6
  rw [← hX]
  replace va0 := (hfarX w.heap.size 0 (by omega)).trans va0
  replace rc0 := (hfarX (w.heap.size + 1 + 1) 0 (by omega)).trans rc0
  replace va1 := (hfarX w.heap.size 1 (by omega)).trans va1
  replace rc1 := (hfarX (w.heap.size + 1 + 1) 1 (by omega)).trans rc1
  replace va2 := (hfarX w.heap.size 2 (by omega)).trans va2
  replace rc2 := (hfarX (w.heap.size + 1 + 1) 2 (by omega)).trans rc2
  replace va3 := (hfarX w.heap.size 3 (by omega)).trans va3
  replace rc3 := (hfarX (w.heap.size + 1 + 1) 3 (by omega)).trans rc3
  replace va4 := (hfarX w.heap.size 4 (by omega)).trans va4
  replace rc4 := (hfarX (w.heap.size + 1 + 1) 4 (by omega)).trans rc4
  replace va5 := (hfarX w.heap.size 5 (by omega)).trans va5
  replace rc5 := (hfarX (w.heap.size + 1 + 1) 5 (by omega)).trans rc5
  replace rc6 := (hfarX (w.heap.size + 1 + 1) 6 (by omega)).trans rc6
  replace va7 := (hfarX w.heap.size 7 (by omega)).trans va7
  replace rc7 := (hfarX (w.heap.size + 1 + 1) 7 (by omega)).trans rc7
  replace va6 := hnX
  have hbX : Below w.heap.size w X := by rw [hX]; exact hbW.setCell (Nat.le_refl _) _
  have hgX : w.heap.size + 1 + 1 < X.heap.size := by omega
  have ffX : ∀ j, X.frozen? ⟨w.heap.size + 1 + 1, j, none⟩ = false := fun j => (hfrX _ _).trans (ff3 j)
  clear hX hnX hfarX hfrX hblX HR HT hbW
  go_wp2_with fail
  have hold := eight rc0 rc1 rc2 rc3 rc4 rc5 rc6 rc7
  have hr := setRun_is (vs := [.int .i64 v.id, .int .i64 v.acc, .int .i64 v.since, .string v.plan, .slice v.An v.nn v.cn, .slice v.Ap v.np v.cp, .bool false, .bool v.fam]) hold (Nat.le_refl _)
  refine bodyPost_ret (results_cells rfl _ _ (w.heap.size + 1 + 1) ⟨[.int .i64 v.id, .int .i64 v.acc, .int .i64 v.since, .string v.plan, .slice v.An v.nn v.cn, .slice v.Ap v.np v.cp, .bool false, .bool v.fam]⟩ _ rfl hr rfl rfl rfl) rfl ?_
  have hbE : Below w.heap.size w (setRun X (w.heap.size + 1 + 1) 0 [.int .i64 v.id, .int .i64 v.acc, .int .i64 v.since, .string v.plan, .slice v.An v.nn v.cn, .slice v.Ap v.np v.cp, .bool false, .bool v.fam]) := setRun_below _ _ _ hbX (by omega)
  have hs := famS.keep HS0.out (Keeps.ofBelow hbE)
  exact ⟨⟨{ v with susp := false }, rfl, ⟨⟨hs.1.id, hs.1.acc, hs.1.since, hs.1.plan, hs.1.n0, hs.1.n, hs.1.p0, hs.1.p, rfl, hs.1.fam⟩, hs.2⟩⟩, (HR0.out.below hbE).mono (Nat.le_succ _), Stp.below hbE hBw, Keeps.ofBelow hbE⟩
set_option maxHeartbeats 16000000 in
theorem changed_12 (v : Sv) (sb : Sb) (at_ acc sub val : Int) (num name : ByteArray) (B M NN : Nat) (k : Bl) (s : St) (w : World) (h : Rep w B M NN k s) (hsr : SRP w (fun b => b ≠ k.p) v sb) (ws : (Lit.int .i64 sub).wf = true) (hnm : num.size ≤ maxLen) (hNN : NN ≤ 100000) (hln : sb.nums.length ≤ NN) (hlp : sb.prods.length ≤ NN) :
    Calls Try.prog 101 #[.pointer (some ⟨k.p, 0, none⟩), .agg #[.int .i64 v.id, .int .i64 v.acc, .int .i64 v.since, .string v.plan, .slice v.An v.nn v.cn, .slice v.Ap v.np v.cp, .bool v.susp, .bool v.fam], .agg #[.int .i64 at_, .int .i64 12, .int .i64 acc, .int .i64 sub, .string num, .string name, .int .i64 val]] w fun r w' => (∃ v' : Sv, r = .returned v'.val ∧ SRP w' (fun b => b ≠ k.p) v' (chgS sb ⟨at_, 12, acc, sub, num, name, val⟩)) ∧ Rep w' B M (NN + 1) k { s with own := s.own } ∧ Stp B M w w' ∧ Keeps (fun _ => True) w w' := by
  have hBw : B ≤ w.heap.size := by have := h.lo; have := h.hi; have := h.m; omega
  have hmx : NN + 4 < maxLen := by unfold maxLen; omega
  have HR := Lib.hid h
  have HS0 := Lib.hid hsr
  have HR0 := Lib.hid h
  have HSR := Lib.hid (famS.lt hsr)
  have hnn := hsr.1.n.len
  have hpp := hsr.1.p.len
  clear h hsr
  go_enter Try.func101, Try.ntmps101
  go_upto_region 1 with (fail)
  obtain ⟨W, hW, hbW, hzW, f1, f2, f3, ff1, ff3⟩ := box3 w #[.int .i64 v.id, .int .i64 v.acc, .int .i64 v.since, .string v.plan, .slice v.An v.nn v.cn, .slice v.Ap v.np v.cp, .bool v.susp, .bool v.fam] #[.int .i64 at_, .int .i64 12, .int .i64 acc, .int .i64 sub, .string num, .string name, .int .i64 val] #[.int .i64 0, .int .i64 0, .int .i64 0, .string ⟨#[]⟩, .slice none 0 0, .slice none 0 0, .bool false, .bool false] 51 36 51
  rw [← hW]
  have va0 := f1 0 _ rfl
  have va1 := f1 1 _ rfl
  have va2 := f1 2 _ rfl
  have va3 := f1 3 _ rfl
  have va4 := f1 4 _ rfl
  have va5 := f1 5 _ rfl
  have va6 := f1 6 _ rfl
  have va7 := f1 7 _ rfl
  have qb0 := f2 0 _ rfl
  have qb1 := f2 1 _ rfl
  have qb2 := f2 2 _ rfl
  have qb3 := f2 3 _ rfl
  have qb4 := f2 4 _ rfl
  have qb5 := f2 5 _ rfl
  have qb6 := f2 6 _ rfl
  have rc0 := f3 0 _ rfl
  have rc1 := f3 1 _ rfl
  have rc2 := f3 2 _ rfl
  have rc3 := f3 3 _ rfl
  have rc4 := f3 4 _ rfl
  have rc5 := f3 5 _ rfl
  have rc6 := f3 6 _ rfl
  have rc7 := f3 7 _ rfl
  clear hW f1 f2 f3
  have HT := Lib.hid (Stp.below (M := M) hbW hBw)
  have hpw : k.p < w.heap.size := Nat.lt_of_lt_of_le HR.out.hi.1 HR.out.m
  have hpW : k.p < W.heap.size := by omega
  have hgW : w.heap.size + 1 < W.heap.size := by omega
  replace HR := Lib.hid (HR.out.lt.below hbW)
  replace HSR := Lib.hid (famS.keep HSR.out (Keeps.ofBelow hbW))
  go_upto_region 22 with (fail)
  obtain ⟨X, hX, hnX, hfarX, hfrX, hblX, hszX⟩ := set1 w.heap.size 7 (u := .bool true) va7
  rw [← hX]
  replace va0 := (hfarX w.heap.size 0 (by omega)).trans va0
  replace rc0 := (hfarX (w.heap.size + 1 + 1) 0 (by omega)).trans rc0
  replace va1 := (hfarX w.heap.size 1 (by omega)).trans va1
  replace rc1 := (hfarX (w.heap.size + 1 + 1) 1 (by omega)).trans rc1
  replace va2 := (hfarX w.heap.size 2 (by omega)).trans va2
  replace rc2 := (hfarX (w.heap.size + 1 + 1) 2 (by omega)).trans rc2
  replace va3 := (hfarX w.heap.size 3 (by omega)).trans va3
  replace rc3 := (hfarX (w.heap.size + 1 + 1) 3 (by omega)).trans rc3
  replace va4 := (hfarX w.heap.size 4 (by omega)).trans va4
  replace rc4 := (hfarX (w.heap.size + 1 + 1) 4 (by omega)).trans rc4
  replace va5 := (hfarX w.heap.size 5 (by omega)).trans va5
  replace rc5 := (hfarX (w.heap.size + 1 + 1) 5 (by omega)).trans rc5
  replace va6 := (hfarX w.heap.size 6 (by omega)).trans va6
  replace rc6 := (hfarX (w.heap.size + 1 + 1) 6 (by omega)).trans rc6
  replace rc7 := (hfarX (w.heap.size + 1 + 1) 7 (by omega)).trans rc7
  replace va7 := hnX
  have hbX : Below w.heap.size w X := by rw [hX]; exact hbW.setCell (Nat.le_refl _) _
  have hgX : w.heap.size + 1 + 1 < X.heap.size := by omega
  have ffX : ∀ j, X.frozen? ⟨w.heap.size + 1 + 1, j, none⟩ = false := fun j => (hfrX _ _).trans (ff3 j)
  clear hX hnX hfarX hfrX hblX HR HT hbW
  go_wp2_with fail
  have hold := eight rc0 rc1 rc2 rc3 rc4 rc5 rc6 rc7
  have hr := setRun_is (vs := [.int .i64 v.id, .int .i64 v.acc, .int .i64 v.since, .string v.plan, .slice v.An v.nn v.cn, .slice v.Ap v.np v.cp, .bool v.susp, .bool true]) hold (Nat.le_refl _)
  refine bodyPost_ret (results_cells rfl _ _ (w.heap.size + 1 + 1) ⟨[.int .i64 v.id, .int .i64 v.acc, .int .i64 v.since, .string v.plan, .slice v.An v.nn v.cn, .slice v.Ap v.np v.cp, .bool v.susp, .bool true]⟩ _ rfl hr rfl rfl rfl) rfl ?_
  have hbE : Below w.heap.size w (setRun X (w.heap.size + 1 + 1) 0 [.int .i64 v.id, .int .i64 v.acc, .int .i64 v.since, .string v.plan, .slice v.An v.nn v.cn, .slice v.Ap v.np v.cp, .bool v.susp, .bool true]) := setRun_below _ _ _ hbX (by omega)
  have hs := famS.keep HS0.out (Keeps.ofBelow hbE)
  exact ⟨⟨{ v with fam := true }, rfl, ⟨⟨hs.1.id, hs.1.acc, hs.1.since, hs.1.plan, hs.1.n0, hs.1.n, hs.1.p0, hs.1.p, hs.1.susp, rfl⟩, hs.2⟩⟩, (HR0.out.below hbE).mono (Nat.le_succ _), Stp.below hbE hBw, Keeps.ofBelow hbE⟩
set_option maxHeartbeats 16000000 in
theorem changed_13 (v : Sv) (sb : Sb) (at_ acc sub val : Int) (num name : ByteArray) (B M NN : Nat) (k : Bl) (s : St) (w : World) (h : Rep w B M NN k s) (hsr : SRP w (fun b => b ≠ k.p) v sb) (ws : (Lit.int .i64 sub).wf = true) (hnm : num.size ≤ maxLen) (hNN : NN ≤ 100000) (hln : sb.nums.length ≤ NN) (hlp : sb.prods.length ≤ NN) :
    Calls Try.prog 101 #[.pointer (some ⟨k.p, 0, none⟩), .agg #[.int .i64 v.id, .int .i64 v.acc, .int .i64 v.since, .string v.plan, .slice v.An v.nn v.cn, .slice v.Ap v.np v.cp, .bool v.susp, .bool v.fam], .agg #[.int .i64 at_, .int .i64 13, .int .i64 acc, .int .i64 sub, .string num, .string name, .int .i64 val]] w fun r w' => (∃ v' : Sv, r = .returned v'.val ∧ SRP w' (fun b => b ≠ k.p) v' (chgS sb ⟨at_, 13, acc, sub, num, name, val⟩)) ∧ Rep w' B M (NN + 1) k { s with own := s.own } ∧ Stp B M w w' ∧ Keeps (fun _ => True) w w' := by
  have hBw : B ≤ w.heap.size := by have := h.lo; have := h.hi; have := h.m; omega
  have hmx : NN + 4 < maxLen := by unfold maxLen; omega
  have HR := Lib.hid h
  have HS0 := Lib.hid hsr
  have HR0 := Lib.hid h
  have HSR := Lib.hid (famS.lt hsr)
  have hnn := hsr.1.n.len
  have hpp := hsr.1.p.len
  clear h hsr
  go_enter Try.func101, Try.ntmps101
  go_upto_region 1 with (fail)
  obtain ⟨W, hW, hbW, hzW, f1, f2, f3, ff1, ff3⟩ := box3 w #[.int .i64 v.id, .int .i64 v.acc, .int .i64 v.since, .string v.plan, .slice v.An v.nn v.cn, .slice v.Ap v.np v.cp, .bool v.susp, .bool v.fam] #[.int .i64 at_, .int .i64 13, .int .i64 acc, .int .i64 sub, .string num, .string name, .int .i64 val] #[.int .i64 0, .int .i64 0, .int .i64 0, .string ⟨#[]⟩, .slice none 0 0, .slice none 0 0, .bool false, .bool false] 51 36 51
  rw [← hW]
  have va0 := f1 0 _ rfl
  have va1 := f1 1 _ rfl
  have va2 := f1 2 _ rfl
  have va3 := f1 3 _ rfl
  have va4 := f1 4 _ rfl
  have va5 := f1 5 _ rfl
  have va6 := f1 6 _ rfl
  have va7 := f1 7 _ rfl
  have qb0 := f2 0 _ rfl
  have qb1 := f2 1 _ rfl
  have qb2 := f2 2 _ rfl
  have qb3 := f2 3 _ rfl
  have qb4 := f2 4 _ rfl
  have qb5 := f2 5 _ rfl
  have qb6 := f2 6 _ rfl
  have rc0 := f3 0 _ rfl
  have rc1 := f3 1 _ rfl
  have rc2 := f3 2 _ rfl
  have rc3 := f3 3 _ rfl
  have rc4 := f3 4 _ rfl
  have rc5 := f3 5 _ rfl
  have rc6 := f3 6 _ rfl
  have rc7 := f3 7 _ rfl
  clear hW f1 f2 f3
  have HT := Lib.hid (Stp.below (M := M) hbW hBw)
  have hpw : k.p < w.heap.size := Nat.lt_of_lt_of_le HR.out.hi.1 HR.out.m
  have hpW : k.p < W.heap.size := by omega
  have hgW : w.heap.size + 1 < W.heap.size := by omega
  replace HR := Lib.hid (HR.out.lt.below hbW)
  replace HSR := Lib.hid (famS.keep HSR.out (Keeps.ofBelow hbW))
  go_upto_region 22 with (fail)
  obtain ⟨X, hX, hnX, hfarX, hfrX, hblX, hszX⟩ := set1 w.heap.size 7 (u := .bool false) va7
  rw [← hX]
  replace va0 := (hfarX w.heap.size 0 (by omega)).trans va0
  replace rc0 := (hfarX (w.heap.size + 1 + 1) 0 (by omega)).trans rc0
  replace va1 := (hfarX w.heap.size 1 (by omega)).trans va1
  replace rc1 := (hfarX (w.heap.size + 1 + 1) 1 (by omega)).trans rc1
  replace va2 := (hfarX w.heap.size 2 (by omega)).trans va2
  replace rc2 := (hfarX (w.heap.size + 1 + 1) 2 (by omega)).trans rc2
  replace va3 := (hfarX w.heap.size 3 (by omega)).trans va3
  replace rc3 := (hfarX (w.heap.size + 1 + 1) 3 (by omega)).trans rc3
  replace va4 := (hfarX w.heap.size 4 (by omega)).trans va4
  replace rc4 := (hfarX (w.heap.size + 1 + 1) 4 (by omega)).trans rc4
  replace va5 := (hfarX w.heap.size 5 (by omega)).trans va5
  replace rc5 := (hfarX (w.heap.size + 1 + 1) 5 (by omega)).trans rc5
  replace va6 := (hfarX w.heap.size 6 (by omega)).trans va6
  replace rc6 := (hfarX (w.heap.size + 1 + 1) 6 (by omega)).trans rc6
  replace rc7 := (hfarX (w.heap.size + 1 + 1) 7 (by omega)).trans rc7
  replace va7 := hnX
  have hbX : Below w.heap.size w X := by rw [hX]; exact hbW.setCell (Nat.le_refl _) _
  have hgX : w.heap.size + 1 + 1 < X.heap.size := by omega
  have ffX : ∀ j, X.frozen? ⟨w.heap.size + 1 + 1, j, none⟩ = false := fun j => (hfrX _ _).trans (ff3 j)
  clear hX hnX hfarX hfrX hblX HR HT hbW
  go_wp2_with fail
  have hold := eight rc0 rc1 rc2 rc3 rc4 rc5 rc6 rc7
  have hr := setRun_is (vs := [.int .i64 v.id, .int .i64 v.acc, .int .i64 v.since, .string v.plan, .slice v.An v.nn v.cn, .slice v.Ap v.np v.cp, .bool v.susp, .bool false]) hold (Nat.le_refl _)
  refine bodyPost_ret (results_cells rfl _ _ (w.heap.size + 1 + 1) ⟨[.int .i64 v.id, .int .i64 v.acc, .int .i64 v.since, .string v.plan, .slice v.An v.nn v.cn, .slice v.Ap v.np v.cp, .bool v.susp, .bool false]⟩ _ rfl hr rfl rfl rfl) rfl ?_
  have hbE : Below w.heap.size w (setRun X (w.heap.size + 1 + 1) 0 [.int .i64 v.id, .int .i64 v.acc, .int .i64 v.since, .string v.plan, .slice v.An v.nn v.cn, .slice v.Ap v.np v.cp, .bool v.susp, .bool false]) := setRun_below _ _ _ hbX (by omega)
  have hs := famS.keep HS0.out (Keeps.ofBelow hbE)
  exact ⟨⟨{ v with fam := false }, rfl, ⟨⟨hs.1.id, hs.1.acc, hs.1.since, hs.1.plan, hs.1.n0, hs.1.n, hs.1.p0, hs.1.p, hs.1.susp, rfl⟩, hs.2⟩⟩, (HR0.out.below hbE).mono (Nat.le_succ _), Stp.below hbE hBw, Keeps.ofBelow hbE⟩
end Cu
end Go.Proofs.Yteaanngagcflhaa
