/-
  Customers: the reference's Apply. No condition.
-/
import Derived.Test.YteaanngagcflhaaCuAF
import Derived.Test.YteaanngagcflhaaSlc
import Derived.Test.YteaanngagcflhaaMixS
import Derived.BigQuiet
import Derived.StillTailTactics
import Derived.Lib.Overlaps
import Derived.Deep.DeepCutAuto
import Derived.Deep.RegionWith
import Derived.Laws.RangeAny
import Derived.Deep.RegionHeld
import Derived.Deep.RegionHeldLaw
import Derived.Deep.DeepCutAuto
set_option maxRecDepth 100000
set_option linter.unusedVariables false
set_option linter.unusedSimpArgs false
namespace Go.Proofs.Yteaanngagcflhaa
open Go.RowKit

namespace Cu
theorem infoRA : (Try.prog.info? 46).map (fun i => (i.zero, i.size, i.bytes)) = some (some (.agg #[.int .i64 0, .int .i64 0, .int .i64 0, .bool false, .bool false, .slice none 0 0]), 6, 56) := by kernel_rfl
set_option maxHeartbeats 64000000 in
theorem rApply_any (Aa : Option Addr) (na ca : Nat) (As : Option Addr) (ns cs : Nat) (Ae : Option Addr) (ne ce : Nat) (b : Bk) (at_ K acc sub val : Int) (num name : ByteArray) (w : World) (h : BR w Aa na ca As ns cs Ae ne ce b) (hna : na ≤ 1000) (hns : ns ≤ 1000) (hne : ne ≤ 1000) (hA : K = 2 → (findA b acc).isSome = true) (hS : 4 ≤ K → K ≤ 13 → (findS b sub).isSome = true) (h1 : 1 ≤ K) (h15 : K ≤ 15) (hz : ∀ t ∈ b.subs, t.nums.length ≤ 1000 ∧ t.prods.length ≤ 1000) :
    Calls Try.prog 73 #[.agg #[.slice Aa na ca, .slice As ns cs, .slice Ae ne ce], .agg #[.int .i64 at_, .int .i64 K, .int .i64 acc, .int .i64 sub, .string num, .string name, .int .i64 val]] w fun r w' => (∃ (A1 : Option Addr) (n1 c1 : Nat) (A2 : Option Addr) (n2 c2 : Nat) (A3 : Option Addr) (n3 c3 : Nat), r = .returned (.agg #[.slice A1 n1 c1, .slice A2 n2 c2, .slice A3 n3 c3]) ∧ BR w' A1 n1 c1 A2 n2 c2 A3 n3 c3 (applyR b ⟨at_, K, acc, sub, num, name, val⟩)) ∧ Below w.heap.size w w' := by
  have HB := Lib.hid h
  obtain ⟨hN0, xs, hxs, hall⟩ := h.s
  have HNa := Lib.hid h.a0
  have HNs := Lib.hid hN0
  have HNe := Lib.hid h.e0
  have HALL := Lib.hid hall
  have HXS := Lib.hid hxs
  clear hN0 hxs hall h
  go_enter Try.func73, Try.ntmps73
  go_upto_region 1 with (fail)
  obtain ⟨V, hV, hbV, hzV, f1, f2, f3, ff1, ff3⟩ := box3 w #[.slice Aa na ca, .slice As ns cs, .slice Ae ne ce] #[.int .i64 at_, .int .i64 K, .int .i64 acc, .int .i64 sub, .string num, .string name, .int .i64 val] #[.slice none 0 0, .slice none 0 0, .slice none 0 0] 99 36 99
  have hszV : V.heap.size = w.heap.size + 1 + 1 + 1 := by rw [hV]; simp
  rw [← hV]
  have qa0 := f1 0 _ rfl
  have qa1 := f1 1 _ rfl
  have qa2 := f1 2 _ rfl
  have qb0 := f2 0 _ rfl
  have qb1 := f2 1 _ rfl
  have qb2 := f2 2 _ rfl
  have qb3 := f2 3 _ rfl
  have qb4 := f2 4 _ rfl
  have qb5 := f2 5 _ rfl
  have qb6 := f2 6 _ rfl
  have rc0 := f3 0 _ rfl
  have rc1 := f3 1 _ rfl
  have rc2 := f3 2 _ rfl
  clear hV f1 f2 f3
  have hg0 : w.heap.size < V.heap.size := by omega
  have hC : (w.heap.size + 1 + 1 + 1) ≤ V.heap.size := by omega
  have hC' : V.heap.size ≤ (w.heap.size + 1 + 1 + 1) := by omega
  have HSa := Lib.hid (HB.out.a.below hbV)
  have HSs := Lib.hid (HXS.out.below hbV)
  have HSe := Lib.hid (HB.out.e.below hbV)
  have hlna := HB.out.a.len
  have hlns := HXS.out.len
  have hlne := HB.out.e.len
  have HZV := Lib.hid hszV
  clear hzV hszV
  go_cut [5] (fun s5 wx => ∃ (g : Nat) (A1 : Option Addr) (n1 c1 : Nat) (A2 : Option Addr) (n2 c2 : Nat) (A3 : Option Addr) (n3 c3 : Nat), s5 = .pointer (some ⟨g, 0, none⟩) ∧ RW (w.heap.size + 1 + 1 + 1) V wx (.slice A1 n1 c1) (.slice A2 n2 c2) (.slice A3 n3 c3) b.accs xs b.ended ∧ Bx wx g (.slice A1 n1 c1) (.slice A2 n2 c2) (.slice A3 n3 c3) ∧ (w.heap.size + 1 + 1 + 1) ≤ g)
  case first =>
    (with_reducible refine Gr.region_grow (ol := ?ol) 14 [(7, Gr.litF 46 (w.heap.size + 1 + 1 + 1)), (10, Gr.rowF (w.heap.size + 1 + 1 + 1) 46 b.accs), (11, Gr.litF 51 (w.heap.size + 1 + 1 + 1)), (14, Gr.rowF (w.heap.size + 1 + 1 + 1) 51 xs), (15, Gr.litF 3 (w.heap.size + 1 + 1 + 1)), (18, Gr.rowF (w.heap.size + 1 + 1 + 1) 3 b.ended), (19, Gr.triF (Gr.rowF (w.heap.size + 1 + 1 + 1) 46 b.accs) (Gr.rowF (w.heap.size + 1 + 1 + 1) 51 xs) (Gr.rowF (w.heap.size + 1 + 1 + 1) 3 b.ended)), (5, Gr.boxF 99 (w.heap.size + 1 + 1 + 1) #[.slice none 0 0, .slice none 0 0, .slice none 0 0])] ?_ ?_ ?_ ?_ ?_ ?_ ?_ ?_ ?_)
    rotate_left
    · kernel_rfl
    · rfl
    · rfl
    · kernel_rfl
    · kernel_rfl
    · rfl
    · rfl
    · exact stays_cons (Gr.litF_stays _ _) (stays_cons (Gr.rowF_stays _ _ _) (stays_cons (Gr.litF_stays _ _) (stays_cons (Gr.rowF_stays _ _ _) (stays_cons (Gr.litF_stays _ _) (stays_cons (Gr.rowF_stays _ _ _) (stays_cons (Gr.triF_stays (Gr.rowF_stays _ _ _) (Gr.rowF_stays _ _ _) (Gr.rowF_stays _ _ _)) (stays_cons (Gr.boxF_stays _ _ _) stays_nil)))))))
    intro hnonemp hcr
    simp only [List.take_succ_cons, List.take_zero]
    refine Gr.gr_lit 7 29 46 (w.heap.size + 1 + 1 + 1) rfl rfl rfl rfl (by simp only [Act.put, List.setIfInBounds_toArray, List.set_cons_succ, List.set_cons_zero]; rfl) hC (fun W => by kernel_rfl) ?_
    refine Gr.gr_plain rfl rfl rfl ?_; (first | go_big_quiet_skip | (go_big_quiet_want; go_big_quiet_op; go_big_quiet_on)); refine wpQuiet_nil ?_
    refine Gr.gr_plain rfl rfl rfl ?_; (first | go_big_quiet_skip | (go_big_quiet_want; go_big_quiet_op; go_big_quiet_on)); refine wpQuiet_nil ?_
    refine Gr.gr_append (α := Ac) 10 7 (.tmp 9) 29 46 _ _ 56 b.accs Aa na ca rfl rfl rfl rfl rfl (by simp only [Act.put, List.setIfInBounds_toArray, List.set_cons_succ, List.set_cons_zero]; rfl) (fun vals => rfl) Try.underlying29 infoRA rfl HNa.out HSa.out (by omega) (by decide) ?_
    refine Gr.gr_lit 11 30 51 (w.heap.size + 1 + 1 + 1) rfl rfl rfl rfl (by simp only [Act.put, List.setIfInBounds_toArray, List.set_cons_succ, List.set_cons_zero]; rfl) hC (fun W => by kernel_rfl) ?_
    refine Gr.gr_plain rfl rfl rfl ?_; (first | go_big_quiet_skip | (go_big_quiet_want; go_big_quiet_op; go_big_quiet_on)); refine wpQuiet_nil ?_
    refine Gr.gr_plain rfl rfl rfl ?_; (first | go_big_quiet_skip | (go_big_quiet_want; go_big_quiet_op; go_big_quiet_on)); refine wpQuiet_nil ?_
    refine Gr.gr_append (α := Sv) 14 11 (.tmp 13) 30 51 _ _ 96 xs As ns cs rfl rfl rfl rfl rfl (by simp only [Act.put, List.setIfInBounds_toArray, List.set_cons_succ, List.set_cons_zero]; rfl) (fun vals => rfl) Try.underlying30 infoSb rfl HNs.out HSs.out (by omega) (by decide) ?_
    refine Gr.gr_lit 15 44 3 (w.heap.size + 1 + 1 + 1) rfl rfl rfl rfl (by simp only [Act.put, List.setIfInBounds_toArray, List.set_cons_succ, List.set_cons_zero]; rfl) hC (fun W => by kernel_rfl) ?_
    refine Gr.gr_plain rfl rfl rfl ?_; (first | go_big_quiet_skip | (go_big_quiet_want; go_big_quiet_op; go_big_quiet_on)); refine wpQuiet_nil ?_
    refine Gr.gr_plain rfl rfl rfl ?_; (first | go_big_quiet_skip | (go_big_quiet_want; go_big_quiet_op; go_big_quiet_on)); refine wpQuiet_nil ?_
    refine Gr.gr_append (α := Int) 18 15 (.tmp 17) 44 3 _ _ 8 b.ended Ae ne ce rfl rfl rfl rfl rfl (by simp only [Act.put, List.setIfInBounds_toArray, List.set_cons_succ, List.set_cons_zero]; rfl) (fun vals => rfl) Try.underlying44 infoI rfl HNe.out HSe.out (by omega) (by decide) ?_
    refine Gr.gr_tri 19 10 14 18 99 rfl rfl rfl rfl rfl rfl rfl (by simp only [Act.put, List.setIfInBounds_toArray, List.set_cons_succ, List.set_cons_zero]; rfl) (fun v w ⟨A, n, c, h, _⟩ => ⟨A, n, c, h⟩) (fun v w ⟨A, n, c, h, _⟩ => ⟨A, n, c, h⟩) (fun v w ⟨A, n, c, h, _⟩ => ⟨A, n, c, h⟩) (fun _ _ _ _ _ _ _ _ _ _ => by kernel_rfl) ?_
    refine Gr.gr_box 5 99 (w.heap.size + 1 + 1 + 1) #[.slice none 0 0, .slice none 0 0, .slice none 0 0] rfl rfl rfl rfl (by simp only [Act.put, List.setIfInBounds_toArray, List.set_cons_succ, List.set_cons_zero]; rfl) hC (fun W => by kernel_rfl) ?_
    intro wq vals hgq hkn
    simp only [over, Nk, List.map_cons, List.map_nil, List.foldl_cons, List.foldl_nil, Act.put, List.setIfInBounds_toArray, List.set_cons_succ, List.set_cons_zero]
    clear hcr
    obtain ⟨v1, v2, v3, e19, ⟨A1, n1, c1, rfl, hn1, o1⟩, ⟨A2, n2, c2, rfl, hn2, o2⟩, ⟨A3, n3, c3, rfl, hn3, o3⟩⟩ := hkn 12 _ 19 (by decide) rfl rfl _ rfl
    obtain ⟨g, e5, hgB, hg5⟩ := hkn 13 _ 5 (by decide) rfl rfl _ rfl
    rw [e19, e5]
    obtain rfl : n1 = na := by omega
    obtain rfl : n2 = ns := by omega
    obtain rfl : n3 = ne := by omega
    clear hn1 hn2 hn3
    have HX : Bx wq g (.slice none 0 0) (.slice none 0 0) (.slice none 0 0) := hg5
    have k0 := HX.c0
    have k1 := HX.c1
    have k2 := HX.c2
    have kf := HX.fz
    have hgl := HX.lt
    clear hkn e19 e5 hg5 hnonemp
    go_wp2_with fail
    go_meet
    have hap := ap_store (C := (w.heap.size + 1 + 1 + 1)) (V := V) (⟨o1, o2, o3, hgq.mono hC, Nat.le_trans hC hgq.size⟩ : RW (w.heap.size + 1 + 1 + 1) V wq _ _ _ b.accs xs b.ended) HX hgB
    exact ⟨g, A1, _, c1, A2, _, c2, A3, _, c3, rfl, hap.1, hap.2, hgB⟩
  case rest =>
    obtain ⟨g, A1, n1, c1, A2, n2, c2, A3, n3, c3, rfl, hrw, hbx, hgB⟩ := hcut
    have HRW := Lib.hid hrw
    have HBX := Lib.hid hbx
    have hl1 : b.accs.length = n1 := (rowLS hrw.a).2.len
    have hl2 : xs.length = n2 := (rowLS hrw.s).2.len
    have hl3 : b.ended.length = n3 := (rowLS hrw.e).2.len
    have g0 := hbx.c0
    have g1 := hbx.c1
    have g2 := hbx.c2
    have gf := hbx.fz
    have hgl := hbx.lt
    have hsw := hrw.bs
    have HVrc0 := Lib.hid rc0
    have HVrc1 := Lib.hid rc1
    have HVrc2 := Lib.hid rc2
    have HVqb1 := Lib.hid qb1
    have HVqb3 := Lib.hid qb3
    have HVff3 := Lib.hid ff3
    replace qa0 := (hrw.hb.cell (p := ⟨w.heap.size, 0, none⟩) (by dsimp only; omega)).trans qa0
    replace qa1 := (hrw.hb.cell (p := ⟨w.heap.size, 1, none⟩) (by dsimp only; omega)).trans qa1
    replace qa2 := (hrw.hb.cell (p := ⟨w.heap.size, 2, none⟩) (by dsimp only; omega)).trans qa2
    replace qb0 := (hrw.hb.cell (p := ⟨w.heap.size + 1, 0, none⟩) (by dsimp only; omega)).trans qb0
    replace qb1 := (hrw.hb.cell (p := ⟨w.heap.size + 1, 1, none⟩) (by dsimp only; omega)).trans qb1
    replace qb2 := (hrw.hb.cell (p := ⟨w.heap.size + 1, 2, none⟩) (by dsimp only; omega)).trans qb2
    replace qb3 := (hrw.hb.cell (p := ⟨w.heap.size + 1, 3, none⟩) (by dsimp only; omega)).trans qb3
    replace qb4 := (hrw.hb.cell (p := ⟨w.heap.size + 1, 4, none⟩) (by dsimp only; omega)).trans qb4
    replace qb5 := (hrw.hb.cell (p := ⟨w.heap.size + 1, 5, none⟩) (by dsimp only; omega)).trans qb5
    replace qb6 := (hrw.hb.cell (p := ⟨w.heap.size + 1, 6, none⟩) (by dsimp only; omega)).trans qb6
    replace rc0 := (hrw.hb.cell (p := ⟨w.heap.size + 1 + 1, 0, none⟩) (by dsimp only; omega)).trans rc0
    replace rc1 := (hrw.hb.cell (p := ⟨w.heap.size + 1 + 1, 1, none⟩) (by dsimp only; omega)).trans rc1
    replace rc2 := (hrw.hb.cell (p := ⟨w.heap.size + 1 + 1, 2, none⟩) (by dsimp only; omega)).trans rc2
    replace ff3 := fun j => (hrw.hb.frozen (p := ⟨w.heap.size + 1 + 1, j, none⟩) (by dsimp only; omega)).trans (ff3 j)
    have hbwc : Below w.heap.size w wc := hbV.trans (hrw.hb.mono (by omega))
    have HALL0 : Hid (All2 (SRP w (fun b => b < w.heap.size)) xs b.subs) := Lib.hid (HALL.out.imp fun _ _ h => famS.mono (famS.lt h.all) (fun b hb => hb.2))
    have HL1 := Lib.hid hl1
    have HL2 := Lib.hid hl2
    have HL3 := Lib.hid hl3
    have HGW := Lib.hid hgl
    have HLn : Hid (b.accs.length = na ∧ xs.length = ns ∧ b.ended.length = ne) := Lib.hid ⟨hlna, hlns, hlne⟩
    clear hrw hbx ff1 hlna hlns hlne hl1 hl2 hl3 HSa HSs HSe hg0
    have hg0 : w.heap.size < wc.heap.size := by omega
    have hg1 : w.heap.size + 1 < wc.heap.size := by omega
    have hKK : K = 1 ∨ K = 2 ∨ K = 3 ∨ (4 ≤ K ∧ K ≤ 13) ∨ K = 14 ∨ K = 15 := by omega
    rcases hKK with rfl | rfl | rfl | hK | rfl | rfl
    · skip
      obtain ⟨pb, hpb⟩ : ∃ b, (name.toList == [112, 114, 101, 112, 97, 105, 100]) = b := ⟨_, rfl⟩
      have HPB := Lib.hid hpb
      have HWA := Lib.hid HRW.out
      have HXA := Lib.hid HBX.out
      have hsW := HWA.out.bs
      go_upto_region 16 with (at_builtin; go_must (refine wpl_append1 _ rfl (.tmp 50) (.tmp 61) 29 rfl (w.heap.size + 1 + 1 + 1) 46 _ 56 Try.underlying29 infoRA rfl (.slice A1 n1 c1) b.accs rfl (HWA.out.a.alloc _) _ (⟨acc, at_, val, pb, false⟩ : Ac) rfl (fun j u hu => cells_new _ _ _ _ _ (by simp) u hu) (by have := HLn.out; omega) (by omega) (by rw [World.size_alloc]; omega) ?_; intro v6 w6 ho6 hu6; have HRW6 := Lib.hid ((HWA.out.below ((Below.refl _ _).alloc (Nat.le_refl _) _)).upA hu6 ho6); have HBX6 := Lib.hid ((HXA.out.below ((Below.refl _ _).alloc (Nat.le_refl _) _)).upd (HWA.out.a.alloc _) (by decide) hu6); have HU6 := Lib.hid hu6; obtain ⟨A6, c6, rfl, _, _⟩ := ho6.val; have k0 := HBX6.out.c0; have k1 := HBX6.out.c1; have k2 := HBX6.out.c2; have kf := HBX6.out.fz; have kl := HBX6.out.lt; clear ho6 hu6))
      replace HRW6 := Lib.hid (by have h := HRW6.out; rw [List.length_append, List.length_singleton] at h; exact h)
      obtain ⟨X, hX⟩ : ∃ X, X = w6.setCell ⟨g, 0, none⟩ (.slice A6 (b.accs.length + 1) c6) := ⟨_, rfl⟩
      rw [← hX]
      have HBXX := Lib.hid (HBX6.out.set0 (.slice A6 (b.accs.length + 1) c6))
      have HRWX := Lib.hid (HRW6.out.setB (o := 0) HBX6.out hgB (.slice A6 (b.accs.length + 1) c6))
      rw [← hX] at HBXX HRWX
      replace g0 := HBXX.out.c0
      replace g1 := HBXX.out.c1
      replace g2 := HBXX.out.c2
      replace gf := HBXX.out.fz
      replace hgl := HBXX.out.lt
      have HXE := Lib.hid hX
      clear k0 k1 k2 kf kl hX
      replace rc0 := (HRWX.out.hb.cell (p := ⟨w.heap.size + 1 + 1, 0, none⟩) (by dsimp only; omega)).trans HVrc0.out
      replace rc1 := (HRWX.out.hb.cell (p := ⟨w.heap.size + 1 + 1, 1, none⟩) (by dsimp only; omega)).trans HVrc1.out
      replace rc2 := (HRWX.out.hb.cell (p := ⟨w.heap.size + 1 + 1, 2, none⟩) (by dsimp only; omega)).trans HVrc2.out
      replace ff3 := fun j => (HRWX.out.hb.frozen (p := ⟨w.heap.size + 1 + 1, j, none⟩) (by dsimp only; omega)).trans (HVff3.out j)
      have hpq : seq_ name nPre = pb := by unfold seq_; rw [hpre]; exact HPB.out
      have HQ := Lib.hid (show applyR b ⟨at_, 1, acc, sub, num, name, val⟩ = { b with accs := b.accs ++ [⟨acc, at_, val, pb, false⟩] } by unfold applyR; simp [hpq])
      have hbX := hbV.trans (HRWX.out.hb.mono (by omega))
      go_wp2_with fail
      have hr := setRun_is (vs := [.slice A6 (b.accs.length + 1) c6, .slice A2 n2 c2, .slice A3 n3 c3]) (three rc0 rc1 rc2) (Nat.le_refl _)
      refine bodyPost_ret (results_cells rfl _ _ (w.heap.size + 1 + 1) ⟨[.slice A6 (b.accs.length + 1) c6, .slice A2 n2 c2, .slice A3 n3 c3]⟩ _ rfl hr rfl rfl rfl) rfl ?_
      have hd := ap_done (w := w) (D := wc.heap.size) (R := w.heap.size + 1 + 1) (C := (w.heap.size + 1 + 1 + 1)) (b' := applyR b ⟨at_, 1, acc, sub, num, name, val⟩) (by omega) (by omega) (by omega) hsw hbV (HRWX.out) ((by rw [HQ.out])) ((by rw [HQ.out])) (by rw [HQ.out]; exact HALL0.out.imp fun _ _ x => famS.mono (famS.keep x (Keeps.ofBelow hbX)) fun b hb => .inl hb)
      exact ⟨⟨_, _, _, _, _, _, _, _, _, rfl, hd.1⟩, hd.2⟩
    · skip
      have hA' := hA rfl
      rcases idxL_cases Ac.id b.accs acc with ⟨hi, hf⟩ | ⟨k, ac, hi, hk, hx, hf, hid, hno⟩
      · rw [show findA b acc = none from hf] at hA'; cases hA'
      have HI := Lib.hid hi
      have HQ := Lib.hid (show applyR b ⟨at_, 2, acc, sub, num, name, val⟩ = { b with accs := b.accs.set k { ac with closed := true } } by
        unfold applyR
        simp only [show (2 : Int) = 1 ↔ False by decide, if_false, if_true]
        rw [mapFirst_set (f := fun a : Ac => { a with closed := true }) hx (by simpa using hid) (fun m y hm hy => by simpa using hno m y hm hy)])
      obtain ⟨G, cap, cur, hv1, hG, _⟩ := Ow.whole HRW.out.a (by omega)
      injection hv1 with hv1 hv2 hv3
      subst hv1 hv3
      clear hv2
      have hOa := HRW.out.a
      have hGl := hOa.ltG
      have e4 : wc.cell? ⟨G, k * 6 + 4, none⟩ = some (.bool ac.closed) := Ow.at_ hOa hx 4 rfl
      have eF := fun j => Ow.unfrozen hOa j
      have HX := Lib.hid hx
      have hkn : k < n1 := by have := HL1.out; omega
      have hn1m : n1 ≤ 9223372036854775807 := by have := HLn.out; have := HL1.out; omega
      clear hi hf hid hno hx hk hOa hA'
      go_upto_region 10 with (fail)
      refine Gr.region_grow 8 [] (by kernel_rfl) rfl rfl (by kernel_rfl) (by kernel_rfl) (by rfl) (by rfl) stays_nil ?_
      intro hnonemp hcr
      simp only [List.take_succ_cons, List.take_zero]
      refine Gr.gr_plain rfl rfl rfl ?_; (first | go_big_quiet_skip | (go_big_quiet_want; go_big_quiet_op; go_big_quiet_on)); refine wpQuiet_nil ?_
      refine Gr.gr_plain rfl rfl rfl ?_; (first | go_big_quiet_skip | (go_big_quiet_want; go_big_quiet_op; go_big_quiet_on)); refine wpQuiet_nil ?_
      refine Gr.gr_plain rfl rfl rfl ?_; (first | go_big_quiet_skip | (go_big_quiet_want; go_big_quiet_op; go_big_quiet_on)); refine wpQuiet_nil ?_
      refine Gr.gr_plain rfl rfl rfl ?_; (first | go_big_quiet_skip | (go_big_quiet_want; go_big_quiet_op; go_big_quiet_on)); refine wpQuiet_nil ?_
      refine Gr.gr_plain rfl rfl rfl ?_; (first | go_big_quiet_skip | (go_big_quiet_want; go_big_quiet_op; go_big_quiet_on)); refine wpQuiet_nil ?_
      refine Gr.gr_one (.int .i64 (k : Int)) Try.func79 (by kernel_rfl) rfl rfl rfl rfl (by simp only [Act.put, List.setIfInBounds_toArray, List.set_cons_succ, List.set_cons_zero]; rfl) (fun z vals hv => ?_) ?_
      · exact ⟨#[.agg #[.slice Aa na ca, .slice As ns cs, .slice Ae ne ce], .int .i64 acc], (by first | (simp [ev, Act.eval] <;> rfl) | (simp [ev, Act.eval, It.val]; done)), (raccount_any _ _ _ _ _ _ _ _ _ b acc z.w (HB.out.on (hbwc.trans (z.h.mono hbwc.size)))).mono fun e w' ⟨h, hb⟩ => ⟨by rw [h, HI.out], hb⟩⟩
      refine Gr.gr_plain rfl rfl rfl ?_; (first | go_big_quiet_skip | (go_big_quiet_want; go_big_quiet_op; go_big_quiet_on)); refine wpQuiet_nil ?_
      refine Gr.gr_plain rfl rfl rfl ?_; (first | go_big_quiet_skip | (go_big_quiet_want; go_big_quiet_op; go_big_quiet_on)); refine wpQuiet_nil ?_
      intro wq vals hgq hkn
      simp only [over, Nk, List.map_cons, List.map_nil, List.foldl_cons, List.foldl_nil, Act.put, List.setIfInBounds_toArray, List.set_cons_succ, List.set_cons_zero]
      clear hcr hkn hnonemp
      have HRWq := Lib.hid (HRW.out.below hgq)
      have HBXq := Lib.hid (HBX.out.below hgq)
      replace e4 := (hgq.cell (p := ⟨G, k * 6 + 4, none⟩) hGl.2).trans e4
      replace eF := fun j => (hgq.frozen (p := ⟨G, j, none⟩) hGl.2).trans (eF j)
      have hGq : G < wq.heap.size := Nat.lt_of_lt_of_le hGl.2 hgq.size
      have hszq := hgq.size
      go_upto_region 16 with (fail)
      obtain ⟨X, hX⟩ : ∃ X, X = wq.setCell ⟨G, k * 6 + 4, none⟩ (.bool true) := ⟨_, rfl⟩
      rw [← hX]
      have hst := Ow.stored HRWq.out.a HX.out (x' := { ac with closed := true }) 4 (.bool true) (by decide) rfl
      have hup := Upd.stored (Upd.refl wq (.slice (some ⟨G, 0, none⟩) n1 c1)) (k * 6 + 4) (.bool true)
      have HRWX := Lib.hid (HRWq.out.upA hup hst)
      have HBXX := Lib.hid (HBXq.out.upd HRWq.out.a (by decide) hup)
      rw [← hX] at HRWX HBXX
      replace g0 := HBXX.out.c0
      replace g1 := HBXX.out.c1
      replace g2 := HBXX.out.c2
      replace gf := HBXX.out.fz
      replace hgl := HBXX.out.lt
      have HXE := Lib.hid hX
      clear hX hst hup e4 eF
      replace rc0 := (HRWX.out.hb.cell (p := ⟨w.heap.size + 1 + 1, 0, none⟩) (by dsimp only; omega)).trans HVrc0.out
      replace rc1 := (HRWX.out.hb.cell (p := ⟨w.heap.size + 1 + 1, 1, none⟩) (by dsimp only; omega)).trans HVrc1.out
      replace rc2 := (HRWX.out.hb.cell (p := ⟨w.heap.size + 1 + 1, 2, none⟩) (by dsimp only; omega)).trans HVrc2.out
      replace ff3 := fun j => (HRWX.out.hb.frozen (p := ⟨w.heap.size + 1 + 1, j, none⟩) (by dsimp only; omega)).trans (HVff3.out j)
      have hbX := hbV.trans (HRWX.out.hb.mono (by omega))
      go_wp2_with fail
      have hr := setRun_is (vs := [.slice (some ⟨G, 0, none⟩) n1 c1, .slice A2 n2 c2, .slice A3 n3 c3]) (three rc0 rc1 rc2) (Nat.le_refl _)
      refine bodyPost_ret (results_cells rfl _ _ (w.heap.size + 1 + 1) ⟨[.slice (some ⟨G, 0, none⟩) n1 c1, .slice A2 n2 c2, .slice A3 n3 c3]⟩ _ rfl hr rfl rfl rfl) rfl ?_
      have hd := ap_done (w := w) (D := wc.heap.size) (R := w.heap.size + 1 + 1) (C := (w.heap.size + 1 + 1 + 1)) (b' := applyR b ⟨at_, 2, acc, sub, num, name, val⟩) (by omega) (by omega) (by omega) hsw hbV (HRWX.out) ((by rw [HQ.out])) ((by rw [HQ.out])) (by rw [HQ.out]; exact HALL0.out.imp fun _ _ x => famS.mono (famS.keep x (Keeps.ofBelow hbX)) fun b hb => .inl hb)
      exact ⟨⟨_, _, _, _, _, _, _, _, _, rfl, hd.1⟩, hd.2⟩
    · skip
      have HWA := Lib.hid HRW.out
      have HXA := Lib.hid HBX.out
      have hsW := HWA.out.bs
      go_upto_region 16 with (at_builtin; go_must (refine wpl_append1 _ rfl (.tmp 77) (.tmp 87) 30 rfl (w.heap.size + 1 + 1 + 1) 51 _ 96 Try.underlying30 infoSb rfl (.slice A2 n2 c2) xs rfl (HWA.out.s.alloc _) _ (⟨sub, acc, at_, name, none, 0, 0, none, 0, 0, false, false⟩ : Sv) rfl (fun j u hu => cells_new _ _ _ _ _ (by simp) u hu) (by have := HLn.out; omega) (by omega) (by rw [World.size_alloc]; omega) ?_; intro v6 w6 ho6 hu6; have HRW6 := Lib.hid ((HWA.out.below ((Below.refl _ _).alloc (Nat.le_refl _) _)).upS hu6 ho6); have HBX6 := Lib.hid ((HXA.out.below ((Below.refl _ _).alloc (Nat.le_refl _) _)).upd (HWA.out.s.alloc _) (by decide) hu6); have HU6 := Lib.hid hu6; obtain ⟨A6, c6, rfl, _, _⟩ := ho6.val; have k0 := HBX6.out.c0; have k1 := HBX6.out.c1; have k2 := HBX6.out.c2; have kf := HBX6.out.fz; have kl := HBX6.out.lt; clear ho6 hu6))
      replace HRW6 := Lib.hid (by have h := HRW6.out; rw [List.length_append, List.length_singleton] at h; exact h)
      obtain ⟨X, hX⟩ : ∃ X, X = w6.setCell ⟨g, 1, none⟩ (.slice A6 (xs.length + 1) c6) := ⟨_, rfl⟩
      rw [← hX]
      have HBXX := Lib.hid (HBX6.out.set1 (.slice A6 (xs.length + 1) c6))
      have HRWX := Lib.hid (HRW6.out.setB (o := 1) HBX6.out hgB (.slice A6 (xs.length + 1) c6))
      rw [← hX] at HBXX HRWX
      replace g0 := HBXX.out.c0
      replace g1 := HBXX.out.c1
      replace g2 := HBXX.out.c2
      replace gf := HBXX.out.fz
      replace hgl := HBXX.out.lt
      have HXE := Lib.hid hX
      clear k0 k1 k2 kf kl hX
      replace rc0 := (HRWX.out.hb.cell (p := ⟨w.heap.size + 1 + 1, 0, none⟩) (by dsimp only; omega)).trans HVrc0.out
      replace rc1 := (HRWX.out.hb.cell (p := ⟨w.heap.size + 1 + 1, 1, none⟩) (by dsimp only; omega)).trans HVrc1.out
      replace rc2 := (HRWX.out.hb.cell (p := ⟨w.heap.size + 1 + 1, 2, none⟩) (by dsimp only; omega)).trans HVrc2.out
      replace ff3 := fun j => (HRWX.out.hb.frozen (p := ⟨w.heap.size + 1 + 1, j, none⟩) (by dsimp only; omega)).trans (HVff3.out j)
      have HQ := Lib.hid (show applyR b ⟨at_, 3, acc, sub, num, name, val⟩ = { b with subs := b.subs ++ [⟨sub, acc, at_, name, [], [], false, false⟩] } by unfold applyR; simp)
      have hbX := hbV.trans (HRWX.out.hb.mono (by omega))
      go_wp2_with fail
      have hr := setRun_is (vs := [.slice A1 n1 c1, .slice A6 (xs.length + 1) c6, .slice A3 n3 c3]) (three rc0 rc1 rc2) (Nat.le_refl _)
      refine bodyPost_ret (results_cells rfl _ _ (w.heap.size + 1 + 1) ⟨[.slice A1 n1 c1, .slice A6 (xs.length + 1) c6, .slice A3 n3 c3]⟩ _ rfl hr rfl rfl rfl) rfl ?_
      have hd := ap_done (w := w) (D := wc.heap.size) (R := w.heap.size + 1 + 1) (C := (w.heap.size + 1 + 1 + 1)) (b' := applyR b ⟨at_, 3, acc, sub, num, name, val⟩) (by omega) (by omega) (by omega) hsw hbV (HRWX.out) ((by rw [HQ.out])) ((by rw [HQ.out])) (by rw [HQ.out]; exact All2.snoc (HALL0.out.imp fun _ _ x => famS.mono (famS.keep x (Keeps.ofBelow hbX)) fun b hb => .inl hb) ⟨⟨rfl, rfl, rfl, rfl, fun _ => rfl, Sl.nil_ _, fun _ => rfl, Sl.nil_ _, rfl, rfl⟩, OkA.nil_, OkA.nil_⟩)
      exact ⟨⟨_, _, _, _, _, _, _, _, _, rfl, hd.1⟩, hd.2⟩
    · skip
      have hS' := hS hK.1 hK.2
      rcases idxL_cases Sb.id b.subs sub with ⟨hi, hf⟩ | ⟨k, sb, hi, hk, hx, hf, hid, hno⟩
      · rw [show findS b sub = none from hf] at hS'; cases hS'
      obtain ⟨t, ht⟩ : ∃ t, xs[k]? = some t := ⟨_, List.getElem?_eq_getElem (by have := HALL.out.1; omega)⟩
      have hsr := HALL0.out.2 k t sb ht hx
      have hzz := hz sb (List.mem_of_getElem? hx)
      have HSR := Lib.hid hsr
      have HI := Lib.hid hi
      have HE4 : Hid ((applyR b ⟨at_, K, acc, sub, num, name, val⟩).accs = b.accs ∧ (applyR b ⟨at_, K, acc, sub, num, name, val⟩).subs = b.subs.set k (chgR sb ⟨at_, K, acc, sub, num, name, val⟩) ∧ (applyR b ⟨at_, K, acc, sub, num, name, val⟩).ended = if K = 4 then b.ended ++ [sub] else b.ended) := Lib.hid (by
        unfold applyR
        dsimp only
        rw [if_neg (by omega), if_neg (by omega), if_neg (by omega), if_neg (by omega)]
        exact ⟨rfl, mapFirst_set (f := fun s => chgR s ⟨at_, K, acc, sub, num, name, val⟩) hx (by simpa using hid) (fun m y hm hy => by simpa using hno m y hm hy), rfl⟩)
      obtain ⟨G, cap, cur, hv1, hG, _⟩ := Ow.whole HRW.out.s (by have := (List.getElem?_eq_some_iff.1 ht).1; omega)
      injection hv1 with hv1 hv2 hv3
      subst hv1 hv3
      clear hv2
      have hOa := HRW.out.s
      have hGl := hOa.ltG
      have e0 : wc.cell? ⟨G, k * 8, none⟩ = some (.int .i64 t.id) := Ow.at_ hOa ht 0 rfl
      have e1 : wc.cell? ⟨G, k * 8 + 1, none⟩ = some (.int .i64 t.acc) := Ow.at_ hOa ht 1 rfl
      have e2 : wc.cell? ⟨G, k * 8 + 2, none⟩ = some (.int .i64 t.since) := Ow.at_ hOa ht 2 rfl
      have e3 : wc.cell? ⟨G, k * 8 + 3, none⟩ = some (.string t.plan) := Ow.at_ hOa ht 3 rfl
      have e4 : wc.cell? ⟨G, k * 8 + 4, none⟩ = some (.slice t.An t.nn t.cn) := Ow.at_ hOa ht 4 rfl
      have e5 : wc.cell? ⟨G, k * 8 + 5, none⟩ = some (.slice t.Ap t.np t.cp) := Ow.at_ hOa ht 5 rfl
      have e6 : wc.cell? ⟨G, k * 8 + 6, none⟩ = some (.bool t.susp) := Ow.at_ hOa ht 6 rfl
      have e7 : wc.cell? ⟨G, k * 8 + 7, none⟩ = some (.bool t.fam) := Ow.at_ hOa ht 7 rfl
      have eF := fun j => Ow.unfrozen hOa j
      have HX := Lib.hid ht
      have hkn : k < n2 := by have := HL2.out; have := (List.getElem?_eq_some_iff.1 ht).1; omega
      have hn1m : n2 ≤ 9223372036854775807 := by have := HLn.out; have := HL2.out; omega
      have k1 : ¬ K = 1 := by omega
      have k2 : ¬ K = 2 := by omega
      have k3 : ¬ K = 3 := by omega
      have k14 : ¬ K = 14 := by omega
      have k15 : ¬ K = 15 := by omega
      clear hi hf hid hno hx hk hOa hS' hsr ht
      go_upto_region 4 with (go_at_call 77; go_must (refine (rsub_any _ _ _ _ _ _ _ _ _ b sub _ (HB.out.on hbwc)).mono ?_; rintro r w5 ⟨rfl, hb5⟩; rw [HI.out]))
      have HRW5 := Lib.hid (HRW.out.below hb5)
      have HBX5 := Lib.hid (HBX.out.below hb5)
      have hsz5 := hb5.size
      have hbw5 := hbwc.trans (hb5.mono hbwc.size)
      have hG5 : G < w5.heap.size := by omega
      have hgl5 : g < w5.heap.size := by omega
      have hg05 : w.heap.size < w5.heap.size := by omega
      have hg15 : w.heap.size + 1 < w5.heap.size := by omega
      replace g0 := HBX5.out.c0
      replace g1 := HBX5.out.c1
      replace g2 := HBX5.out.c2
      replace gf := HBX5.out.fz
      replace eF := fun j => (hb5.frozen (p := ⟨G, j, none⟩) hGl.2).trans (eF j)
      have HSR5 := Lib.hid (famS.keep HSR.out (Keeps.ofBelow hbw5))
      replace e0 := (hb5.cell (p := ⟨G, k * 8, none⟩) hGl.2).trans e0
      replace e1 := (hb5.cell (p := ⟨G, k * 8 + 1, none⟩) hGl.2).trans e1
      replace e2 := (hb5.cell (p := ⟨G, k * 8 + 2, none⟩) hGl.2).trans e2
      replace e3 := (hb5.cell (p := ⟨G, k * 8 + 3, none⟩) hGl.2).trans e3
      replace e4 := (hb5.cell (p := ⟨G, k * 8 + 4, none⟩) hGl.2).trans e4
      replace e5 := (hb5.cell (p := ⟨G, k * 8 + 5, none⟩) hGl.2).trans e5
      replace e6 := (hb5.cell (p := ⟨G, k * 8 + 6, none⟩) hGl.2).trans e6
      replace e7 := (hb5.cell (p := ⟨G, k * 8 + 7, none⟩) hGl.2).trans e7
      replace qb0 := (hb5.cell (p := ⟨w.heap.size + 1, 0, none⟩) hg1).trans qb0
      replace qb1 := (hb5.cell (p := ⟨w.heap.size + 1, 1, none⟩) hg1).trans qb1
      replace qb2 := (hb5.cell (p := ⟨w.heap.size + 1, 2, none⟩) hg1).trans qb2
      replace qb3 := (hb5.cell (p := ⟨w.heap.size + 1, 3, none⟩) hg1).trans qb3
      replace qb4 := (hb5.cell (p := ⟨w.heap.size + 1, 4, none⟩) hg1).trans qb4
      replace qb5 := (hb5.cell (p := ⟨w.heap.size + 1, 5, none⟩) hg1).trans qb5
      replace qb6 := (hb5.cell (p := ⟨w.heap.size + 1, 6, none⟩) hg1).trans qb6
      clear hb5
      refine Gr.region_grow 11 [(35, Gr.svF w.heap.size wc.heap.size (chgR sb ⟨at_, K, acc, sub, num, name, val⟩))] (by kernel_rfl) rfl rfl (by kernel_rfl) (by kernel_rfl) (by rfl) (by rfl) (stays_cons (Gr.svF_stays _ _ _) stays_nil) ?_
      intro hnonemp hcr
      simp only [List.take_succ_cons, List.take_zero]
      refine Gr.gr_plain rfl rfl rfl ?_; (first | go_big_quiet_skip | (go_big_quiet_want; go_big_quiet_op; go_big_quiet_on)); refine wpQuiet_nil ?_
      refine Gr.gr_plain rfl rfl rfl ?_; (first | go_big_quiet_skip | (go_big_quiet_want; go_big_quiet_op; go_big_quiet_on)); refine wpQuiet_nil ?_
      refine Gr.gr_plain rfl rfl rfl ?_; (first | go_big_quiet_skip | (go_big_quiet_want; go_big_quiet_op; go_big_quiet_on)); refine wpQuiet_nil ?_
      refine Gr.gr_plain rfl rfl rfl ?_; (first | go_big_quiet_skip | (go_big_quiet_want; go_big_quiet_op; go_big_quiet_on)); refine wpQuiet_nil ?_
      refine Gr.gr_plain rfl rfl rfl ?_; (first | go_big_quiet_skip | (go_big_quiet_want; go_big_quiet_op; go_big_quiet_on)); refine wpQuiet_nil ?_
      refine Gr.gr_plain rfl rfl rfl ?_; (first | go_big_quiet_skip | (go_big_quiet_want; go_big_quiet_op; go_big_quiet_on)); refine wpQuiet_nil ?_
      refine Gr.gr_plain rfl rfl rfl ?_; (first | go_big_quiet_skip | (go_big_quiet_want; go_big_quiet_op; go_big_quiet_on)); refine wpQuiet_nil ?_
      refine Gr.gr_plain rfl rfl rfl ?_; (first | go_big_quiet_skip | (go_big_quiet_want; go_big_quiet_op; go_big_quiet_on)); refine wpQuiet_nil ?_
      refine Gr.gr_plain rfl rfl rfl ?_; (first | go_big_quiet_skip | (go_big_quiet_want; go_big_quiet_op; go_big_quiet_on)); refine wpQuiet_nil ?_
      refine Gr.gr_call 35 _ rfl Try.func106 (by kernel_rfl) rfl rfl rfl rfl (by simp only [Act.put, List.setIfInBounds_toArray, List.set_cons_succ, List.set_cons_zero]; rfl) (fun z vals hv => ?_) ?_
      · refine ⟨#[.agg #[.int .i64 t.id, .int .i64 t.acc, .int .i64 t.since, .string t.plan, .slice t.An t.nn t.cn, .slice t.Ap t.np t.cp, .bool t.susp, .bool t.fam], .agg #[.int .i64 at_, .int .i64 K, .int .i64 acc, .int .i64 sub, .string num, .string name, .int .i64 val]], (by first | (simp [ev, Act.eval] <;> rfl) | (simp [ev, Act.eval, It.val]; done)), (rchanged_any t sb at_ K acc sub val num name (fun b => b < w.heap.size) z.w (famS.keep HSR5.out (Keeps.ofBelow z.h)) (by omega) (by omega) hK.1 hK.2).mono ?_⟩
        rintro e w' ⟨⟨v', rfl, hv'⟩, hb'⟩
        exact ⟨_, rfl, hb', v', rfl, famS.mono hv' fun b hb => hb.imp id fun h => Nat.le_trans (Nat.le_trans hsz5 z.h.size) h⟩
      refine Gr.gr_plain rfl rfl rfl ?_; (first | go_big_quiet_skip | (go_big_quiet_want; go_big_quiet_op; go_big_quiet_on)); refine wpQuiet_nil ?_
      intro wq vals hgq hkn2
      simp only [over, Nk, List.map_cons, List.map_nil, List.foldl_cons, List.foldl_nil, Act.put, List.setIfInBounds_toArray, List.set_cons_succ, List.set_cons_zero]
      obtain ⟨v', e35, hv'⟩ := hkn2 9 _ 35 (by decide) rfl rfl _ rfl
      rw [e35]
      have HSV := Lib.hid hv'
      unfold Sv.val
      clear hcr hkn2 hnonemp e35 hv'
      have HRWq := Lib.hid (HRW5.out.below hgq)
      have HBXq := Lib.hid (HBX5.out.below hgq)
      replace eF := fun j => (hgq.frozen (p := ⟨G, j, none⟩) hG5).trans (eF j)
      have hGq : G < wq.heap.size := Nat.lt_of_lt_of_le hG5 hgq.size
      have hszq := hgq.size
      replace e0 := (hgq.cell (p := ⟨G, k * 8, none⟩) hG5).trans e0
      replace e1 := (hgq.cell (p := ⟨G, k * 8 + 1, none⟩) hG5).trans e1
      replace e2 := (hgq.cell (p := ⟨G, k * 8 + 2, none⟩) hG5).trans e2
      replace e3 := (hgq.cell (p := ⟨G, k * 8 + 3, none⟩) hG5).trans e3
      replace e4 := (hgq.cell (p := ⟨G, k * 8 + 4, none⟩) hG5).trans e4
      replace e5 := (hgq.cell (p := ⟨G, k * 8 + 5, none⟩) hG5).trans e5
      replace e6 := (hgq.cell (p := ⟨G, k * 8 + 6, none⟩) hG5).trans e6
      replace e7 := (hgq.cell (p := ⟨G, k * 8 + 7, none⟩) hG5).trans e7
      replace qb0 := (hgq.cell (p := ⟨w.heap.size + 1, 0, none⟩) hg15).trans qb0
      replace qb1 := (hgq.cell (p := ⟨w.heap.size + 1, 1, none⟩) hg15).trans qb1
      replace qb2 := (hgq.cell (p := ⟨w.heap.size + 1, 2, none⟩) hg15).trans qb2
      replace qb3 := (hgq.cell (p := ⟨w.heap.size + 1, 3, none⟩) hg15).trans qb3
      replace qb4 := (hgq.cell (p := ⟨w.heap.size + 1, 4, none⟩) hg15).trans qb4
      replace qb5 := (hgq.cell (p := ⟨w.heap.size + 1, 5, none⟩) hg15).trans qb5
      replace qb6 := (hgq.cell (p := ⟨w.heap.size + 1, 6, none⟩) hg15).trans qb6
      go_upto_region 5 with (fail)
      obtain ⟨X, hX⟩ : ∃ X, X = ((((((((wq.setCell ⟨G, k * 8, none⟩ (.int .i64 v'.id)).setCell ⟨G, k * 8 + 1, none⟩ (.int .i64 v'.acc)).setCell ⟨G, k * 8 + 2, none⟩ (.int .i64 v'.since)).setCell ⟨G, k * 8 + 3, none⟩ (.string v'.plan)).setCell ⟨G, k * 8 + 4, none⟩ (.slice v'.An v'.nn v'.cn)).setCell ⟨G, k * 8 + 5, none⟩ (.slice v'.Ap v'.np v'.cp)).setCell ⟨G, k * 8 + 6, none⟩ (.bool v'.susp)).setCell ⟨G, k * 8 + 7, none⟩ (.bool v'.fam)) := ⟨_, rfl⟩
      rw [← hX]
      have hst := stored8 HRWq.out.s HX.out v'
      have hup := upd8 (w := wq) (g := G) (n := n2) (cap := c2) (i := k) v'
      have HRWX := Lib.hid (HRWq.out.upS hup hst)
      have HBXX := Lib.hid (HBXq.out.upd HRWq.out.s (by decide) hup)
      have HSX : Hid (SRP X (fun b => b < w.heap.size ∨ wc.heap.size ≤ b) v' (chgR sb ⟨at_, K, acc, sub, num, name, val⟩)) := Lib.hid (by rw [hX]; exact famS.keep HSV.out (keeps8 (fun b hb => by rcases hb with hb | hb <;> omega) v'))
      rw [← hX] at HRWX HBXX
      replace g0 := HBXX.out.c0
      replace g1 := HBXX.out.c1
      replace g2 := HBXX.out.c2
      replace gf := HBXX.out.fz
      replace hgl := HBXX.out.lt
      have HXE := Lib.hid hX
      clear hX hst hup eF e0 e1 e2 e3 e4 e5 e6 e7
      replace rc0 := (HRWX.out.hb.cell (p := ⟨w.heap.size + 1 + 1, 0, none⟩) (by dsimp only; omega)).trans HVrc0.out
      replace rc1 := (HRWX.out.hb.cell (p := ⟨w.heap.size + 1 + 1, 1, none⟩) (by dsimp only; omega)).trans HVrc1.out
      replace rc2 := (HRWX.out.hb.cell (p := ⟨w.heap.size + 1 + 1, 2, none⟩) (by dsimp only; omega)).trans HVrc2.out
      replace qb1 := (HRWX.out.hb.cell (p := ⟨w.heap.size + 1, 1, none⟩) (by dsimp only; omega)).trans HVqb1.out
      replace qb3 := (HRWX.out.hb.cell (p := ⟨w.heap.size + 1, 3, none⟩) (by dsimp only; omega)).trans HVqb3.out
      replace ff3 := fun j => (HRWX.out.hb.frozen (p := ⟨w.heap.size + 1 + 1, j, none⟩) (by dsimp only; omega)).trans (HVff3.out j)
      have hbX := hbV.trans (HRWX.out.hb.mono (by omega))
      have hgX1 : w.heap.size + 1 < X.heap.size := by have := HRWX.out.bs; omega
      have HAX : Hid (All2 (SRP X fun b => b < w.heap.size ∨ wc.heap.size ≤ b) (xs.set k v') (b.subs.set k (chgR sb ⟨at_, K, acc, sub, num, name, val⟩))) := Lib.hid (All2.set_ (HALL0.out.imp fun _ _ x => famS.mono (famS.keep x (Keeps.ofBelow hbX)) fun b hb => .inl hb) k HSX.out)
      by_cases hK4 : K = 4
      · subst hK4
        obtain ⟨Xo, hXo⟩ : ∃ Xo, Xo = X := ⟨_, rfl⟩
        rw [← hXo] at HRWX HBXX HAX hbX hgX1 g0 g1 g2 gf hgl rc0 rc1 rc2 qb1 qb3 ff3 ⊢
        clear hXo HSX HXE
        have HOWN : Hid (∀ b', (b' < w.heap.size ∨ wc.heap.size ≤ b') → (Value.slice A3 n3 c3).ownBlock ≠ some b') := Lib.hid (fun b' hb' e => by have := HRW.out.e.lt b' e; rcases hb' with h | h <;> omega)
        have HWA := Lib.hid HRWX.out
        have HXA := Lib.hid HBXX.out
        have hsW := HWA.out.bs
        go_upto_region 16 with (at_builtin; go_must (refine wpl_append1 _ rfl (.tmp 41) (.tmp 44) 44 rfl (w.heap.size + 1 + 1 + 1) 3 _ 8 Try.underlying44 infoI rfl (.slice A3 n3 c3) b.ended rfl (HWA.out.e.alloc _) _ (sub : Int) rfl (fun j u hu => cells_new _ _ _ _ _ (by simp) u hu) (by have := HLn.out; omega) (by omega) (by rw [World.size_alloc]; omega) ?_; intro v6 w6 ho6 hu6; have HRW6 := Lib.hid ((HWA.out.below ((Below.refl _ _).alloc (Nat.le_refl _) _)).upE hu6 ho6); have HBX6 := Lib.hid ((HXA.out.below ((Below.refl _ _).alloc (Nat.le_refl _) _)).upd (HWA.out.e.alloc _) (by decide) hu6); have HU6 := Lib.hid hu6; obtain ⟨A6, c6, rfl, _, _⟩ := ho6.val; have k0 := HBX6.out.c0; have k1 := HBX6.out.c1; have k2 := HBX6.out.c2; have kf := HBX6.out.fz; have kl := HBX6.out.lt; clear ho6 hu6))
        replace HRW6 := Lib.hid (by have h := HRW6.out; rw [List.length_append, List.length_singleton] at h; exact h)
        obtain ⟨X, hX⟩ : ∃ X, X = w6.setCell ⟨g, 2, none⟩ (.slice A6 (b.ended.length + 1) c6) := ⟨_, rfl⟩
        rw [← hX]
        have HBXX := Lib.hid (HBX6.out.set2 (.slice A6 (b.ended.length + 1) c6))
        have HRWX := Lib.hid (HRW6.out.setB (o := 2) HBX6.out hgB (.slice A6 (b.ended.length + 1) c6))
        rw [← hX] at HBXX HRWX
        replace g0 := HBXX.out.c0
        replace g1 := HBXX.out.c1
        replace g2 := HBXX.out.c2
        replace gf := HBXX.out.fz
        replace hgl := HBXX.out.lt
        have HXE := Lib.hid hX
        clear k0 k1 k2 kf kl hX
        replace rc0 := (HRWX.out.hb.cell (p := ⟨w.heap.size + 1 + 1, 0, none⟩) (by dsimp only; omega)).trans HVrc0.out
        replace rc1 := (HRWX.out.hb.cell (p := ⟨w.heap.size + 1 + 1, 1, none⟩) (by dsimp only; omega)).trans HVrc1.out
        replace rc2 := (HRWX.out.hb.cell (p := ⟨w.heap.size + 1 + 1, 2, none⟩) (by dsimp only; omega)).trans HVrc2.out
        replace ff3 := fun j => (HRWX.out.hb.frozen (p := ⟨w.heap.size + 1 + 1, j, none⟩) (by dsimp only; omega)).trans (HVff3.out j)
        have hkX : Keeps (fun b => b < w.heap.size ∨ wc.heap.size ≤ b) Xo X := by rw [HXE.out]; exact ((Keeps.ofBelow ((Below.refl _ _).alloc (Nat.le_refl _) _)).trans (Keeps.ofUpd HU6.out HOWN.out)).trans (Keeps.ofSet fun b hb => by have := HGW.out; rcases hb with hb | hb <;> omega)
        go_wp2_with fail
        have hr := setRun_is (vs := [.slice A1 n1 c1, .slice (some ⟨G, 0, none⟩) n2 c2, .slice A6 (b.ended.length + 1) c6]) (three rc0 rc1 rc2) (Nat.le_refl _)
        refine bodyPost_ret (results_cells rfl _ _ (w.heap.size + 1 + 1) ⟨[.slice A1 n1 c1, .slice (some ⟨G, 0, none⟩) n2 c2, .slice A6 (b.ended.length + 1) c6]⟩ _ rfl hr rfl rfl rfl) rfl ?_
        have hd := ap_done (w := w) (D := wc.heap.size) (R := w.heap.size + 1 + 1) (C := (w.heap.size + 1 + 1 + 1)) (b' := applyR b ⟨at_, 4, acc, sub, num, name, val⟩) (by omega) (by omega) (by omega) hsw hbV (HRWX.out) (HE4.out.1.symm) (by rw [HE4.out.2.2]; rfl) (by rw [HE4.out.2.1]; exact HAX.out.imp fun _ _ x => famS.keep x hkX)
        exact ⟨⟨_, _, _, _, _, _, _, _, _, rfl, hd.1⟩, hd.2⟩
      · go_wp2_with fail
        have hr := setRun_is (vs := [.slice A1 n1 c1, .slice (some ⟨G, 0, none⟩) n2 c2, .slice A3 n3 c3]) (three rc0 rc1 rc2) (Nat.le_refl _)
        refine bodyPost_ret (results_cells rfl _ _ (w.heap.size + 1 + 1) ⟨[.slice A1 n1 c1, .slice (some ⟨G, 0, none⟩) n2 c2, .slice A3 n3 c3]⟩ _ rfl hr rfl rfl rfl) rfl ?_
        have hd := ap_done (w := w) (D := wc.heap.size) (R := w.heap.size + 1 + 1) (C := (w.heap.size + 1 + 1 + 1)) (b' := applyR b ⟨at_, K, acc, sub, num, name, val⟩) (by omega) (by omega) (by omega) hsw hbV (HRWX.out) (HE4.out.1.symm) (by rw [HE4.out.2.2, if_neg hK4]) (by rw [HE4.out.2.1]; exact HAX.out)
        exact ⟨⟨_, _, _, _, _, _, _, _, _, rfl, hd.1⟩, hd.2⟩
    · skip
      have HQ := Lib.hid (show applyR b ⟨at_, 14, acc, sub, num, name, val⟩ = b by unfold applyR; simp)
      go_wp2_with fail
      have hr := setRun_is (vs := [.slice A1 n1 c1, .slice A2 n2 c2, .slice A3 n3 c3]) (three rc0 rc1 rc2) (Nat.le_refl _)
      refine bodyPost_ret (results_cells rfl _ _ (w.heap.size + 1 + 1) ⟨[.slice A1 n1 c1, .slice A2 n2 c2, .slice A3 n3 c3]⟩ _ rfl hr rfl rfl rfl) rfl ?_
      have hd := ap_done (w := w) (D := wc.heap.size) (R := w.heap.size + 1 + 1) (C := (w.heap.size + 1 + 1 + 1)) (b' := applyR b ⟨at_, 14, acc, sub, num, name, val⟩) (by omega) (by omega) (by omega) hsw hbV (HRW.out) ((by rw [HQ.out])) ((by rw [HQ.out])) (by rw [HQ.out]; exact HALL0.out.imp fun _ _ x => famS.mono (famS.keep x (Keeps.ofBelow hbwc)) fun b hb => .inl hb)
      exact ⟨⟨_, _, _, _, _, _, _, _, _, rfl, hd.1⟩, hd.2⟩
    · skip
      have HQ := Lib.hid (show applyR b ⟨at_, 15, acc, sub, num, name, val⟩ = b by unfold applyR; simp)
      go_wp2_with fail
      have hr := setRun_is (vs := [.slice A1 n1 c1, .slice A2 n2 c2, .slice A3 n3 c3]) (three rc0 rc1 rc2) (Nat.le_refl _)
      refine bodyPost_ret (results_cells rfl _ _ (w.heap.size + 1 + 1) ⟨[.slice A1 n1 c1, .slice A2 n2 c2, .slice A3 n3 c3]⟩ _ rfl hr rfl rfl rfl) rfl ?_
      have hd := ap_done (w := w) (D := wc.heap.size) (R := w.heap.size + 1 + 1) (C := (w.heap.size + 1 + 1 + 1)) (b' := applyR b ⟨at_, 15, acc, sub, num, name, val⟩) (by omega) (by omega) (by omega) hsw hbV (HRW.out) ((by rw [HQ.out])) ((by rw [HQ.out])) (by rw [HQ.out]; exact HALL0.out.imp fun _ _ x => famS.mono (famS.keep x (Keeps.ofBelow hbwc)) fun b hb => .inl hb)
      exact ⟨⟨_, _, _, _, _, _, _, _, _, rfl, hd.1⟩, hd.2⟩
end Cu
end Go.Proofs.Yteaanngagcflhaa
