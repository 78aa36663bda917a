/-
  Subscriptions: the reference's Alike and Spells. No condition.
-/
import Derived.Test.YteaanngagcflhaaKb32
import Derived.Test.YteaanngagcflhaaKb25
import Derived.Test.YteaanngagcflhaaKb20
import Derived.Test.YteaanngagcflhaaKb26
import Derived.BigQuiet
import Derived.StillTailTactics
import Derived.Lib.Overlaps
import Derived.Deep.DeepCutAuto
import Derived.Deep.RegionWith
import Derived.Laws.RangeAny
set_option maxRecDepth 100000
set_option linter.unusedVariables false
set_option linter.unusedSimpArgs false
namespace Go.Proofs.Yteaanngagcflhaa
open Go.RowKit
namespace Ss
open Cu
set_option maxHeartbeats 8000000 in
theorem Alike_any (u v : Lv) (x y : Iv Q) (w : World) (h : LR w u x) (h2 : LR w v y) :
    Calls Try.prog 67 #[.agg #[.int .i64 u.f, .int .i64 u.t, .string u.plan, .slice u.A u.n u.c, .bool u.susp, .bool u.fam], .agg #[.int .i64 v.f, .int .i64 v.t, .string v.plan, .slice v.A v.n v.c, .bool v.susp, .bool v.fam]] w fun r w' => r = .returned (.bool (decide (x.q = y.q))) ∧ Below w.heap.size w w' := by
  obtain ⟨uf, ut, up, Ap, np, cp, uu, ua⟩ := u
  obtain ⟨vf, vt, vp, Bp, mp, dp, vu, va⟩ := v
  have HT : Hid ((up = vp ∧ uu = vu ∧ ua = va ∧ x.q.prods = y.q.prods) → decide (x.q = y.q) = true) := Lib.hid fun ⟨e1, e2, e3, e4⟩ => decide_eq_true (Q.ext_ (by rw [← h.plan, ← h2.plan]; exact e1) e4 (by rw [← h.susp, ← h2.susp]; exact e2) (by rw [← h.fam, ← h2.fam]; exact e3))
  have HN : Hid (¬ (up = vp ∧ uu = vu ∧ ua = va ∧ x.q.prods = y.q.prods) → decide (x.q = y.q) = false) := Lib.hid fun hn => decide_eq_false fun e => hn ⟨by have h3 := h.plan; have h4 := h2.plan; dsimp only at h3 h4; rw [h3, h4, e], by have h3 := h.susp; have h4 := h2.susp; dsimp only at h3 h4; rw [h3, h4, e], by have h3 := h.fam; have h4 := h2.fam; dsimp only at h3 h4; rw [h3, h4, e], by rw [e]⟩
  have H3 : Hid (Sl w Ap np cp x.q.prods) := Lib.hid h.a
  have H4 : Hid (Sl w Bp mp dp y.q.prods) := Lib.hid h2.a
  clear h h2
  obtain ⟨E, hE⟩ : ∃ E, decide (x.q = y.q) = E := ⟨_, rfl⟩
  rw [hE] at HT HN ⊢
  obtain ⟨xd, hxd⟩ : ∃ l, x.q.prods = l := ⟨_, rfl⟩
  obtain ⟨yd, hyd⟩ : ∃ l, y.q.prods = l := ⟨_, rfl⟩
  rw [hxd, hyd] at HT HN
  rw [hxd] at H3
  rw [hyd] at H4
  clear hE hxd hyd
  dsimp only
  go_enter Try.func67, Try.ntmps67
  go_upto_region 1 with (fail)
  (obtain ⟨W, hWW, hbW, hzW, f1W, f2W, qfa, qfb⟩ := box2 w #[.int .i64 uf, .int .i64 ut, .string up, .slice Ap np cp, .bool uu, .bool ua] 76 #[.int .i64 vf, .int .i64 vt, .string vp, .slice Bp mp dp, .bool vu, .bool va] 76; rw [← hWW]; have qa0 : W.cell? ⟨w.heap.size, 0, none⟩ = some (.int .i64 uf) := f1W 0 _ rfl; have qa1 : W.cell? ⟨w.heap.size, 1, none⟩ = some (.int .i64 ut) := f1W 1 _ rfl; have qa2 : W.cell? ⟨w.heap.size, 2, none⟩ = some (.string up) := f1W 2 _ rfl; have qa3 : W.cell? ⟨w.heap.size, 3, none⟩ = some (.slice Ap np cp) := f1W 3 _ rfl; have qa4 : W.cell? ⟨w.heap.size, 4, none⟩ = some (.bool uu) := f1W 4 _ rfl; have qa5 : W.cell? ⟨w.heap.size, 5, none⟩ = some (.bool ua) := f1W 5 _ rfl; have qb0 : W.cell? ⟨w.heap.size + 1, 0, none⟩ = some (.int .i64 vf) := f2W 0 _ rfl; have qb1 : W.cell? ⟨w.heap.size + 1, 1, none⟩ = some (.int .i64 vt) := f2W 1 _ rfl; have qb2 : W.cell? ⟨w.heap.size + 1, 2, none⟩ = some (.string vp) := f2W 2 _ rfl; have qb3 : W.cell? ⟨w.heap.size + 1, 3, none⟩ = some (.slice Bp mp dp) := f2W 3 _ rfl; have qb4 : W.cell? ⟨w.heap.size + 1, 4, none⟩ = some (.bool vu) := f2W 4 _ rfl; have qb5 : W.cell? ⟨w.heap.size + 1, 5, none⟩ = some (.bool va) := f2W 5 _ rfl; clear hWW f1W f2W)
  by_cases q0 : up = vp
  case neg =>
    obtain ⟨b0, d0⟩ := bs_f q0
    have HQ := Lib.hid (HN.out (fun e => q0 e.1))
    clear q0 HT HN
    go_wp2_with fail
    go_ret
    exact ⟨ret_bool HQ.out.symm, hbW⟩
  obtain ⟨b0, d0⟩ := bs_t q0
  have Q0 := Lib.hid q0
  clear q0
  by_cases q1 : uu = vu
  case neg =>
    obtain ⟨b1, d1⟩ := be_f q1
    have HQ := Lib.hid (HN.out (fun e => q1 e.2.1))
    clear q1 HT HN
    go_wp2_with fail
    go_ret
    exact ⟨ret_bool HQ.out.symm, hbW⟩
  obtain ⟨b1, d1⟩ := be_t q1
  have Q1 := Lib.hid q1
  clear q1
  by_cases q2 : ua = va
  case neg =>
    obtain ⟨b2, d2⟩ := be_f q2
    have HQ := Lib.hid (HN.out (fun e => q2 e.2.2.1))
    clear q2 HT HN
    go_wp2_with fail
    go_ret
    exact ⟨ret_bool HQ.out.symm, hbW⟩
  obtain ⟨b2, d2⟩ := be_t q2
  have Q2 := Lib.hid q2
  clear q2
  go_wp2_with fail
  refine (SameTexts_any Ap Bp np cp mp dp xd yd _ (H3.out.below hbW) (H4.out.below hbW)).mono ?_
  rintro r w2 ⟨⟨t1, rfl, ht1⟩, hb2⟩
  have HT1 : Hid (t1 = E) := Lib.hid (by
    cases t1
    · exact (HN.out (fun e => by have := ht1.2 e.2.2.2; cases this)).symm
    · exact (HT.out ⟨Q0.out, Q1.out, Q2.out, ht1.1 rfl⟩).symm)
  clear ht1
  go_wp2_with fail
  go_ret
  exact ⟨ret_bool HT1.out, hbW.trans (hb2.mono hbW.size)⟩
theorem addI_nil {out : List (Iv Q)} {q : Q} {f t : Int} (h : out.length = 0) : addI out q f t = out ++ [⟨f, t, q⟩] := by
  obtain rfl := List.eq_nil_of_length_eq_zero h; rfl
theorem addI_at {out : List (Iv Q)} {q : Q} {f t : Int} {n : Nat} {d : Iv Q} (hn : out.length = n) (hd : out[n - 1]? = some d) : addI out q f t = if d.to_ = f ∧ d.q = q then out.set (n - 1) ⟨d.from_, t, d.q⟩ else out ++ [⟨f, t, q⟩] := by
  have hl : out.getLast? = some d := by rw [List.getLast?_eq_getElem?, hn, hd]
  have h0 : 0 < n := by
    by_cases h0 : 0 < n
    · exact h0
    · have := (List.getElem?_eq_some_iff.1 hd).1; omega
  unfold addI
  rw [hl]
  dsimp only
  split
  · have hne : out ≠ [] := fun e => by rw [e] at hl; cases hl
    have hs := List.dropLast_concat_getLast hne
    conv => rhs; rw [← hs]
    rw [List.set_append_right _ _ (by rw [List.length_dropLast]; omega)]
    congr 1
    rw [List.length_dropLast, hn, Nat.sub_self]; rfl
  · rfl
theorem spI_len {l : List Ev} {x : Int} : ∀ k, (spI l x k).length ≤ k
  | 0 => Nat.le_refl _
  | k + 1 => by
    have ih := spI_len (l := l) (x := x) k
    cases h : l[k]? with
    | none => show (match l[k]? with | some e => stepI l x k e (spI l x k) | none => spI l x k).length ≤ _; rw [h]; dsimp only; omega
    | some e =>
      rw [spI_succ h]
      unfold stepI
      split
      · omega
      · split
        · omega
        · unfold addI
          split
          · split
            · simp only [List.length_append, List.length_dropLast, List.length_singleton]; omega
            · simp; omega
          · simp; omega
def stepO (o : Option Q) (out : List (Iv Q)) (f t : Int) : List (Iv Q) := match o with
  | none => out
  | some q => addI out q f t
theorem find_st {l : List Ev} (hv : Vl l) (x t : Int) : stQ l x t = ((cSubs (bkAt l t)).find? (fun y => y.id == x)).map qOf := by
  rw [find_cSubs (at_inv hv t).2]; rfl
theorem all2_setL {R : Lv → Iv Q → Prop} {xs : List Lv} {ys : List (Iv Q)} (h : All2 R xs ys) {x : Lv} {y : Iv Q} (k : R x y) (i : Nat) : All2 R (xs.set i x) (ys.set i y) := all2_set h k i
set_option maxHeartbeats 16000000 in
theorem rSpells_any (A : Option Addr) (n c : Nat) (l : List Ev) (x : Int) (w : World) (hs : Sl w A n c l) (hv : Vl l) :
    Calls Try.prog 56 #[.slice A n c, .int .i64 x] w fun r w' => (∃ A' n' c', r = .returned (.slice A' n' c') ∧ LI w' A' n' c' (spE l x)) ∧ Below w.heap.size w w' := by
  have HS := Lib.hid hs
  have HV := Lib.hid hv
  have HL := Lib.hid hs.len
  have h40 : n ≤ 40 := by have := hs.len; have := hv.1; omega
  clear hs hv
  go_enter Try.func56, Try.ntmps56
  go_wp2_with fail
  go_loopw [5, 6] (fun V i wr => ∃ k : Nat, k ≤ n ∧ i = .int .i64 k ∧ ∃ ys, Ow wr w.heap.size 76 V ys ∧ Rowed LRP w.heap.size wr V ys (spI l x k) ∧ Below w.heap.size w wr) (fun _ i _ => n - (intOf i).toNat)
  case atStart => exact ⟨0, Nat.zero_le _, rfl, [], Ow.nil_ _ _ _, Rowed.nil_, Below.refl _ _⟩
  case round =>
    obtain ⟨k, hk, rfl, ys, ho, hr, hbr⟩ := hrel
    obtain ⟨A1, c1, rfl, _, _⟩ := ho.val
    obtain ⟨n1, hn1⟩ : ∃ n1, ys.length = n1 := ⟨_, rfl⟩
    have hn1k : n1 ≤ k := by rw [← hn1, hr.1]; exact spI_len k
    rw [hn1] at ho hr ⊢
    have HO := Lib.hid ho
    have HR := Lib.hid hr
    have HN1 := Lib.hid hn1
    have hgr := hbr.size
    clear ho hr hn1
    by_cases hlt : k < n
    · obtain ⟨b, off, hAe, hbl, hcells⟩ := HS.out.baseIn hbr (by omega)
      obtain ⟨e, he⟩ := HS.out.get hlt
      have e0 : wr.cell? ⟨b, off + k * 7, none⟩ = some (.int .i64 e.at_) := Sl.at_ hcells he 0 rfl
      have HSUC : Hid (spI l x (k + 1) = if e.at_ = toE l (k + 1) then spI l x k else stepO (stQ l x e.at_) (spI l x k) e.at_ (toE l (k + 1))) := Lib.hid (spI_succ he)
      have HNX : Hid (∀ u, k + 1 < n → l[k + 1]? = some u → Ev.at_ u = toE l (k + 1)) := Lib.hid fun u _ hu => (toE_at hu).symm
      have HLAST : Hid (¬ k + 1 < n → toE l (k + 1) = 12622780800) := Lib.hid fun h => toE_end (by have := HL.out; omega)
      have HC := Lib.hid @hcells
      have HST := Lib.hid (find_st HV.out x e.at_)
      have hkw : IntKind.i64.wrap ((k : Int) + 1) = (k : Int) + 1 := IntWalk.i64_in _ (by omega)
      have hkt : ((k : Int) + 1).toNat = k + 1 := by omega
      have hk0 : (0 : Int) ≤ (k : Int) + 1 := by omega
      obtain ⟨out, hout⟩ : ∃ out, spI l x k = out := ⟨_, rfl⟩
      rw [hout] at HSUC HR
      obtain ⟨tn, htn⟩ : ∃ tn, toE l (k + 1) = tn := ⟨_, rfl⟩
      rw [htn] at HSUC HNX HLAST
      subst hAe
      clear hcells he hout htn
      go_upto_if 28 with fail
      go_cut [8] from 95 (fun v8 wx => v8 = .int .i64 tn ∧ wx = wr)
      case first =>
        by_cases hq : k + 1 < n
        · have hqi : (k : Int) + 1 < (n : Int) := by omega
          obtain ⟨f, hf⟩ := HS.out.get hq
          have f0 : wr.cell? ⟨b, off + (k + 1) * 7, none⟩ = some (.int .i64 f.at_) := Sl.at_ HC.out hf 0 rfl
          have HT := Lib.hid (HNX.out f hq hf)
          clear hf HNX HLAST HC
          go_wp2_with fail
          go_meet
          exact ⟨by rw [HT.out], rfl⟩
        · have hqi : ¬ (k : Int) + 1 < (n : Int) := by omega
          have HT := Lib.hid (HLAST.out hq)
          clear HNX HLAST HC
          go_wp2_with fail
          go_meet
          exact ⟨by rw [HT.out], rfl⟩
      case rest =>
      obtain ⟨rfl, hw⟩ := hcut
      obtain rfl := hw.symm
      clear hw HNX HLAST HC
      obtain ⟨os, hos⟩ : ∃ os, (cSubs (bkAt l e.at_)).find? (fun y => y.id == x) = os := ⟨_, rfl⟩
      have HOS := Lib.hid hos
      rw [hos] at HST
      rw [HST.out] at HSUC
      clear hos HST
      go_upto_region 9 with (go_at_call 35; go_must (refine (rSubQ_any _ n c l x e.at_ _ (HS.out.below hbr) HV.out).mono ?_; rintro r w2 ⟨⟨v, rfl, hsr⟩, hb2⟩; rw [HOS.out] at hsr ⊢; have HSR := Lib.hid hsr; clear hsr; unfold Sv.val))
      (obtain ⟨U, hWU, hbU, hzU, f1U, rfa⟩ := box1 w2 #[.int .i64 v.id, .int .i64 v.acc, .int .i64 v.since, .string v.plan, .slice v.An v.nn v.cn, .slice v.Ap v.np v.cp, .bool v.susp, .bool v.fam] 51; rw [← hWU]; have ra0 : U.cell? ⟨w2.heap.size, 0, none⟩ = some (.int .i64 v.id) := f1U 0 _ rfl; have ra1 : U.cell? ⟨w2.heap.size, 1, none⟩ = some (.int .i64 v.acc) := f1U 1 _ rfl; have ra2 : U.cell? ⟨w2.heap.size, 2, none⟩ = some (.int .i64 v.since) := f1U 2 _ rfl; have ra3 : U.cell? ⟨w2.heap.size, 3, none⟩ = some (.string v.plan) := f1U 3 _ rfl; have ra4 : U.cell? ⟨w2.heap.size, 4, none⟩ = some (.slice v.An v.nn v.cn) := f1U 4 _ rfl; have ra5 : U.cell? ⟨w2.heap.size, 5, none⟩ = some (.slice v.Ap v.np v.cp) := f1U 5 _ rfl; have ra6 : U.cell? ⟨w2.heap.size, 6, none⟩ = some (.bool v.susp) := f1U 6 _ rfl; have ra7 : U.cell? ⟨w2.heap.size, 7, none⟩ = some (.bool v.fam) := f1U 7 _ rfl; clear hWU f1U)
      have HOW := HO
      replace HSR := Lib.hid (famS.keep HSR.out (Keeps.ofBelow hbU))
      have hbwU := hb2.trans (hbU.mono hb2.size)
      replace HO := Lib.hid (HO.out.below hbwU)
      replace HR := Lib.hid (Rowed.below famL HR.out hbwU)
      have hbrU := hbr.trans (hbwU.mono hbr.size)
      have hs2 := hb2.size
      clear hb2 hbU hbwU e0
      rcases be_or e.at_ tn with ⟨heq, b1, d1⟩ | ⟨heq, b1, d1⟩
      · have HE := Lib.hid (HSUC.out.trans (if_pos heq))
        clear heq
        go_wp2_with fail
        go_roundw
        case rel => exact ⟨k + 1, by omega, by go_num, ys, HO.out, by rw [HE.out]; exact HR.out, hbrU⟩
        case measure => simp [intOf]; omega
      replace HSUC := Lib.hid (HSUC.out.trans (if_neg heq))
      clear heq
      cases os with
      | none =>
        go_wp2_with fail
        go_roundw
        case rel => exact ⟨k + 1, by omega, by go_num, ys, HO.out, by rw [HSUC.out]; exact HR.out, hbrU⟩
        case measure => simp [intOf]; omega
      | some sb =>
      have hsrb : SRP U (fun b => wr.heap.size ≤ b) v sb := HSR.out
      have HSB := Lib.hid hsrb
      clear HSR hsrb
      have HSUC2 : Hid (spI l x (k + 1) = addI out (qOf sb) e.at_ tn) := Lib.hid HSUC.out
      go_upto_region 11 with (fail)
      (obtain ⟨Y, hWY, hbY, hzY, f1Y, yfa⟩ := box1 U #[.int .i64 e.at_, .int .i64 tn, .string v.plan, .slice v.Ap v.np v.cp, .bool v.susp, .bool v.fam] 76; rw [← hWY]; have ya0 : Y.cell? ⟨U.heap.size, 0, none⟩ = some (.int .i64 e.at_) := f1Y 0 _ rfl; have ya1 : Y.cell? ⟨U.heap.size, 1, none⟩ = some (.int .i64 tn) := f1Y 1 _ rfl; have ya2 : Y.cell? ⟨U.heap.size, 2, none⟩ = some (.string v.plan) := f1Y 2 _ rfl; have ya3 : Y.cell? ⟨U.heap.size, 3, none⟩ = some (.slice v.Ap v.np v.cp) := f1Y 3 _ rfl; have ya4 : Y.cell? ⟨U.heap.size, 4, none⟩ = some (.bool v.susp) := f1Y 4 _ rfl; have ya5 : Y.cell? ⟨U.heap.size, 5, none⟩ = some (.bool v.fam) := f1Y 5 _ rfl; clear hWY f1Y)
      replace HSB := Lib.hid (famS.keep HSB.out (Keeps.ofBelow hbY))
      replace HO := Lib.hid (HO.out.below hbY)
      replace HR := Lib.hid (Rowed.below famL HR.out hbY)
      replace hbrU := hbrU.trans (hbY.mono hbrU.size)
      have hgU : wr.heap.size ≤ U.heap.size := by omega
      clear hbY ra0 ra1 ra2 ra3 ra4 ra5 ra6 ra7 HSUC
      have hwm : IntKind.i64.wrap ((n1 : Int) - 1) = (n1 : Int) - 1 := IntWalk.i64_in _ (by omega)
      go_upto_region 12 with (fail)
      obtain ⟨iz, hiz⟩ : ∃ iz : Int, (n1 : Int) - 1 = iz := ⟨_, rfl⟩
      rw [hiz]
      have HIZ := Lib.hid hiz
      clear hiz hwm
      obtain ⟨bb, hbb⟩ : ∃ bb : Bool, (bb = true ∧ 0 < n1 ∧ ∃ u d, ys[n1 - 1]? = some u ∧ out[n1 - 1]? = some d ∧ LR Y u d ∧ u.t = e.at_ ∧ d.q = qOf sb) ∨ (bb = false ∧ (n1 = 0 ∨ ∃ u d, ys[n1 - 1]? = some u ∧ out[n1 - 1]? = some d ∧ LR Y u d ∧ ¬ (u.t = e.at_ ∧ d.q = qOf sb))) := by
        by_cases h0 : n1 = 0
        · exact ⟨false, .inr ⟨rfl, .inl h0⟩⟩
        · obtain ⟨u, hu⟩ : ∃ u, ys[n1 - 1]? = some u := ⟨_, List.getElem?_eq_getElem (by have := HN1.out; omega)⟩
          obtain ⟨d, hd, hr⟩ := HR.out.at_ hu
          by_cases he : u.t = e.at_ ∧ d.q = qOf sb
          · exact ⟨true, .inl ⟨rfl, by omega, u, d, hu, hd, hr.1, he⟩⟩
          · exact ⟨false, .inr ⟨rfl, .inr ⟨u, d, hu, hd, hr.1, he⟩⟩⟩
      have HBB := Lib.hid hbb
      clear hbb
      have HNEW : Hid (LR Y ⟨e.at_, tn, v.plan, v.Ap, v.np, v.cp, v.susp, v.fam⟩ ⟨e.at_, tn, qOf sb⟩) := Lib.hid ⟨rfl, rfl, HSB.out.1.plan, HSB.out.1.p0, HSB.out.1.p, HSB.out.1.susp, HSB.out.1.fam⟩
      go_cut [83] from 95 (fun v wx => v = .bool bb ∧ Below Y.heap.size Y wx)
      case first =>
        by_cases h0 : n1 = 0
        · have hb2 : bb = false := by rcases HBB.out with ⟨_, h, _⟩ | ⟨h, _⟩; omega; exact h
          subst hb2
          clear HBB
          subst h0
          obtain rfl : iz = -1 := by rw [← HIZ.out]; rfl
          have kd : decide ((0 : Int) ≤ -1) = false := rfl
          ((with_reducible refine wp_region_quiet_lit ?_ ?_ ?_); kernel_rfl; kernel_rfl; (repeat (any_goals (first | go_big_quiet_step (fail) | (refine wpQuiet_step (fun K hK => ?_); go_simp; (first | (refine hK _ ?_; clear hK K) | (split <;> rename_i hg <;> (refine hK _ ?_; clear hK K) <;> (try simp only [Bool.not_eq_true] at hg) <;> (first | simp only [Int.not_lt.2 hg, decide_false] | simp only [Int.not_le.1 hg, decide_true] | simp only [hg, decide_true, decide_false] | skip))))))); all_goals (refine wpQuiet_nil ?_; intro _ hw'; obtain ⟨nq, hw''⟩ := hw'; subst hw''))
          go_wp2_with fail
          go_meet
          exact ⟨rfl, below_drewN (Below.refl _ _) _⟩
        · obtain ⟨G, cap, cur, hA, hbg, hcur⟩ := HO.out.whole (by have := HN1.out; omega)
          have hA1 : A1 = some ⟨G, 0, none⟩ := by injection hA
          obtain ⟨u, d, hu, hr, hb2⟩ : ∃ u d, ys[n1 - 1]? = some u ∧ LR Y u d ∧ ((u.t = e.at_ → bb = decide (d.q = qOf sb)) ∧ (¬ u.t = e.at_ → bb = false)) := by
            rcases HBB.out with ⟨h1, _, u, d, h2, _, h3, h4, h5⟩ | ⟨h1, h2 | ⟨u, d, h2, _, h3, h4⟩⟩
            · exact ⟨u, d, h2, h3, fun _ => by rw [h1, decide_eq_true h5], fun h => absurd h4 h⟩
            · exact absurd h2 h0
            · exact ⟨u, d, h2, h3, fun h => by rw [h1, decide_eq_false (fun h5 => h4 ⟨h, h5⟩)], fun _ => h1⟩
          subst hA1
          have hgz := (HO.out.ltG).2
          have g0 : Y.cell? ⟨G, (n1 - 1) * 6 + 0, none⟩ = some (.int .i64 u.f) := HO.out.at_ hu 0 rfl
          have g1 : Y.cell? ⟨G, (n1 - 1) * 6 + 1, none⟩ = some (.int .i64 u.t) := HO.out.at_ hu 1 rfl
          have g2 : Y.cell? ⟨G, (n1 - 1) * 6 + 2, none⟩ = some (.string u.plan) := HO.out.at_ hu 2 rfl
          have g3 : Y.cell? ⟨G, (n1 - 1) * 6 + 3, none⟩ = some (.slice u.A u.n u.c) := HO.out.at_ hu 3 rfl
          have g4 : Y.cell? ⟨G, (n1 - 1) * 6 + 4, none⟩ = some (.bool u.susp) := HO.out.at_ hu 4 rfl
          have g5 : Y.cell? ⟨G, (n1 - 1) * 6 + 5, none⟩ = some (.bool u.fam) := HO.out.at_ hu 5 rfl
          rw [Nat.add_zero] at g0
          obtain rfl : iz = ((n1 - 1 : Nat) : Int) := by rw [← HIZ.out]; omega
          have kd : decide ((0 : Int) ≤ ((n1 - 1 : Nat) : Int)) = true := decide_eq_true (by omega)
          have hkl : n1 - 1 < n1 := by omega
          have hn40 : n1 ≤ 1000 := by omega
          clear hA hbg hcur hu HIZ
          rcases be_or u.t e.at_ with ⟨h2, b2, d2⟩ | ⟨h2, b2, d2⟩
          · have HSP : Hid (∀ z, Below Y.heap.size Y z → Calls Try.prog 67 #[.agg #[.int .i64 u.f, .int .i64 u.t, .string u.plan, .slice u.A u.n u.c, .bool u.susp, .bool u.fam], .agg #[.int .i64 e.at_, .int .i64 tn, .string v.plan, .slice v.Ap v.np v.cp, .bool v.susp, .bool v.fam]] z fun r w' => r = .returned (.bool bb) ∧ Below z.heap.size z w') := Lib.hid fun z hz => by
              have h := Alike_any u ⟨e.at_, tn, v.plan, v.Ap, v.np, v.cp, v.susp, v.fam⟩ d ⟨e.at_, tn, qOf sb⟩ z (hr.on hz) (HNEW.out.on hz)
              rw [show decide (d.q = (⟨e.at_, tn, qOf sb⟩ : Iv Q).q) = bb from (hb2.1 h2).symm] at h
              exact h
            clear HBB h2 hr hb2 h0 HNEW
            ((with_reducible refine wp_region_class (Below Y.heap.size Y) ?_ ?_ ?_ ?_); kernel_rfl; kernel_rfl; (exact (Below.refl _ _).drew); (intro hnonemp); (have zg0 := fun z : Wd (Below Y.heap.size Y) => cl z.h g0; have zg1 := fun z : Wd (Below Y.heap.size Y) => cl z.h g1; have zg2 := fun z : Wd (Below Y.heap.size Y) => cl z.h g2; have zg3 := fun z : Wd (Below Y.heap.size Y) => cl z.h g3; have zg4 := fun z : Wd (Below Y.heap.size Y) => cl z.h g4; have zg5 := fun z : Wd (Below Y.heap.size Y) => cl z.h g5; have zya0 := fun z : Wd (Below Y.heap.size Y) => cl z.h ya0; have zya1 := fun z : Wd (Below Y.heap.size Y) => cl z.h ya1; have zya2 := fun z : Wd (Below Y.heap.size Y) => cl z.h ya2; have zya3 := fun z : Wd (Below Y.heap.size Y) => cl z.h ya3; have zya4 := fun z : Wd (Below Y.heap.size Y) => cl z.h ya4; have zya5 := fun z : Wd (Below Y.heap.size Y) => cl z.h ya5); (repeat (any_goals (first | go_big_quiet_step (((first | (go_at_call 67; (with_reducible refine (HSP.out _ (Wd.h _)).mono ?_); rintro e w' ⟨rfl, hbk⟩; exact ⟨rfl, ⟨w', Below.trans (Wd.h _) (hbk.mono (Below.size (Wd.h _)))⟩, rfl⟩)))) | (refine wpQuiet_step (fun K hK => ?_); go_simp; (first | (refine hK _ ?_; clear hK K) | (split <;> rename_i hg <;> (refine hK _ ?_; clear hK K) <;> (try simp only [Bool.not_eq_true] at hg) <;> (first | simp only [Int.not_lt.2 hg, decide_false] | simp only [Int.not_le.1 hg, decide_true] | simp only [hg, decide_true, decide_false] | skip)))))));  all_goals (refine wpQuiet_nil ?_; intro wq hgq))
            go_wp2_with fail
            go_meet
            exact ⟨rfl, hgq⟩
          · obtain rfl := hb2.2 h2
            clear HBB h2 hr hb2 h0 HNEW
            ((with_reducible refine wp_region_quiet_lit ?_ ?_ ?_); kernel_rfl; kernel_rfl; (repeat (any_goals (first | go_big_quiet_step (fail) | (refine wpQuiet_step (fun K hK => ?_); go_simp; (first | (refine hK _ ?_; clear hK K) | (split <;> rename_i hg <;> (refine hK _ ?_; clear hK K) <;> (try simp only [Bool.not_eq_true] at hg) <;> (first | simp only [Int.not_lt.2 hg, decide_false] | simp only [Int.not_le.1 hg, decide_true] | simp only [hg, decide_true, decide_false] | skip))))))); all_goals (refine wpQuiet_nil ?_; intro _ hw'; obtain ⟨nq, hw''⟩ := hw'; subst hw''))
            go_wp2_with fail
            go_meet
            exact ⟨rfl, below_drewN (Below.refl _ _) _⟩
      case rest =>
      obtain ⟨rfl, hbC⟩ := hcut
      replace HNEW := Lib.hid (HNEW.out.on hbC)
      replace HO := Lib.hid (HO.out.below hbC)
      replace HR := Lib.hid (Rowed.below famL HR.out hbC)
      replace ya0 := cl hbC ya0
      replace ya1 := cl hbC ya1
      replace ya2 := cl hbC ya2
      replace ya3 := cl hbC ya3
      replace ya4 := cl hbC ya4
      replace ya5 := cl hbC ya5
      have hbrC := hbrU.trans (hbC.mono hbrU.size)
      have HSBA : Hid (OkA (fun b => w.heap.size ≤ b ∧ (Value.slice A1 n1 c1).ownBlock ≠ some b) v.Ap v.np) := Lib.hid (HSB.out.2.2.mono fun b hb => ⟨by omega, fun e => by have := HOW.out.lt b e; omega⟩)
      have hgC : U.heap.size < wc.heap.size := Nat.lt_of_lt_of_le hzY hbC.size
      clear hbC HSB hbrU
      cases bb
      case false =>
        have HE : Hid (addI out (qOf sb) e.at_ tn = out ++ [⟨e.at_, tn, qOf sb⟩]) := Lib.hid (by
          have hl : out.length = n1 := HR.out.1.symm.trans HN1.out
          rcases HBB.out with ⟨h, _⟩ | ⟨_, h | ⟨u, d, _, h1, h3, h2⟩⟩
          · cases h
          · exact addI_nil (hl.trans h)
          · rw [addI_at hl h1, if_neg (fun h => h2 ⟨h3.t.trans h.1, h.2⟩)])
        go_wp2_with (at_builtin; go_must (refine wpl_append1 _ rfl (.tmp 90) (.tmp 92) 80 rfl w.heap.size 76 _ 64 Try.underlying80 infoL rfl (.slice A1 n1 c1) ys rfl (HO.out.alloc _) _ (⟨e.at_, tn, v.plan, v.Ap, v.np, v.cp, v.susp, v.fam⟩ : Lv) rfl (fun j u hu => cells_new _ _ _ _ _ (by simp) u hu) (by rw [HN1.out]; omega) (by omega) (by rw [World.size_alloc]; omega) ?_; intro v7 w7 ho7 hu7; have HB7 := Lib.hid (hu7.belowBase (HO.out.alloc _) (hbrC.alloc (by omega) _) (by rw [World.size_alloc]; omega)); have HR7 := Lib.hid (Rowed.upd famL (Rowed.below famL (All2.snoc HR.out ⟨HNEW.out, HSBA.out⟩) ((Below.refl _ _).alloc (Nat.le_refl _) _)) hu7); have HO7 := Lib.hid ho7; clear ho7 hu7))
        go_roundw
        case rel => exact ⟨k + 1, by omega, by go_num, _, HO7.out, by rw [HSUC2.out, HE.out]; exact HR7.out, HB7.out⟩
        case measure => simp [intOf]; omega
      case true =>
        obtain ⟨hpos, u, d, hu, hd, hlr, hut, hq⟩ : 0 < n1 ∧ ∃ u d, ys[n1 - 1]? = some u ∧ out[n1 - 1]? = some d ∧ LR Y u d ∧ u.t = e.at_ ∧ d.q = qOf sb := by
          rcases HBB.out with ⟨_, h⟩ | ⟨h, _⟩
          · exact h
          · cases h
        have HE : Hid (addI out (qOf sb) e.at_ tn = out.set (n1 - 1) ⟨d.from_, tn, d.q⟩) := Lib.hid (by
          have hl : out.length = n1 := HR.out.1.symm.trans HN1.out
          rw [addI_at hl hd, if_pos ⟨hlr.t.symm.trans hut, hq⟩])
        obtain ⟨G, cap, cur, hA, hbg, hcur⟩ := HO.out.whole (by have := HN1.out; omega)
        have hA1 : A1 = some ⟨G, 0, none⟩ := by injection hA
        subst hA1
        have hgB := (HO.out.ltG).1
        have g1 : wc.cell? ⟨G, (n1 - 1) * 6 + 1, none⟩ = some (.int .i64 u.t) := HO.out.at_ hu 1 rfl
        have gf := HO.out.unfrozen
        have hkl : n1 - 1 < n1 := by omega
        obtain rfl : iz = ((n1 - 1 : Nat) : Int) := by rw [← HIZ.out]; omega
        have HST2 := Lib.hid (Ow.stored HO.out hu (x' := (⟨u.f, tn, u.plan, u.A, u.n, u.c, u.susp, u.fam⟩ : Lv)) 1 (.int .i64 tn) (by decide) rfl)
        have HRN : Hid (Rowed LRP w.heap.size (wc.setCell ⟨G, (n1 - 1) * 6 + 1, none⟩ (.int .i64 tn)) (.slice (some ⟨G, 0, none⟩) n1 c1) (ys.set (n1 - 1) ⟨u.f, tn, u.plan, u.A, u.n, u.c, u.susp, u.fam⟩) (out.set (n1 - 1) ⟨d.from_, tn, d.q⟩)) := Lib.hid (by
          have hk : Keeps (fun b => w.heap.size ≤ b ∧ (Value.slice (some ⟨G, 0, none⟩) n1 c1).ownBlock ≠ some b) wc (wc.setCell ⟨G, (n1 - 1) * 6 + 1, none⟩ (.int .i64 tn)) := Keeps.ofSet fun b hb e => hb.2 (by subst e; rfl)
          have h := HR.out.keep famL hk
          have hx := h.2 _ u d hu hd
          exact all2_setL h (x := ⟨u.f, tn, u.plan, u.A, u.n, u.c, u.susp, u.fam⟩) (y := ⟨d.from_, tn, d.q⟩) ⟨⟨hx.1.f, rfl, hx.1.plan, hx.1.a0, hx.1.a, hx.1.susp, hx.1.fam⟩, hx.2⟩ _)
        have hn40 : n1 ≤ 1000 := by omega
        clear hA hbg hcur hu hd hlr hut hq HBB HIZ
        go_wp2_with fail
        go_roundw
        case rel => exact ⟨k + 1, by omega, by go_num, _, HST2.out, by rw [HSUC2.out, HE.out]; exact HRN.out, hbrC.setCell hgB _⟩
        case measure => simp [intOf]; omega
    · obtain rfl : n = k := by omega
      have hkn : ¬ ((n : Int) < (n : Int)) := by omega
      have HQ : Hid (spI l x n = spE l x) := Lib.hid (by rw [sp_eq HV.out, HL.out])
      go_wp2_with fail
      go_ret
      have hr := HR.out
      have ho := HO.out
      rw [← HN1.out] at ho hr ⊢
      rw [HQ.out] at hr
      obtain ⟨A', n', c', e, hl⟩ := rowL ho hr
      exact ⟨⟨A', n', c', congrArg Ending.returned e, hl⟩, hbr⟩
end Ss
end Go.Proofs.Yteaanngagcflhaa
namespace Go.Proofs.Yteaanngagcflhaa
open Go.RowKit
namespace Ss
open Cu
set_option maxHeartbeats 8000000 in
theorem rActive_any (A : Option Addr) (n c : Nat) (l : List Ev) (x : Int) (p : ByteArray) (w : World) (hs : Sl w A n c l) (hv : Vl l) :
    Calls Try.prog 60 #[.slice A n c, .int .i64 x, .string p] w fun r w' => (∃ A' n' c', r = .returned (.slice A' n' c') ∧ PI_ w' A' n' c' (duI (kA p) (spE l x))) ∧ Below w.heap.size w w' := by
  have HS := Lib.hid hs
  have HV := Lib.hid hv
  have HL := Lib.hid hs.len
  have h1000 : n ≤ 1000 := by have := hs.len; have := hv.1; omega
  clear hs hv
  go_enter Try.func60, Try.ntmps60
  go_wp2_with (go_at_call 56; go_must (refine (rSpells_any A n c l x _ HS.out HV.out).mono ?_; rintro r w5 ⟨⟨A2, n2, c2, rfl, h2⟩, hb5⟩; have H2 := Lib.hid h2; clear h2))
  obtain ⟨_, xs, hxs, hall⟩ := H2.out
  have HX := Lib.hid hxs
  have HA := Lib.hid hall
  have HXL := Lib.hid hxs.len
  have hn2 : n2 ≤ 1000 := by have := hall.1; have := hxs.len; have := spE_len (l := l) (x := x); have := HL.out; omega
  obtain ⟨SP, hSP⟩ : ∃ SP, spE l x = SP := ⟨_, rfl⟩
  have HDU : Hid (duI (kA p) (spE l x) = jnP (kpI (kA p) SP SP.length) (kpI (kA p) SP SP.length).length) := Lib.hid (by rw [hSP]; rfl)
  rw [hSP] at HA
  have HSPL : Hid (SP.length = n2) := Lib.hid (HA.out.1.symm.trans HXL.out)
  clear hxs hall hSP H2
  go_loopw [8, 9] (fun V i wr => ∃ k : Nat, k ≤ n2 ∧ i = .int .i64 k ∧ Ow wr w5.heap.size 68 V (kpI (kA p) SP k) ∧ Below w5.heap.size w5 wr) (fun _ i _ => n2 - (intOf i).toNat)
  case atStart => exact ⟨0, Nat.zero_le _, rfl, Ow.nil_ _ _ _, Below.refl _ _⟩
  case round =>
    obtain ⟨k, hk, rfl, ho, hbr⟩ := hrel
    obtain ⟨A1, c1, rfl, _, _⟩ := ho.val
    obtain ⟨n1, hn1⟩ : ∃ n1, (kpI (kA p) SP k).length = n1 := ⟨_, rfl⟩
    have hn1k : n1 ≤ k := by rw [← hn1]; exact kpI_len k
    rw [hn1] at ho ⊢
    have HO := Lib.hid ho
    have HN1 := Lib.hid hn1
    have hgr := hbr.size
    clear ho hn1
    by_cases hlt : k < n2
    · obtain ⟨b, off, hAe, hbl, hcells⟩ := HX.out.baseIn hbr (by omega)
      obtain ⟨v, hv⟩ := HX.out.get hlt
      obtain ⟨y, hy, hlr⟩ := HA.out.at_ hv
      have e0 : wr.cell? ⟨b, off + k * 6, none⟩ = some (.int .i64 v.f) := Sl.at_ hcells hv 0 rfl
      have e1 : wr.cell? ⟨b, off + k * 6 + 1, none⟩ = some (.int .i64 v.t) := Sl.at_ hcells hv 1 rfl
      have e3 : wr.cell? ⟨b, off + k * 6 + 3, none⟩ = some (.slice v.A v.n v.c) := Sl.at_ hcells hv 3 rfl
      have e4 : wr.cell? ⟨b, off + k * 6 + 4, none⟩ = some (.bool v.susp) := Sl.at_ hcells hv 4 rfl
      have HLR := Lib.hid hlr
      have HSUC := Lib.hid (kpI_succ (keep := (kA p)) hy)
      have HFT : Hid ((⟨v.f, v.t⟩ : Pd) = ⟨y.from_, y.to_⟩) := Lib.hid (Pd.ext_ hlr.f hlr.t)
      have hkw : IntKind.i64.wrap ((k : Int) + 1) = (k : Int) + 1 := IntWalk.i64_in _ (by omega)
      obtain ⟨J, hJ⟩ : ∃ J, kpI (kA p) SP k = J := ⟨_, rfl⟩
      rw [hJ] at HSUC HO HN1
      obtain ⟨q, hq⟩ : ∃ q, (kA p) y.q = q := ⟨_, rfl⟩
      rw [hq] at HSUC
      have HQ := Lib.hid hq
      have hbl2 : b < wr.heap.size := Nat.lt_of_lt_of_le hbl hgr
      subst hAe
      clear hcells hv hy hlr hJ hq
      go_upto_if 25 with (go_at_call 39; go_must (refine (Has_any v.A v.n v.c y.q.prods p _ (HLR.out.on hbr).a).mono ?_; rintro r w6 ⟨rfl, rfl⟩; rw [show hasS y.q.prods p = q from HQ.out]))
      cases q
      · replace HSUC := Lib.hid (HSUC.out.trans (if_neg (by decide)))
        go_wp2_with fail
        go_roundw
        case rel => exact ⟨k + 1, by omega, by go_num, by rw [HSUC.out]; exact HO.out, hbr⟩
        case measure => simp [intOf]; omega
      · replace HSUC := Lib.hid (HSUC.out.trans (if_pos rfl))
        go_wp2_with (at_builtin; go_must (refine wpl_append1 _ rfl (.tmp 26) (.tmp 32) 84 rfl w5.heap.size 68 _ 16 Try.underlying84 infoP rfl (.slice A1 n1 c1) J rfl (HO.out.alloc _) _ (⟨v.f, v.t⟩ : Pd) rfl (fun j u hu => cells_new _ _ _ _ _ (by simp) u hu) (by rw [HN1.out]; omega) (by omega) (by rw [World.size_alloc]; omega) ?_; intro v7 w7 ho7 hu7; have HB7 := Lib.hid (hu7.belowBase (HO.out.alloc _) (hbr.alloc (by omega) _) (by rw [World.size_alloc]; omega)); have HO7 := Lib.hid ho7; clear ho7 hu7))
        go_roundw
        case rel => exact ⟨k + 1, by omega, by go_num, by rw [HSUC.out, ← HFT.out]; exact HO7.out, HB7.out⟩
        case measure => simp [intOf]; omega
    · obtain rfl : n2 = k := by omega
      have hkn : ¬ ((n2 : Int) < (n2 : Int)) := by omega
      have HKP : Hid (kpI (kA p) SP SP.length = kpI (kA p) SP n2) := Lib.hid (by rw [HSPL.out])
      obtain ⟨J, hJ⟩ : ∃ J, kpI (kA p) SP n2 = J := ⟨_, rfl⟩
      rw [hJ] at HO HN1 HKP
      have hos := (HO.out.slN)
      rw [HN1.out] at hos
      obtain ⟨A3, c3, e3, _, hs3⟩ := hos
      injection e3 with e31 e32 e33
      subst e31 e33
      have HS3 := Lib.hid hs3
      have hbw := hb5.trans (hbr.mono hb5.size)
      clear hs3 hJ e32
      go_wp2_with (go_at_call 90; go_must (refine (rjoinP_any _ n1 _ J _ HS3.out (by omega)).mono ?_; rintro r w8 ⟨⟨A8, n8, c8, rfl, h8⟩, hb8⟩; have H8 := Lib.hid h8; clear h8))
      go_ret
      exact ⟨⟨A8, n8, c8, rfl, by rw [HDU.out, HKP.out]; exact H8.out⟩, hbw.trans (hb8.mono hbw.size)⟩
set_option maxHeartbeats 8000000 in
theorem rServed_any (A : Option Addr) (n c : Nat) (l : List Ev) (x : Int) (w : World) (hs : Sl w A n c l) (hv : Vl l) :
    Calls Try.prog 62 #[.slice A n c, .int .i64 x] w fun r w' => (∃ A' n' c', r = .returned (.slice A' n' c') ∧ PI_ w' A' n' c' (duI kS (spE l x))) ∧ Below w.heap.size w w' := by
  have HS := Lib.hid hs
  have HV := Lib.hid hv
  have HL := Lib.hid hs.len
  have h1000 : n ≤ 1000 := by have := hs.len; have := hv.1; omega
  clear hs hv
  go_enter Try.func62, Try.ntmps62
  go_wp2_with (go_at_call 56; go_must (refine (rSpells_any A n c l x _ HS.out HV.out).mono ?_; rintro r w5 ⟨⟨A2, n2, c2, rfl, h2⟩, hb5⟩; have H2 := Lib.hid h2; clear h2))
  obtain ⟨_, xs, hxs, hall⟩ := H2.out
  have HX := Lib.hid hxs
  have HA := Lib.hid hall
  have HXL := Lib.hid hxs.len
  have hn2 : n2 ≤ 1000 := by have := hall.1; have := hxs.len; have := spE_len (l := l) (x := x); have := HL.out; omega
  obtain ⟨SP, hSP⟩ : ∃ SP, spE l x = SP := ⟨_, rfl⟩
  have HDU : Hid (duI kS (spE l x) = jnP (kpI kS SP SP.length) (kpI kS SP SP.length).length) := Lib.hid (by rw [hSP]; rfl)
  rw [hSP] at HA
  have HSPL : Hid (SP.length = n2) := Lib.hid (HA.out.1.symm.trans HXL.out)
  clear hxs hall hSP H2
  go_loopw [6, 7] (fun V i wr => ∃ k : Nat, k ≤ n2 ∧ i = .int .i64 k ∧ Ow wr w5.heap.size 68 V (kpI kS SP k) ∧ Below w5.heap.size w5 wr) (fun _ i _ => n2 - (intOf i).toNat)
  case atStart => exact ⟨0, Nat.zero_le _, rfl, Ow.nil_ _ _ _, Below.refl _ _⟩
  case round =>
    obtain ⟨k, hk, rfl, ho, hbr⟩ := hrel
    obtain ⟨A1, c1, rfl, _, _⟩ := ho.val
    obtain ⟨n1, hn1⟩ : ∃ n1, (kpI kS SP k).length = n1 := ⟨_, rfl⟩
    have hn1k : n1 ≤ k := by rw [← hn1]; exact kpI_len k
    rw [hn1] at ho ⊢
    have HO := Lib.hid ho
    have HN1 := Lib.hid hn1
    have hgr := hbr.size
    clear ho hn1
    by_cases hlt : k < n2
    · obtain ⟨b, off, hAe, hbl, hcells⟩ := HX.out.baseIn hbr (by omega)
      obtain ⟨v, hv⟩ := HX.out.get hlt
      obtain ⟨y, hy, hlr⟩ := HA.out.at_ hv
      have e0 : wr.cell? ⟨b, off + k * 6, none⟩ = some (.int .i64 v.f) := Sl.at_ hcells hv 0 rfl
      have e1 : wr.cell? ⟨b, off + k * 6 + 1, none⟩ = some (.int .i64 v.t) := Sl.at_ hcells hv 1 rfl
      have e3 : wr.cell? ⟨b, off + k * 6 + 3, none⟩ = some (.slice v.A v.n v.c) := Sl.at_ hcells hv 3 rfl
      have e4 : wr.cell? ⟨b, off + k * 6 + 4, none⟩ = some (.bool v.susp) := Sl.at_ hcells hv 4 rfl
      have HLR := Lib.hid hlr
      have HSUC := Lib.hid (kpI_succ (keep := kS) hy)
      have HFT : Hid ((⟨v.f, v.t⟩ : Pd) = ⟨y.from_, y.to_⟩) := Lib.hid (Pd.ext_ hlr.f hlr.t)
      have hkw : IntKind.i64.wrap ((k : Int) + 1) = (k : Int) + 1 := IntWalk.i64_in _ (by omega)
      obtain ⟨J, hJ⟩ : ∃ J, kpI kS SP k = J := ⟨_, rfl⟩
      rw [hJ] at HSUC HO HN1
      obtain ⟨q, hq⟩ : ∃ q, kS y.q = q := ⟨_, rfl⟩
      rw [hq] at HSUC
      have HQ := Lib.hid hq
      have HV2 : Hid ((!v.susp) = q) := Lib.hid (by rw [hlr.susp]; exact hq)
      subst hAe
      clear hcells hv hy hlr hJ hq
      go_upto_if 22 with fail
      rw [HV2.out]
      cases q
      · replace HSUC := Lib.hid (HSUC.out.trans (if_neg (by decide)))
        go_wp2_with fail
        go_roundw
        case rel => exact ⟨k + 1, by omega, by go_num, by rw [HSUC.out]; exact HO.out, hbr⟩
        case measure => simp [intOf]; omega
      · replace HSUC := Lib.hid (HSUC.out.trans (if_pos rfl))
        go_wp2_with (at_builtin; go_must (refine wpl_append1 _ rfl (.tmp 23) (.tmp 29) 84 rfl w5.heap.size 68 _ 16 Try.underlying84 infoP rfl (.slice A1 n1 c1) J rfl (HO.out.alloc _) _ (⟨v.f, v.t⟩ : Pd) rfl (fun j u hu => cells_new _ _ _ _ _ (by simp) u hu) (by rw [HN1.out]; omega) (by omega) (by rw [World.size_alloc]; omega) ?_; intro v7 w7 ho7 hu7; have HB7 := Lib.hid (hu7.belowBase (HO.out.alloc _) (hbr.alloc (by omega) _) (by rw [World.size_alloc]; omega)); have HO7 := Lib.hid ho7; clear ho7 hu7))
        go_roundw
        case rel => exact ⟨k + 1, by omega, by go_num, by rw [HSUC.out, ← HFT.out]; exact HO7.out, HB7.out⟩
        case measure => simp [intOf]; omega
    · obtain rfl : n2 = k := by omega
      have hkn : ¬ ((n2 : Int) < (n2 : Int)) := by omega
      have HKP : Hid (kpI kS SP SP.length = kpI kS SP n2) := Lib.hid (by rw [HSPL.out])
      obtain ⟨J, hJ⟩ : ∃ J, kpI kS SP n2 = J := ⟨_, rfl⟩
      rw [hJ] at HO HN1 HKP
      have hos := (HO.out.slN)
      rw [HN1.out] at hos
      obtain ⟨A3, c3, e3, _, hs3⟩ := hos
      injection e3 with e31 e32 e33
      subst e31 e33
      have HS3 := Lib.hid hs3
      have hbw := hb5.trans (hbr.mono hb5.size)
      clear hs3 hJ e32
      go_wp2_with (go_at_call 90; go_must (refine (rjoinP_any _ n1 _ J _ HS3.out (by omega)).mono ?_; rintro r w8 ⟨⟨A8, n8, c8, rfl, h8⟩, hb8⟩; have H8 := Lib.hid h8; clear h8))
      go_ret
      exact ⟨⟨A8, n8, c8, rfl, by rw [HDU.out, HKP.out]; exact H8.out⟩, hbw.trans (hb8.mono hbw.size)⟩
end Ss
end Go.Proofs.Yteaanngagcflhaa
