/-
  Subscriptions: the reference's Alike and Spells. No condition.
-/
import Derived.Test.YteaanngagcflhaaKc28
import Derived.Test.YteaanngagcflhaaKc25
import Derived.Test.YteaanngagcflhaaKc20
import Derived.Test.YteaanngagcflhaaKc18
import Derived.Test.YteaanngagcflhaaKc26
import Derived.BigQuiet
import Derived.StillTailTactics
import Derived.Lib.Overlaps
import Derived.Deep.DeepCutAuto
import Derived.Deep.RegionWith
import Derived.Laws.RangeAny
set_option maxRecDepth 100000
set_option linter.unusedVariables false
set_option linter.unusedSimpArgs false
namespace Go.Proofs.Yteaanngagcflhaa
open Go.RowKit
namespace Ss
open Cu
set_option maxHeartbeats 8000000 in
theorem Alike_any (u v : Lv) (x y : Iv Q) (w : World) (h : LR w u x) (h2 : LR w v y) :
    Calls Try.prog 67 #[.agg #[.int .i64 u.f, .int .i64 u.t, .string u.plan, .slice u.A u.n u.c, .bool u.susp, .bool u.fam], .agg #[.int .i64 v.f, .int .i64 v.t, .string v.plan, .slice v.A v.n v.c, .bool v.susp, .bool v.fam]] w fun r w' => r = .returned (.bool (decide (x.q = y.q))) ∧ Below w.heap.size w w' := by
  obtain ⟨uf, ut, up, Ap, np, cp, uu, ua⟩ := u
  obtain ⟨vf, vt, vp, Bp, mp, dp, vu, va⟩ := v
  have HT : Hid ((up = vp ∧ uu = vu ∧ ua = va ∧ x.q.prods = y.q.prods) → decide (x.q = y.q) = true) := Lib.hid fun ⟨e1, e2, e3, e4⟩ => decide_eq_true (Q.ext_ (by rw [← h.plan, ← h2.plan]; exact e1) e4 (by rw [← h.susp, ← h2.susp]; exact e2) (by rw [← h.fam, ← h2.fam]; exact e3))
  have HN : Hid (¬ (up = vp ∧ uu = vu ∧ ua = va ∧ x.q.prods = y.q.prods) → decide (x.q = y.q) = false) := Lib.hid fun hn => decide_eq_false fun e => hn ⟨by have h3 := h.plan; have h4 := h2.plan; dsimp only at h3 h4; rw [h3, h4, e], by have h3 := h.susp; have h4 := h2.susp; dsimp only at h3 h4; rw [h3, h4, e], by have h3 := h.fam; have h4 := h2.fam; dsimp only at h3 h4; rw [h3, h4, e], by rw [e]⟩
  have H3 : Hid (Sl w Ap np cp x.q.prods) := Lib.hid h.a
  have H4 : Hid (Sl w Bp mp dp y.q.prods) := Lib.hid h2.a
  clear h h2
  obtain ⟨E, hE⟩ : ∃ E, decide (x.q = y.q) = E := ⟨_, rfl⟩
  rw [hE] at HT HN ⊢
  obtain ⟨xd, hxd⟩ : ∃ l, x.q.prods = l := ⟨_, rfl⟩
  obtain ⟨yd, hyd⟩ : ∃ l, y.q.prods = l := ⟨_, rfl⟩
  rw [hxd, hyd] at HT HN
  rw [hxd] at H3
  rw [hyd] at H4
  clear hE hxd hyd
  dsimp only
  go_enter Try.func67, Try.ntmps67
  go_upto_region 1 with (fail)
  (obtain ⟨W, hWW, hbW, hzW, f1W, f2W, qfa, qfb⟩ := box2 w #[.int .i64 uf, .int .i64 ut, .string up, .slice Ap np cp, .bool uu, .bool ua] 76 #[.int .i64 vf, .int .i64 vt, .string vp, .slice Bp mp dp, .bool vu, .bool va] 76; rw [← hWW]; have qa0 : W.cell? ⟨w.heap.size, 0, none⟩ = some (.int .i64 uf) := f1W 0 _ rfl; have qa1 : W.cell? ⟨w.heap.size, 1, none⟩ = some (.int .i64 ut) := f1W 1 _ rfl; have qa2 : W.cell? ⟨w.heap.size, 2, none⟩ = some (.string up) := f1W 2 _ rfl; have qa3 : W.cell? ⟨w.heap.size, 3, none⟩ = some (.slice Ap np cp) := f1W 3 _ rfl; have qa4 : W.cell? ⟨w.heap.size, 4, none⟩ = some (.bool uu) := f1W 4 _ rfl; have qa5 : W.cell? ⟨w.heap.size, 5, none⟩ = some (.bool ua) := f1W 5 _ rfl; have qb0 : W.cell? ⟨w.heap.size + 1, 0, none⟩ = some (.int .i64 vf) := f2W 0 _ rfl; have qb1 : W.cell? ⟨w.heap.size + 1, 1, none⟩ = some (.int .i64 vt) := f2W 1 _ rfl; have qb2 : W.cell? ⟨w.heap.size + 1, 2, none⟩ = some (.string vp) := f2W 2 _ rfl; have qb3 : W.cell? ⟨w.heap.size + 1, 3, none⟩ = some (.slice Bp mp dp) := f2W 3 _ rfl; have qb4 : W.cell? ⟨w.heap.size + 1, 4, none⟩ = some (.bool vu) := f2W 4 _ rfl; have qb5 : W.cell? ⟨w.heap.size + 1, 5, none⟩ = some (.bool va) := f2W 5 _ rfl; clear hWW f1W f2W)
  by_cases q0 : up = vp
  case neg =>
    obtain ⟨b0, d0⟩ := bs_f q0
    have HQ := Lib.hid (HN.out (fun e => q0 e.1))
    clear q0 HT HN
    go_wp2_with fail
    go_ret
    exact ⟨ret_bool HQ.out.symm, hbW⟩
  obtain ⟨b0, d0⟩ := bs_t q0
  have Q0 := Lib.hid q0
  clear q0
  by_cases q1 : uu = vu
  case neg =>
    obtain ⟨b1, d1⟩ := be_f q1
    have HQ := Lib.hid (HN.out (fun e => q1 e.2.1))
    clear q1 HT HN
    go_wp2_with fail
    go_ret
    exact ⟨ret_bool HQ.out.symm, hbW⟩
  obtain ⟨b1, d1⟩ := be_t q1
  have Q1 := Lib.hid q1
  clear q1
  by_cases q2 : ua = va
  case neg =>
    obtain ⟨b2, d2⟩ := be_f q2
    have HQ := Lib.hid (HN.out (fun e => q2 e.2.2.1))
    clear q2 HT HN
    go_wp2_with fail
    go_ret
    exact ⟨ret_bool HQ.out.symm, hbW⟩
  obtain ⟨b2, d2⟩ := be_t q2
  have Q2 := Lib.hid q2
  clear q2
  go_wp2_with fail
  refine (SameTexts_any Ap Bp np cp mp dp xd yd _ (H3.out.below hbW) (H4.out.below hbW)).mono ?_
  rintro r w2 ⟨⟨t1, rfl, ht1⟩, hb2⟩
  have HT1 : Hid (t1 = E) := Lib.hid (by
    cases t1
    · exact (HN.out (fun e => by have := ht1.2 e.2.2.2; cases this)).symm
    · exact (HT.out ⟨Q0.out, Q1.out, Q2.out, ht1.1 rfl⟩).symm)
  clear ht1
  go_wp2_with fail
  go_ret
  exact ⟨ret_bool HT1.out, hbW.trans (hb2.mono hbW.size)⟩
theorem find_st {l : List Ev} (hv : Vl l) (x t : Int) : stQ l x t = ((cSubs (bkAt l t)).find? (fun y => y.id == x)).map qOf := by
  rw [find_cSubs (at_inv hv t).2]; rfl
end Ss
end Go.Proofs.Yteaanngagcflhaa
namespace Go.Proofs.Yteaanngagcflhaa
open Go.RowKit
namespace Ss
open Cu
def famN (S : List Sb) (ac : Int) : Nat → List Int
  | 0 => []
  | k + 1 => match S[k]? with
    | some s => if s.acc = ac ∧ s.fam = true then famN S ac k ++ [s.id] else famN S ac k
    | none => famN S ac k
theorem famN_succ {S : List Sb} {ac : Int} {k : Nat} {s : Sb} (h : S[k]? = some s) : famN S ac (k + 1) = if s.acc = ac ∧ s.fam = true then famN S ac k ++ [s.id] else famN S ac k := by
  show (match S[k]? with | some s => if s.acc = ac ∧ s.fam = true then famN S ac k ++ [s.id] else famN S ac k | none => famN S ac k) = _
  rw [h]
theorem famN_len {S : List Sb} {ac : Int} : ∀ k, (famN S ac k).length ≤ k
  | 0 => Nat.le_refl _
  | k + 1 => by
    have ih := famN_len (S := S) (ac := ac) k
    cases h : S[k]? with
    | none => show (match S[k]? with | some s => if s.acc = ac ∧ s.fam = true then famN S ac k ++ [s.id] else famN S ac k | none => famN S ac k).length ≤ _; rw [h]; dsimp only; omega
    | some d =>
      rw [famN_succ h]
      split
      · simp; omega
      · omega
def famE (b : Bk) (ac : Int) : List Int := famN (cSubs b) ac (cSubs b).length
def II (w : World) (A : Option Addr) (n c : Nat) (P : List Int) : Prop := (A = none → c = 0) ∧ Sl w A n c P
set_option maxHeartbeats 8000000 in
theorem Family_any (A : Option Addr) (n c : Nat) (l : List Ev) (ac t : Int) (w : World) (hs : Sl w A n c l) (hv : Vl l) (hz : SzOk l) :
    Calls Try.prog 64 #[.slice A n c, .int .i64 ac, .int .i64 t] w fun r w' => (∃ A' n' c', r = .returned (.slice A' n' c') ∧ II w' A' n' c' (famE (bkAt l t) ac)) ∧ Below w.heap.size w w' := by
  have HS := Lib.hid hs
  have HV := Lib.hid hv
  have HZ := Lib.hid hz
  have HBK := Lib.hid (at_inv hv t).2
  have HSZ := Lib.hid (bkAt_sz hv t)
  have hfl1 := fld1
  clear hs hv hz
  go_enter Try.func64, Try.ntmps64
  go_wp2_with (go_at_call 27; go_must (refine (State_vl A n c l t _ HS.out HV.out HZ.out).mono ?_; rintro r w5 ⟨Aa, na, ca, As, ns, cs, rfl, hla, hls, hb5⟩; have HLS := Lib.hid hls; clear hla hls))
  obtain ⟨hN0, xs, hxs, hall⟩ := HLS.out
  obtain ⟨W, hW⟩ : ∃ x, x = w5 := ⟨_, rfl⟩
  rw [← hW] at hb5 hxs hall ⊢
  have hbwW := hb5
  have HXS := Lib.hid hxs
  have HALL := Lib.hid hall
  have HLN : Hid ((cSubs (bkAt l t)).length = ns) := Lib.hid HLS.out.len
  have hns : ns ≤ 40 := by
    have h1 := subs_len HBK.out
    have h2 := HSZ.out.s
    have h3 := HLN.out
    unfold cSubs at h3
    omega
  have HDE : Hid (famE (bkAt l t) ac = famN (cSubs (bkAt l t)) ac (cSubs (bkAt l t)).length) := Lib.hid rfl
  clear hN0 hxs hall hW
  go_loopw [7, 15] (fun V i wr => ∃ k : Nat, k ≤ ns ∧ i = .int .i64 k ∧ Ow wr W.heap.size 3 V (famN (cSubs (bkAt l t)) ac k) ∧ Below W.heap.size W wr) (fun _ i _ => ns - (intOf i).toNat)
  case atStart => exact ⟨0, Nat.zero_le _, rfl, Ow.nil_ _ _ _, Below.refl _ _⟩
  case round =>
    obtain ⟨k, hk, rfl, ho, hbr⟩ := hrel
    obtain ⟨A1, c1, rfl, _, _⟩ := ho.val
    obtain ⟨n1, hn1⟩ : ∃ n1, (famN (cSubs (bkAt l t)) ac k).length = n1 := ⟨_, rfl⟩
    have hn1k : n1 ≤ k := by rw [← hn1]; exact famN_len k
    rw [hn1] at ho ⊢
    have HO := Lib.hid ho
    have HN1 := Lib.hid hn1
    have hgr := hbr.size
    clear ho hn1
    by_cases hlt : k < ns
    · obtain ⟨b, off, hAe, hbl, hcells⟩ := HXS.out.baseIn hbr (by omega)
      obtain ⟨v, hv⟩ := HXS.out.get hlt
      obtain ⟨y, hy, hsr⟩ := HALL.out.at_ hv
      have hbl2 : b < wr.heap.size := Nat.lt_of_lt_of_le hbl hgr
      have e0 : wr.cell? ⟨b, off + k * 8, none⟩ = some (.int .i64 v.id) := Sl.at_ hcells hv 0 rfl
      have e1 : wr.cell? ⟨b, off + k * 8 + 1, none⟩ = some (.int .i64 v.acc) := Sl.at_ hcells hv 1 rfl
      have e2 : wr.cell? ⟨b, off + k * 8 + 2, none⟩ = some (.int .i64 v.since) := Sl.at_ hcells hv 2 rfl
      have e3 : wr.cell? ⟨b, off + k * 8 + 3, none⟩ = some (.string v.plan) := Sl.at_ hcells hv 3 rfl
      have e4 : wr.cell? ⟨b, off + k * 8 + 4, none⟩ = some (.slice v.An v.nn v.cn) := Sl.at_ hcells hv 4 rfl
      have e5 : wr.cell? ⟨b, off + k * 8 + 5, none⟩ = some (.slice v.Ap v.np v.cp) := Sl.at_ hcells hv 5 rfl
      have e6 : wr.cell? ⟨b, off + k * 8 + 6, none⟩ = some (.bool v.susp) := Sl.at_ hcells hv 6 rfl
      have e7 : wr.cell? ⟨b, off + k * 8 + 7, none⟩ = some (.bool v.fam) := Sl.at_ hcells hv 7 rfl
      have HSUC := Lib.hid (famN_succ (ac := ac) hy)
      rw [← hsr.acc, ← hsr.fam, ← hsr.id] at HSUC
      have hkw : IntKind.i64.wrap ((k : Int) + 1) = (k : Int) + 1 := IntWalk.i64_in _ (by omega)
      obtain ⟨J, hJ⟩ : ∃ J, famN (cSubs (bkAt l t)) ac k = J := ⟨_, rfl⟩
      rw [hJ] at HSUC HO HN1
      subst hAe
      clear hcells hv hy hsr hJ
      go_upto_region 5 with (fail)
      (obtain ⟨X, hWX, hbX, hzX, f1X, efa⟩ := box1 wr #[.int .i64 v.id, .int .i64 v.acc, .int .i64 v.since, .string v.plan, .slice v.An v.nn v.cn, .slice v.Ap v.np v.cp, .bool v.susp, .bool v.fam] 51; rw [← hWX]; have ea0 : X.cell? ⟨wr.heap.size, 0, none⟩ = some (.int .i64 v.id) := f1X 0 _ rfl; have ea1 : X.cell? ⟨wr.heap.size, 1, none⟩ = some (.int .i64 v.acc) := f1X 1 _ rfl; have ea2 : X.cell? ⟨wr.heap.size, 2, none⟩ = some (.int .i64 v.since) := f1X 2 _ rfl; have ea3 : X.cell? ⟨wr.heap.size, 3, none⟩ = some (.string v.plan) := f1X 3 _ rfl; have ea4 : X.cell? ⟨wr.heap.size, 4, none⟩ = some (.slice v.An v.nn v.cn) := f1X 4 _ rfl; have ea5 : X.cell? ⟨wr.heap.size, 5, none⟩ = some (.slice v.Ap v.np v.cp) := f1X 5 _ rfl; have ea6 : X.cell? ⟨wr.heap.size, 6, none⟩ = some (.bool v.susp) := f1X 6 _ rfl; have ea7 : X.cell? ⟨wr.heap.size, 7, none⟩ = some (.bool v.fam) := f1X 7 _ rfl; clear hWX f1X)
      have hbrX := hbr.trans (hbX.mono hbr.size)
      replace HO := Lib.hid (HO.out.below hbX)
      have hgX := hbrX.size
      clear e0 e1 e2 e3 e4 e5 e6 e7 hbX hbr
      rcases be_or v.acc ac with ⟨h1, b1, d1⟩ | ⟨h1, b1, d1⟩
      · cases h2 : v.fam
        · rw [h2] at ea7
          have HE := Lib.hid (HSUC.out.trans (if_neg (by rw [h2]; rintro ⟨_, h⟩; cases h)))
          clear h1 h2
          go_wp2_with fail
          go_roundw
          case rel => exact ⟨k + 1, by omega, by go_num, by rw [HE.out]; exact HO.out, hbrX⟩
          case measure => simp [intOf]; omega
        · rw [h2] at ea7
          have HE := Lib.hid (HSUC.out.trans (if_pos ⟨h1, h2⟩))
          clear h1 h2
          go_wp2_with (at_builtin; go_must (refine wpl_append1 _ rfl (.tmp 27) (.tmp 30) 44 rfl W.heap.size 3 _ 8 Try.underlying44 infoI rfl (.slice A1 n1 c1) J rfl (HO.out.alloc _) _ (v.id : Int) rfl (fun j u hu => cells_new _ _ _ _ _ (by simp) u hu) (by rw [HN1.out]; omega) (by omega) (by rw [World.size_alloc]; omega) ?_; intro v7 w7 ho7 hu7; have HB7 := Lib.hid (hu7.belowBase (HO.out.alloc _) (hbrX.alloc (by omega) _) (by rw [World.size_alloc]; omega)); have HO7 := Lib.hid ho7; clear ho7 hu7))
          go_roundw
          case rel => exact ⟨k + 1, by omega, by go_num, by rw [HE.out]; exact HO7.out, HB7.out⟩
          case measure => simp [intOf]; omega
      · have HE := Lib.hid (HSUC.out.trans (if_neg (fun h => h1 h.1)))
        clear h1
        go_wp2_with fail
        go_roundw
        case rel => exact ⟨k + 1, by omega, by go_num, by rw [HE.out]; exact HO.out, hbrX⟩
        case measure => simp [intOf]; omega
    · obtain rfl : ns = k := by omega
      have hkn : ¬ ((ns : Int) < (ns : Int)) := by omega
      have hbw := hbwW.trans (hbr.mono hbwW.size)
      go_wp2_with fail
      go_ret
      have ho := HO.out
      rw [← HN1.out] at ho ⊢
      obtain ⟨A', c', e, h0, hs⟩ := ho.slN
      exact ⟨⟨A', _, c', congrArg Ending.returned e, h0, by rw [HDE.out, HLN.out]; exact hs⟩, hbw⟩
end Ss
end Go.Proofs.Yteaanngagcflhaa
namespace Go.Proofs.Yteaanngagcflhaa
open Go.RowKit
namespace Ss
open Cu
def insB (P : List Pd) (t : Int) : Bool := P.any fun d => decide (d.from_ ≤ t) && decide (t < d.to_)
set_option maxHeartbeats 8000000 in
theorem inside_any (A : Option Addr) (n c : Nat) (P : List Pd) (t : Int) (w : World) (h : PI_ w A n c P) :
    Calls Try.prog 66 #[.slice A n c, .int .i64 t] w fun r w' => r = .returned (.bool (insB P t)) ∧ Below w.heap.size w w' := by
  have H := Lib.hid h.2
  have hn := h.2.nmax
  have HL := Lib.hid h.2.len
  have HE : Hid (insB P t = P.any fun d => decide (d.from_ ≤ t) && decide (t < d.to_)) := Lib.hid rfl
  obtain ⟨E, hE⟩ : ∃ E, insB P t = E := ⟨_, rfl⟩
  rw [hE] at HE ⊢
  clear h hE
  go_enter Try.func66, Try.ntmps66
  go_wp2_with fail
  go_loopw [5] (fun i wr => ∃ k : Nat, k ≤ n ∧ i = .int .i64 k ∧ (P.take k).any (fun d => decide (d.from_ ≤ t) && decide (t < d.to_)) = false ∧ Below w.heap.size w wr) (fun i _ => n - (intOf i).toNat)
  case atStart => exact ⟨0, Nat.zero_le _, rfl, rfl, Below.refl _ _⟩
  case round =>
    obtain ⟨k, hk, rfl, hno, hb⟩ := hrel
    have HNO := Lib.hid hno
    clear hno
    by_cases hlt : k < n
    · obtain ⟨b, off, rfl, hbl, hcells⟩ := H.out.baseIn hb (by omega)
      obtain ⟨d, hd⟩ := H.out.get hlt
      have e0 : wr.cell? ⟨b, off + k * 2, none⟩ = some (.int .i64 d.from_) := Sl.at_ hcells hd 0 rfl
      have e1 : wr.cell? ⟨b, off + k * 2 + 1, none⟩ = some (.int .i64 d.to_) := Sl.at_ hcells hd 1 rfl
      have HA := Lib.hid (any_succ (p := fun d : Pd => decide (d.from_ ≤ t) && decide (t < d.to_)) hd)
      have HM := Lib.hid (List.mem_of_getElem? hd)
      have hkw : IntKind.i64.wrap ((k : Int) + 1) = (k : Int) + 1 := IntWalk.i64_in _ (by omega)
      clear hcells hd
      by_cases h1 : d.from_ ≤ t
      · have d1 : decide (d.from_ ≤ t) = true := decide_eq_true h1
        by_cases h2 : t < d.to_
        · have d2 : decide (t < d.to_) = true := decide_eq_true h2
          have HQ : Hid (E = true) := Lib.hid (by rw [HE.out, List.any_eq_true]; exact ⟨d, HM.out, by rw [d1, d2]; rfl⟩)
          go_wp2_with fail
          go_ret
          exact ⟨ret_bool HQ.out.symm, hb⟩
        · have d2 : decide (t < d.to_) = false := decide_eq_false h2
          have HQ := Lib.hid (HA.out.trans (by rw [HNO.out, d2, Bool.and_false]; rfl : _ = false))
          go_wp2_with fail
          go_roundw
          case rel => exact ⟨k + 1, by omega, by go_num, HQ.out, hb⟩
          case measure => simp [intOf]; omega
      · have d1 : decide (d.from_ ≤ t) = false := decide_eq_false h1
        have HQ := Lib.hid (HA.out.trans (by rw [HNO.out, d1]; rfl : _ = false))
        go_wp2_with fail
        go_roundw
        case rel => exact ⟨k + 1, by omega, by go_num, HQ.out, hb⟩
        case measure => simp [intOf]; omega
    · obtain rfl : n = k := by omega
      have hkn : ¬ ((n : Int) < (n : Int)) := by omega
      have HQ : Hid (E = false) := Lib.hid (by rw [HE.out, ← HNO.out, List.take_of_length_le (by have := HL.out; omega)])
      go_wp2_with fail
      go_ret
      exact ⟨ret_bool HQ.out.symm, hb⟩
end Ss
end Go.Proofs.Yteaanngagcflhaa
namespace Go.Proofs.Yteaanngagcflhaa
open Go.RowKit
namespace Ss
open Cu
theorem sqd (a b : ByteArray) : seq_ a b = (a.data.toList == b.data.toList) := by unfold seq_; rw [Lib.toList_data, Lib.toList_data]
def nBas : ByteArray := ⟨#[98, 97, 115, 105, 99]⟩
def nFla : ByteArray := ⟨#[102, 108, 97, 116]⟩
def nPlu : ByteArray := ⟨#[112, 108, 117, 115]⟩
def z1 : Ev := ⟨0, 1, 1, 0, nEmpty, nPost, 1⟩
def z2 : Ev := ⟨100, 3, 1, 7, nEmpty, nBas, 0⟩
def z3 : Ev := ⟨200, 8, 0, 7, nEmpty, nFla, 0⟩
def z4 : Ev := ⟨300, 10, 0, 7, nEmpty, nEmpty, 0⟩
def z5 : Ev := ⟨400, 11, 0, 7, nEmpty, nEmpty, 0⟩
def z6 : Ev := ⟨400, 7, 0, 7, nEmpty, nPlu, 0⟩
def lz : List Ev := [z1, z2, z3, z4, z5, z6]
def c1 : Ac := ⟨1, 0, 1, false, false⟩
def t2 : Sb := ⟨7, 1, 100, nBas, [], [], false, false⟩
def t3 : Sb := ⟨7, 1, 100, nBas, [], [nFla], false, false⟩
def t4 : Sb := ⟨7, 1, 100, nBas, [], [nFla], true, false⟩
def t6 : Sb := ⟨7, 1, 100, nPlu, [], [nFla], false, false⟩
theorem g1 : faultR bk0 z1 0 = 0 := by
  simp [faultR, formR, formT, fldBad, idBad, nameBad, uA, uS, uN, uM, uV, idB, valB, nmB, nmC, sqd, ofAcc, findA, bk0, z1, nPre, nPost, nEmpty]
theorem h1 : applyR bk0 z1 = ⟨[c1], [], []⟩ := by simp [applyR, bk0, z1, sqd, nPre, nPost, c1]
theorem g2 : faultR ⟨[c1], [], []⟩ z2 0 = 0 := by
  simp [faultR, formR, formT, fldBad, idBad, nameBad, uA, uS, uN, uM, uV, idB, valB, nmB, nmC, sqd, ofAcc, findA, findS, z2, nPre, nPost, nEmpty, nBas, c1]
theorem h2 : applyR ⟨[c1], [], []⟩ z2 = ⟨[c1], [t2], []⟩ := by simp [applyR, z2, t2]
theorem g3 : faultR ⟨[c1], [t2], []⟩ z3 100 = 0 := by
  simp [faultR, formR, formT, fldBad, idBad, nameBad, uA, uS, uN, uM, uV, idB, valB, nmB, nmC, sqd, ofSub, findS, endedB, hasS, z3, nPre, nPost, nEmpty, nFla, t2]
theorem h3 : applyR ⟨[c1], [t2], []⟩ z3 = ⟨[c1], [t3], []⟩ := by simp [applyR, mapFirst, chgR, insS, z3, t2, t3]
theorem g4 : faultR ⟨[c1], [t3], []⟩ z4 200 = 0 := by
  simp [faultR, formR, formT, fldBad, idBad, nameBad, uA, uS, uN, uM, uV, idB, valB, nmB, nmC, sqd, ofSub, findS, endedB, hasS, z4, nPre, nPost, nEmpty, t3]
theorem h4 : applyR ⟨[c1], [t3], []⟩ z4 = ⟨[c1], [t4], []⟩ := by simp [applyR, mapFirst, chgR, z4, t3, t4]
theorem g5 : faultR ⟨[c1], [t4], []⟩ z5 300 = 0 := by
  simp [faultR, formR, formT, fldBad, idBad, nameBad, uA, uS, uN, uM, uV, idB, valB, nmB, nmC, sqd, ofSub, findS, endedB, hasS, z5, nPre, nPost, nEmpty, t4]
theorem h5 : applyR ⟨[c1], [t4], []⟩ z5 = ⟨[c1], [t3], []⟩ := by simp [applyR, mapFirst, chgR, z5, t3, t4]
theorem g6 : faultR ⟨[c1], [t3], []⟩ z6 400 = 0 := by
  simp [faultR, formR, formT, fldBad, idBad, nameBad, uA, uS, uN, uM, uV, idB, valB, nmB, nmC, sqd, ofSub, findS, endedB, hasS, z6, nPre, nPost, nEmpty, nPlu, t3]
theorem h6 : applyR ⟨[c1], [t3], []⟩ z6 = ⟨[c1], [t6], []⟩ := by simp [applyR, mapFirst, chgR, z6, t3, t6]
theorem e1 : bkN lz 1 = ⟨[c1], [], []⟩ := h1
theorem e2 : bkN lz 2 = ⟨[c1], [t2], []⟩ := by show applyR (applyR bk0 z1) z2 = _; rw [h1, h2]
theorem e3 : bkN lz 3 = ⟨[c1], [t3], []⟩ := by show applyR (applyR (applyR bk0 z1) z2) z3 = _; rw [h1, h2, h3]
theorem e4 : bkN lz 4 = ⟨[c1], [t4], []⟩ := by show applyR (applyR (applyR (applyR bk0 z1) z2) z3) z4 = _; rw [h1, h2, h3, h4]
theorem e5 : bkN lz 5 = ⟨[c1], [t3], []⟩ := by show applyR (applyR (applyR (applyR (applyR bk0 z1) z2) z3) z4) z5 = _; rw [h1, h2, h3, h4, h5]
theorem e6 : bkN lz 6 = ⟨[c1], [t6], []⟩ := by show applyR (applyR (applyR (applyR (applyR (applyR bk0 z1) z2) z3) z4) z5) z6 = _; rw [h1, h2, h3, h4, h5, h6]
theorem vz : Vl lz := by
  refine ⟨by decide, fun j hj => ?_⟩
  have hj' : j < 6 := hj
  have : j = 0 ∨ j = 1 ∨ j = 2 ∨ j = 3 ∨ j = 4 ∨ j = 5 := by omega
  rcases this with rfl | rfl | rfl | rfl | rfl | rfl
  · exact g1
  · show faultR (bkN lz 1) z2 0 = 0; rw [e1]; exact g2
  · show faultR (bkN lz 2) z3 100 = 0; rw [e2]; exact g3
  · show faultR (bkN lz 3) z4 200 = 0; rw [e3]; exact g4
  · show faultR (bkN lz 4) z5 300 = 0; rw [e4]; exact g5
  · show faultR (bkN lz 5) z6 400 = 0; rw [e5]; exact g6
theorem szz : SzOk lz := fun e he => by
  have h : e = z1 ∨ e = z2 ∨ e = z3 ∨ e = z4 ∨ e = z5 ∨ e = z6 := by simpa [lz] using he
  have m : (8 : Nat) ≤ maxLen := by unfold maxLen; omega
  rcases h with rfl | rfl | rfl | rfl | rfl | rfl <;> exact ⟨Nat.le_trans (by decide) m, Nat.le_trans (by decide) m⟩
def u2 : Sb := ⟨7, 1, 100, nBas, [], [], false, false⟩
def p1 : Iv Q := ⟨100, 200, ⟨nBas, [], false, false⟩⟩
def p2 : Iv Q := ⟨200, 300, ⟨nBas, [nFla], false, false⟩⟩
def p3 : Iv Q := ⟨300, 400, ⟨nBas, [nFla], true, false⟩⟩
def p4 : Iv Q := ⟨400, 12622780800, ⟨nPlu, [nFla], false, false⟩⟩
theorem moz : moE lz 7 = [⟨100, t2⟩, ⟨200, t3⟩, ⟨300, t4⟩, ⟨400, t6⟩] := by
  simp [moE, moN, lz, z1, z2, z3, z4, z5, z6, nxtS, addM, insS, t2, t3, t4, t6, sb0]
theorem ne23 : eqvB t2 t3 = false := by simp [eqvB, t2, t3, qOf]
theorem ne34 : eqvB t3 t4 = false := by simp [eqvB, t3, t4, qOf]
theorem ne46 : eqvB t4 t6 = false := by simp [eqvB, t4, t6, qOf]
theorem jnz : jnE lz 7 = [⟨100, t2⟩, ⟨200, t3⟩, ⟨300, t4⟩, ⟨400, t6⟩] := by
  unfold jnE
  rw [moz]
  simp [jnN, addJ, ne23, ne34, ne46]
theorem spz : spE lz 7 = [p1, p2, p3, p4] := by
  unfold spE
  rw [jnz]
  simp [spK, toJ, t2, t3, t4, t6, qOf, p1, p2, p3, p4, fo]
theorem atz : atI (spE lz 7) 399 = some p3 := by rw [spz]; simp [atI, inV, p1, p2, p3, p4]
theorem acz : duI (kA nFla) (spE lz 7) = [⟨200, 12622780800⟩] := by
  rw [spz]; simp [duI, kpI, kA, hasS, sqd, jnP, addP, p1, p2, p3, p4, nFla]
theorem sez : duI kS (spE lz 7) = [⟨100, 300⟩, ⟨400, 12622780800⟩] := by
  rw [spz]; simp [duI, kpI, kS, jnP, addP, p1, p2, p3, p4]
theorem at500 : bkAt lz 500 = ⟨[c1], [t6], []⟩ := by
  rw [(bkAt_N vz 500).1, show cutN lz 500 = 6 by simp [cutN, lz, z1, z2, z3, z4, z5, z6], e6]
theorem famN_nil {S : List Sb} {ac : Int} (h : ∀ s ∈ S, s.fam = false) : ∀ k, famN S ac k = []
  | 0 => rfl
  | k + 1 => by
    have ih := famN_nil (ac := ac) h k
    cases hs : S[k]? with
    | none => show (match S[k]? with | some s => if s.acc = ac ∧ s.fam = true then famN S ac k ++ [s.id] else famN S ac k | none => famN S ac k) = []; rw [hs]; exact ih
    | some s =>
      rw [famN_succ hs, if_neg (fun e => by rw [h s (List.mem_of_getElem? hs)] at e; cases e.2)]
      exact ih
theorem cSubs_mem' {b : Bk} {s : Sb} (h : s ∈ cSubs b) : s ∈ b.subs := by
  unfold cSubs at h
  obtain ⟨i, _, hi⟩ := List.mem_filterMap.1 h
  unfold liveS at hi
  split at hi
  · cases hi
  · exact List.mem_of_find?_eq_some hi
theorem faz : famE (bkAt lz 500) 1 = [] := by
  refine famN_nil (fun s hs => ?_) _
  have h := cSubs_mem' hs
  rw [at500] at h
  simp at h
  rw [h]; rfl
end Ss
end Go.Proofs.Yteaanngagcflhaa
namespace Go.Proofs.Yteaanngagcflhaa
open Go.RowKit
namespace Ss
open Cu
set_option maxHeartbeats 8000000 in
theorem At_any (A : Option Addr) (n c : Nat) (l : List Ev) (x t : Int) (w : World) (hs : Sl w A n c l) (hv : Vl l) :
    Calls Try.prog 52 #[.slice A n c, .int .i64 x, .int .i64 t] w fun r w' => (∃ v : Lv, r = .returned (.tuple #[v.val, .bool (atI (spE l x) t).isSome]) ∧ LR w' v ((atI (spE l x) t).getD iv0)) ∧ Below w.heap.size w w' := by
  have HS := Lib.hid hs
  have HV := Lib.hid hv
  have h1000 : n ≤ 1000 := by have := hs.len; have := hv.1; omega
  clear hs hv
  obtain ⟨AT, hAT⟩ : ∃ AT, atI (spE l x) t = AT := ⟨_, rfl⟩
  rw [hAT]
  have HFIND : Hid (AT = (spE l x).find? (inV t)) := Lib.hid hAT.symm
  clear hAT
  go_enter Try.func52, Try.ntmps52
  go_upto_region 1 with (fail)
  (obtain ⟨V, hWV, hbV, hzV, f1V, qfa⟩ := box1 w #[.int .i64 0, .int .i64 0, .string ⟨#[]⟩, .slice none 0 0, .bool false, .bool false] 76; rw [← hWV]; have qa0 : V.cell? ⟨w.heap.size, 0, none⟩ = some (.int .i64 0) := f1V 0 _ rfl; have qa1 : V.cell? ⟨w.heap.size, 1, none⟩ = some (.int .i64 0) := f1V 1 _ rfl; have qa2 : V.cell? ⟨w.heap.size, 2, none⟩ = some (.string ⟨#[]⟩) := f1V 2 _ rfl; have qa3 : V.cell? ⟨w.heap.size, 3, none⟩ = some (.slice none 0 0) := f1V 3 _ rfl; have qa4 : V.cell? ⟨w.heap.size, 4, none⟩ = some (.bool false) := f1V 4 _ rfl; have qa5 : V.cell? ⟨w.heap.size, 5, none⟩ = some (.bool false) := f1V 5 _ rfl; clear hWV f1V)
  go_wp2_with (go_at_call 55; go_must (refine (Spells_any A n c l x _ (HS.out.below hbV) h1000).mono ?_; rintro r w5 ⟨⟨A2, n2, c2, rfl, h2⟩, hb5⟩; skip; have hbw5 := hbV.trans (hb5.mono hbV.size); have hgV : w.heap.size < w5.heap.size := Nat.lt_of_lt_of_le hzV hb5.size; replace qa0 := cl hb5 qa0; replace qa1 := cl hb5 qa1; replace qa2 := cl hb5 qa2; replace qa3 := cl hb5 qa3; replace qa4 := cl hb5 qa4; replace qa5 := cl hb5 qa5; replace qfa := cz hb5 qfa; have H2 := Lib.hid h2; clear h2 hb5))
  obtain ⟨_, xs, hxs, hall⟩ := H2.out
  have HX := Lib.hid hxs
  have HA := Lib.hid hall
  have HXL := Lib.hid hxs.len
  have hnm := hxs.nmax
  have HNE : Hid (∀ d ∈ spE l x, NeS d.q.prods) := Lib.hid fun d h => spE_ne HV.out h
  have HGD : Hid (∀ d ∈ spE l x, 0 ≤ d.from_ ∧ d.from_ < d.to_ ∧ d.to_ ≤ 12622780800) := Lib.hid fun d h => spE_good HV.out h
  obtain ⟨SP, hSP⟩ : ∃ SP, spE l x = SP := ⟨_, rfl⟩
  rw [hSP] at HA HNE HGD HFIND
  clear hxs hall hSP H2
  go_loopw [14] (fun i wr => ∃ k : Nat, k ≤ n2 ∧ i = .int .i64 k ∧ Below w5.heap.size w5 wr ∧ ∀ (m : Nat) y, m < k → SP[m]? = some y → inV t y = false) (fun i _ => n2 - (intOf i).toNat)
  case atStart => exact ⟨0, Nat.zero_le _, rfl, Below.refl _ _, fun m y hm => absurd hm (Nat.not_lt_zero _)⟩
  case round =>
    obtain ⟨k, hk, rfl, hbr, hno⟩ := hrel
    have HN := Lib.hid hno
    have hgr := Nat.lt_of_lt_of_le hgV hbr.size
    have hbwr := hbw5.trans (hbr.mono hbw5.size)
    clear hno
    replace qa0 := cl hbr qa0
    replace qa1 := cl hbr qa1
    replace qa2 := cl hbr qa2
    replace qa3 := cl hbr qa3
    replace qa4 := cl hbr qa4
    replace qa5 := cl hbr qa5
    replace qfa := cz hbr qfa
    by_cases hlt : k < n2
    · obtain ⟨b, off, hAe, hbl, hcells⟩ := HX.out.baseIn hbr (by omega)
      obtain ⟨v, hv⟩ := HX.out.get hlt
      obtain ⟨y, hy, hlr⟩ := HA.out.at_ hv
      have hbl2 : b < wr.heap.size := Nat.lt_of_lt_of_le hbl hbr.size
      have e0 : wr.cell? ⟨b, off + k * 6, none⟩ = some (.int .i64 v.f) := Sl.at_ hcells hv 0 rfl
      have e1 : wr.cell? ⟨b, off + k * 6 + 1, none⟩ = some (.int .i64 v.t) := Sl.at_ hcells hv 1 rfl
      have e2 : wr.cell? ⟨b, off + k * 6 + 2, none⟩ = some (.string v.plan) := Sl.at_ hcells hv 2 rfl
      have e3 : wr.cell? ⟨b, off + k * 6 + 3, none⟩ = some (.slice v.A v.n v.c) := Sl.at_ hcells hv 3 rfl
      have e4 : wr.cell? ⟨b, off + k * 6 + 4, none⟩ = some (.bool v.susp) := Sl.at_ hcells hv 4 rfl
      have e5 : wr.cell? ⟨b, off + k * 6 + 5, none⟩ = some (.bool v.fam) := Sl.at_ hcells hv 5 rfl
      have HLR := Lib.hid hlr
      have HY := Lib.hid hy
      have HYN := Lib.hid (HNE.out y (List.mem_of_getElem? hy))
      have hgd : 0 ≤ v.f ∧ v.f < v.t ∧ v.t ≤ 12622780800 := by rw [hlr.f, hlr.t]; exact HGD.out y (List.mem_of_getElem? hy)
      have HFT : Hid (v.f = y.from_ ∧ v.t = y.to_) := Lib.hid ⟨hlr.f, hlr.t⟩
      have hkw : IntKind.i64.wrap ((k : Int) + 1) = (k : Int) + 1 := IntWalk.i64_in _ (by omega)
      subst hAe
      clear hcells hv hy hlr
      go_upto_region 4 with (fail)
      (obtain ⟨X, hWX, hbX, hzX, f1X, efa⟩ := box1 wr #[.int .i64 v.f, .int .i64 v.t, .string v.plan, .slice v.A v.n v.c, .bool v.susp, .bool v.fam] 76; rw [← hWX]; have ea0 : X.cell? ⟨wr.heap.size, 0, none⟩ = some (.int .i64 v.f) := f1X 0 _ rfl; have ea1 : X.cell? ⟨wr.heap.size, 1, none⟩ = some (.int .i64 v.t) := f1X 1 _ rfl; have ea2 : X.cell? ⟨wr.heap.size, 2, none⟩ = some (.string v.plan) := f1X 2 _ rfl; have ea3 : X.cell? ⟨wr.heap.size, 3, none⟩ = some (.slice v.A v.n v.c) := f1X 3 _ rfl; have ea4 : X.cell? ⟨wr.heap.size, 4, none⟩ = some (.bool v.susp) := f1X 4 _ rfl; have ea5 : X.cell? ⟨wr.heap.size, 5, none⟩ = some (.bool v.fam) := f1X 5 _ rfl; clear hWX f1X)
      replace qa0 := cl hbX qa0
      replace qa1 := cl hbX qa1
      replace qa2 := cl hbX qa2
      replace qa3 := cl hbX qa3
      replace qa4 := cl hbX qa4
      replace qa5 := cl hbX qa5
      replace qfa := cz hbX qfa
      have hbrX := hbr.trans (hbX.mono hbr.size)
      have hgX := Nat.lt_of_lt_of_le hgr hbX.size
      clear e0 e1 e2 e3 e4 e5 hbX
      by_cases c1 : v.f ≤ t
      · by_cases c2 : t < v.t
        · go_upto_region 5 with (go_at_call 82; go_must (refine (icont_any v.f v.t t true _ hgd.1 hgd.2.1 hgd.2.2 (by rw [decide_eq_true c1, decide_eq_true c2]; rfl)).mono ?_; rintro r w6 ⟨rfl, hb6⟩; have za0 := cl hb6 qa0; have za1 := cl hb6 qa1; have za2 := cl hb6 qa2; have za3 := cl hb6 qa3; have za4 := cl hb6 qa4; have za5 := cl hb6 qa5; have y0 := cl hb6 ea0; have y1 := cl hb6 ea1; have y2 := cl hb6 ea2; have y3 := cl hb6 ea3; have y4 := cl hb6 ea4; have y5 := cl hb6 ea5; have zf := cz hb6 qfa; have hbr6 := hbrX.trans (hb6.mono hbrX.size); have hg6 := Nat.lt_of_lt_of_le hgX hb6.size; have hx6 := Nat.lt_of_lt_of_le hzX hb6.size; clear hb6))
          have hbw6 := hbw5.trans (hbr6.mono hbw5.size)
          have HF := Lib.hid (HFIND.out.trans (findAt HY.out (inV_t (by rw [← HFT.out.1]; exact c1) (by rw [← HFT.out.2]; exact c2)) HN.out))
          go_wp2_with fail
          have hr := setRun_is (vs := [.int .i64 v.f, .int .i64 v.t, .string v.plan, .slice v.A v.n v.c, .bool v.susp, .bool v.fam]) (six za0 za1 za2 za3 za4 za5) (Nat.le_refl _)
          refine bodyPost_ret (results_cells2 (fn := Try.f52) (P := Try.prog) (p := 6) (u := 7) (ty := 76) rfl _ _ w.heap.size ⟨[.int .i64 v.f, .int .i64 v.t, .string v.plan, .slice v.A v.n v.c, .bool v.susp, .bool v.fam]⟩ _ ?a1 ?a2 rfl rfl rfl) ?a3 ?_
          case a1 => rfl
          case a2 => exact hr
          case a3 => rfl
          rw [HF.out]
          exact ⟨⟨v, rfl, LR.setRunNe [.int .i64 v.f, .int .i64 v.t, .string v.plan, .slice v.A v.n v.c, .bool v.susp, .bool v.fam] 0 (HLR.out.on hbr6) (oldL HYN.out za0 za1 za2 za3 za4 za5)⟩, setRun_below [.int .i64 v.f, .int .i64 v.t, .string v.plan, .slice v.A v.n v.c, .bool v.susp, .bool v.fam] _ _ hbw6 (Nat.le_refl _)⟩
        · have HNO := Lib.hid (inV_f2 (d := y) (by rw [← HFT.out.2]; exact c2))
          go_wp2_with (go_at_call 82; go_must (refine (icont_any v.f v.t t false _ hgd.1 hgd.2.1 hgd.2.2 (by rw [decide_eq_false c2, Bool.and_false])).mono ?_; rintro r w6 ⟨rfl, hb6⟩; have za0 := cl hb6 qa0; have za1 := cl hb6 qa1; have za2 := cl hb6 qa2; have za3 := cl hb6 qa3; have za4 := cl hb6 qa4; have za5 := cl hb6 qa5; have y0 := cl hb6 ea0; have y1 := cl hb6 ea1; have y2 := cl hb6 ea2; have y3 := cl hb6 ea3; have y4 := cl hb6 ea4; have y5 := cl hb6 ea5; have zf := cz hb6 qfa; have hbr6 := hbrX.trans (hb6.mono hbrX.size); have hg6 := Nat.lt_of_lt_of_le hgX hb6.size; have hx6 := Nat.lt_of_lt_of_le hzX hb6.size; clear hb6))
          go_roundw
          case rel =>
            refine ⟨k + 1, by omega, by go_num, hbr6, fun m z hm hz => ?_⟩
            by_cases hmk : m = k
            · subst hmk
              have h2 := HY.out
              rw [hz] at h2
              cases h2
              exact HNO.out
            · exact HN.out m z (by omega) hz
          case measure => simp [intOf]; omega
      · have HNO := Lib.hid (inV_f1 (d := y) (by rw [← HFT.out.1]; exact c1))
        go_wp2_with (go_at_call 82; go_must (refine (icont_any v.f v.t t false _ hgd.1 hgd.2.1 hgd.2.2 (by rw [decide_eq_false c1]; rfl)).mono ?_; rintro r w6 ⟨rfl, hb6⟩; have za0 := cl hb6 qa0; have za1 := cl hb6 qa1; have za2 := cl hb6 qa2; have za3 := cl hb6 qa3; have za4 := cl hb6 qa4; have za5 := cl hb6 qa5; have y0 := cl hb6 ea0; have y1 := cl hb6 ea1; have y2 := cl hb6 ea2; have y3 := cl hb6 ea3; have y4 := cl hb6 ea4; have y5 := cl hb6 ea5; have zf := cz hb6 qfa; have hbr6 := hbrX.trans (hb6.mono hbrX.size); have hg6 := Nat.lt_of_lt_of_le hgX hb6.size; have hx6 := Nat.lt_of_lt_of_le hzX hb6.size; clear hb6))
        go_roundw
        case rel =>
          refine ⟨k + 1, by omega, by go_num, hbr6, fun m z hm hz => ?_⟩
          by_cases hmk : m = k
          · subst hmk
            have h2 := HY.out
            rw [hz] at h2
            cases h2
            exact HNO.out
          · exact HN.out m z (by omega) hz
        case measure => simp [intOf]; omega
    · obtain rfl : n2 = k := by omega
      have hkn : ¬ ((n2 : Int) < (n2 : Int)) := by omega
      have HF := Lib.hid (HFIND.out.trans (findNone fun m y hy => HN.out m y (by have := (List.getElem?_eq_some_iff.1 hy).1; have := HA.out.1; have := HXL.out; omega) hy))
      go_wp2_with fail
      have hr := setRun_is (vs := [.int .i64 0, .int .i64 0, .string ⟨#[]⟩, .slice none 0 0, .bool false, .bool false]) (six qa0 qa1 qa2 qa3 qa4 qa5) (Nat.le_refl _)
      refine bodyPost_ret (results_cells2 (fn := Try.f52) (P := Try.prog) (p := 6) (u := 7) (ty := 76) rfl _ _ w.heap.size ⟨[.int .i64 0, .int .i64 0, .string ⟨#[]⟩, .slice none 0 0, .bool false, .bool false]⟩ _ ?a1 ?a2 rfl rfl rfl) ?a3 ?_
      case a1 => rfl
      case a2 => exact hr
      case a3 => rfl
      rw [HF.out]
      exact ⟨⟨lv0, rfl, lv0_lr _⟩, setRun_below [.int .i64 0, .int .i64 0, .string ⟨#[]⟩, .slice none 0 0, .bool false, .bool false] _ _ hbwr (Nat.le_refl _)⟩
end Ss
end Go.Proofs.Yteaanngagcflhaa
