/-
  Subscriptions: Family. No condition.
-/
import Derived.Test.YteaanngagcflhaaKb25
import Derived.Test.YteaanngagcflhaaKb29
import Derived.Test.YteaanngagcflhaaKb18
import Derived.Test.YteaanngagcflhaaKb30
import Derived.Test.YteaanngagcflhaaKb33
import Derived.BigQuiet
import Derived.StillTailTactics
import Derived.Lib.Overlaps
import Derived.Deep.DeepCutAuto
import Derived.Deep.RegionWith
import Derived.Laws.RangeAny
set_option maxRecDepth 100000
set_option linter.unusedVariables false
set_option linter.unusedSimpArgs false
namespace Go.Proofs.Yteaanngagcflhaa
open Go.RowKit
namespace Ss
open Cu
def famN (S : List Sb) (ac : Int) : Nat → List Int
  | 0 => []
  | k + 1 => match S[k]? with
    | some s => if s.acc = ac ∧ s.fam = true then famN S ac k ++ [s.id] else famN S ac k
    | none => famN S ac k
theorem famN_succ {S : List Sb} {ac : Int} {k : Nat} {s : Sb} (h : S[k]? = some s) : famN S ac (k + 1) = if s.acc = ac ∧ s.fam = true then famN S ac k ++ [s.id] else famN S ac k := by
  show (match S[k]? with | some s => if s.acc = ac ∧ s.fam = true then famN S ac k ++ [s.id] else famN S ac k | none => famN S ac k) = _
  rw [h]
theorem famN_len {S : List Sb} {ac : Int} : ∀ k, (famN S ac k).length ≤ k
  | 0 => Nat.le_refl _
  | k + 1 => by
    have ih := famN_len (S := S) (ac := ac) k
    cases h : S[k]? with
    | none => show (match S[k]? with | some s => if s.acc = ac ∧ s.fam = true then famN S ac k ++ [s.id] else famN S ac k | none => famN S ac k).length ≤ _; rw [h]; dsimp only; omega
    | some d =>
      rw [famN_succ h]
      split
      · simp; omega
      · omega
def famE (b : Bk) (ac : Int) : List Int := famN (cSubs b) ac (cSubs b).length
def II (w : World) (A : Option Addr) (n c : Nat) (P : List Int) : Prop := (A = none → c = 0) ∧ Sl w A n c P
set_option maxHeartbeats 8000000 in
theorem Family_any (A : Option Addr) (n c : Nat) (l : List Ev) (ac t : Int) (w : World) (hs : Sl w A n c l) (hv : Vl l) (hz : SzOk l) :
    Calls Try.prog 64 #[.slice A n c, .int .i64 ac, .int .i64 t] w fun r w' => (∃ A' n' c', r = .returned (.slice A' n' c') ∧ II w' A' n' c' (famE (bkAt l t) ac)) ∧ Below w.heap.size w w' := by
  have HS := Lib.hid hs
  have HV := Lib.hid hv
  have HZ := Lib.hid hz
  have HBK := Lib.hid (at_inv hv t).2
  have HSZ := Lib.hid (bkAt_sz hv t)
  have hfl1 := fld1
  clear hs hv hz
  go_enter Try.func64, Try.ntmps64
  go_wp2_with (go_at_call 27; go_must (refine (State_vl A n c l t _ HS.out HV.out HZ.out).mono ?_; rintro r w5 ⟨Aa, na, ca, As, ns, cs, rfl, hla, hls, hb5⟩; have HLS := Lib.hid hls; clear hla hls))
  obtain ⟨hN0, xs, hxs, hall⟩ := HLS.out
  obtain ⟨W, hW⟩ : ∃ x, x = w5 := ⟨_, rfl⟩
  rw [← hW] at hb5 hxs hall ⊢
  have hbwW := hb5
  have HXS := Lib.hid hxs
  have HALL := Lib.hid hall
  have HLN : Hid ((cSubs (bkAt l t)).length = ns) := Lib.hid HLS.out.len
  have hns : ns ≤ 40 := by
    have h1 := subs_len HBK.out
    have h2 := HSZ.out.s
    have h3 := HLN.out
    unfold cSubs at h3
    omega
  have HDE : Hid (famE (bkAt l t) ac = famN (cSubs (bkAt l t)) ac (cSubs (bkAt l t)).length) := Lib.hid rfl
  clear hN0 hxs hall hW
  go_loopw [7, 15] (fun V i wr => ∃ k : Nat, k ≤ ns ∧ i = .int .i64 k ∧ Ow wr W.heap.size 3 V (famN (cSubs (bkAt l t)) ac k) ∧ Below W.heap.size W wr) (fun _ i _ => ns - (intOf i).toNat)
  case atStart => exact ⟨0, Nat.zero_le _, rfl, Ow.nil_ _ _ _, Below.refl _ _⟩
  case round =>
    obtain ⟨k, hk, rfl, ho, hbr⟩ := hrel
    obtain ⟨A1, c1, rfl, _, _⟩ := ho.val
    obtain ⟨n1, hn1⟩ : ∃ n1, (famN (cSubs (bkAt l t)) ac k).length = n1 := ⟨_, rfl⟩
    have hn1k : n1 ≤ k := by rw [← hn1]; exact famN_len k
    rw [hn1] at ho ⊢
    have HO := Lib.hid ho
    have HN1 := Lib.hid hn1
    have hgr := hbr.size
    clear ho hn1
    by_cases hlt : k < ns
    · obtain ⟨b, off, hAe, hbl, hcells⟩ := HXS.out.baseIn hbr (by omega)
      obtain ⟨v, hv⟩ := HXS.out.get hlt
      obtain ⟨y, hy, hsr⟩ := HALL.out.at_ hv
      have hbl2 : b < wr.heap.size := Nat.lt_of_lt_of_le hbl hgr
      have e0 : wr.cell? ⟨b, off + k * 8, none⟩ = some (.int .i64 v.id) := Sl.at_ hcells hv 0 rfl
      have e1 : wr.cell? ⟨b, off + k * 8 + 1, none⟩ = some (.int .i64 v.acc) := Sl.at_ hcells hv 1 rfl
      have e2 : wr.cell? ⟨b, off + k * 8 + 2, none⟩ = some (.int .i64 v.since) := Sl.at_ hcells hv 2 rfl
      have e3 : wr.cell? ⟨b, off + k * 8 + 3, none⟩ = some (.string v.plan) := Sl.at_ hcells hv 3 rfl
      have e4 : wr.cell? ⟨b, off + k * 8 + 4, none⟩ = some (.slice v.An v.nn v.cn) := Sl.at_ hcells hv 4 rfl
      have e5 : wr.cell? ⟨b, off + k * 8 + 5, none⟩ = some (.slice v.Ap v.np v.cp) := Sl.at_ hcells hv 5 rfl
      have e6 : wr.cell? ⟨b, off + k * 8 + 6, none⟩ = some (.bool v.susp) := Sl.at_ hcells hv 6 rfl
      have e7 : wr.cell? ⟨b, off + k * 8 + 7, none⟩ = some (.bool v.fam) := Sl.at_ hcells hv 7 rfl
      have HSUC := Lib.hid (famN_succ (ac := ac) hy)
      rw [← hsr.acc, ← hsr.fam, ← hsr.id] at HSUC
      have hkw : IntKind.i64.wrap ((k : Int) + 1) = (k : Int) + 1 := IntWalk.i64_in _ (by omega)
      obtain ⟨J, hJ⟩ : ∃ J, famN (cSubs (bkAt l t)) ac k = J := ⟨_, rfl⟩
      rw [hJ] at HSUC HO HN1
      subst hAe
      clear hcells hv hy hsr hJ
      go_upto_region 5 with (fail)
      (obtain ⟨X, hWX, hbX, hzX, f1X, efa⟩ := box1 wr #[.int .i64 v.id, .int .i64 v.acc, .int .i64 v.since, .string v.plan, .slice v.An v.nn v.cn, .slice v.Ap v.np v.cp, .bool v.susp, .bool v.fam] 51; rw [← hWX]; have ea0 : X.cell? ⟨wr.heap.size, 0, none⟩ = some (.int .i64 v.id) := f1X 0 _ rfl; have ea1 : X.cell? ⟨wr.heap.size, 1, none⟩ = some (.int .i64 v.acc) := f1X 1 _ rfl; have ea2 : X.cell? ⟨wr.heap.size, 2, none⟩ = some (.int .i64 v.since) := f1X 2 _ rfl; have ea3 : X.cell? ⟨wr.heap.size, 3, none⟩ = some (.string v.plan) := f1X 3 _ rfl; have ea4 : X.cell? ⟨wr.heap.size, 4, none⟩ = some (.slice v.An v.nn v.cn) := f1X 4 _ rfl; have ea5 : X.cell? ⟨wr.heap.size, 5, none⟩ = some (.slice v.Ap v.np v.cp) := f1X 5 _ rfl; have ea6 : X.cell? ⟨wr.heap.size, 6, none⟩ = some (.bool v.susp) := f1X 6 _ rfl; have ea7 : X.cell? ⟨wr.heap.size, 7, none⟩ = some (.bool v.fam) := f1X 7 _ rfl; clear hWX f1X)
      have hbrX := hbr.trans (hbX.mono hbr.size)
      replace HO := Lib.hid (HO.out.below hbX)
      have hgX := hbrX.size
      clear e0 e1 e2 e3 e4 e5 e6 e7 hbX hbr
      rcases be_or v.acc ac with ⟨h1, b1, d1⟩ | ⟨h1, b1, d1⟩
      · cases h2 : v.fam
        · rw [h2] at ea7
          have HE := Lib.hid (HSUC.out.trans (if_neg (by rw [h2]; rintro ⟨_, h⟩; cases h)))
          clear h1 h2
          go_wp2_with fail
          go_roundw
          case rel => exact ⟨k + 1, by omega, by go_num, by rw [HE.out]; exact HO.out, hbrX⟩
          case measure => simp [intOf]; omega
        · rw [h2] at ea7
          have HE := Lib.hid (HSUC.out.trans (if_pos ⟨h1, h2⟩))
          clear h1 h2
          go_wp2_with (at_builtin; go_must (refine wpl_append1 _ rfl (.tmp 27) (.tmp 30) 44 rfl W.heap.size 3 _ 8 Try.underlying44 infoI rfl (.slice A1 n1 c1) J rfl (HO.out.alloc _) _ (v.id : Int) rfl (fun j u hu => cells_new _ _ _ _ _ (by simp) u hu) (by rw [HN1.out]; omega) (by omega) (by rw [World.size_alloc]; omega) ?_; intro v7 w7 ho7 hu7; have HB7 := Lib.hid (hu7.belowBase (HO.out.alloc _) (hbrX.alloc (by omega) _) (by rw [World.size_alloc]; omega)); have HO7 := Lib.hid ho7; clear ho7 hu7))
          go_roundw
          case rel => exact ⟨k + 1, by omega, by go_num, by rw [HE.out]; exact HO7.out, HB7.out⟩
          case measure => simp [intOf]; omega
      · have HE := Lib.hid (HSUC.out.trans (if_neg (fun h => h1 h.1)))
        clear h1
        go_wp2_with fail
        go_roundw
        case rel => exact ⟨k + 1, by omega, by go_num, by rw [HE.out]; exact HO.out, hbrX⟩
        case measure => simp [intOf]; omega
    · obtain rfl : ns = k := by omega
      have hkn : ¬ ((ns : Int) < (ns : Int)) := by omega
      have hbw := hbwW.trans (hbr.mono hbwW.size)
      go_wp2_with fail
      go_ret
      have ho := HO.out
      rw [← HN1.out] at ho ⊢
      obtain ⟨A', c', e, h0, hs⟩ := ho.slN
      exact ⟨⟨A', _, c', congrArg Ending.returned e, h0, by rw [HDE.out, HLN.out]; exact hs⟩, hbw⟩
set_option maxHeartbeats 8000000 in
theorem rFamily_any (A : Option Addr) (n c : Nat) (l : List Ev) (ac t : Int) (w : World) (hs : Sl w A n c l) (hv : Vl l) (hz : SzOk l) :
    Calls Try.prog 65 #[.slice A n c, .int .i64 ac, .int .i64 t] w fun r w' => (∃ A' n' c', r = .returned (.slice A' n' c') ∧ II w' A' n' c' (famE (bkAt l t) ac)) ∧ Below w.heap.size w w' := by
  have HS := Lib.hid hs
  have HV := Lib.hid hv
  have HZ := Lib.hid hz
  have HBK := Lib.hid (at_inv hv t).2
  have HSZ := Lib.hid (bkAt_sz hv t)
  have hfl1 := fld1
  clear hs hv hz
  go_enter Try.func65, Try.ntmps65
  go_upto_region 2 with (go_at_call 28; go_must (refine (rState_any A n c l t _ HS.out HV.out).mono ?_; rintro r w5 ⟨Aa, na, ca, As, ns, cs, rfl, hla, hls, hb5⟩; have HLS := Lib.hid hls; clear hla hls))
  (obtain ⟨W, hWW, hbW, hzW, f1W, pfa⟩ := box1 w5 #[.slice Aa na ca, .slice As ns cs] 32; rw [← hWW]; have pa0 : W.cell? ⟨w5.heap.size, 0, none⟩ = some (.slice Aa na ca) := f1W 0 _ rfl; have pa1 : W.cell? ⟨w5.heap.size, 1, none⟩ = some (.slice As ns cs) := f1W 1 _ rfl; clear hWW f1W)
  have hbwW := hb5.trans (hbW.mono hb5.size)
  obtain ⟨hN0, xs, hxs, hall⟩ := HLS.out
  have HXS := Lib.hid (hxs.below hbW)
  have HALL := Lib.hid (hall.imp fun _ _ h => SR.on h hbW)
  have hw5 : w5.heap.size < W.heap.size := hzW
  clear hbW hb5
  have HLN : Hid ((cSubs (bkAt l t)).length = ns) := Lib.hid HLS.out.len
  have hns : ns ≤ 40 := by
    have h1 := subs_len HBK.out
    have h2 := HSZ.out.s
    have h3 := HLN.out
    unfold cSubs at h3
    omega
  have HDE : Hid (famE (bkAt l t) ac = famN (cSubs (bkAt l t)) ac (cSubs (bkAt l t)).length) := Lib.hid rfl
  clear hN0 hxs hall
  go_wp2_with fail
  go_loopw [8, 9] (fun V i wr => ∃ k : Nat, k ≤ ns ∧ i = .int .i64 k ∧ Ow wr W.heap.size 3 V (famN (cSubs (bkAt l t)) ac k) ∧ Below W.heap.size W wr) (fun _ i _ => ns - (intOf i).toNat)
  case atStart => exact ⟨0, Nat.zero_le _, rfl, Ow.nil_ _ _ _, Below.refl _ _⟩
  case round =>
    obtain ⟨k, hk, rfl, ho, hbr⟩ := hrel
    obtain ⟨A1, c1, rfl, _, _⟩ := ho.val
    obtain ⟨n1, hn1⟩ : ∃ n1, (famN (cSubs (bkAt l t)) ac k).length = n1 := ⟨_, rfl⟩
    have hn1k : n1 ≤ k := by rw [← hn1]; exact famN_len k
    rw [hn1] at ho ⊢
    have HO := Lib.hid ho
    have HN1 := Lib.hid hn1
    have hgr := hbr.size
    clear ho hn1
    replace pa1 := cl hbr pa1
    by_cases hlt : k < ns
    · obtain ⟨b, off, hAe, hbl, hcells⟩ := HXS.out.baseIn hbr (by omega)
      obtain ⟨v, hv⟩ := HXS.out.get hlt
      obtain ⟨y, hy, hsr⟩ := HALL.out.at_ hv
      have hbl2 : b < wr.heap.size := Nat.lt_of_lt_of_le hbl hgr
      have e0 : wr.cell? ⟨b, off + k * 8, none⟩ = some (.int .i64 v.id) := Sl.at_ hcells hv 0 rfl
      have e1 : wr.cell? ⟨b, off + k * 8 + 1, none⟩ = some (.int .i64 v.acc) := Sl.at_ hcells hv 1 rfl
      have e7 : wr.cell? ⟨b, off + k * 8 + 7, none⟩ = some (.bool v.fam) := Sl.at_ hcells hv 7 rfl
      have HSUC := Lib.hid (famN_succ (ac := ac) hy)
      rw [← hsr.acc, ← hsr.fam, ← hsr.id] at HSUC
      have hkw : IntKind.i64.wrap ((k : Int) + 1) = (k : Int) + 1 := IntWalk.i64_in _ (by omega)
      obtain ⟨J, hJ⟩ : ∃ J, famN (cSubs (bkAt l t)) ac k = J := ⟨_, rfl⟩
      rw [hJ] at HSUC HO HN1
      subst hAe
      clear hcells hv hy hsr hJ
      rcases be_or v.acc ac with ⟨h1, b1, d1⟩ | ⟨h1, b1, d1⟩
      · cases h2 : v.fam
        · rw [h2] at e7
          have HE := Lib.hid (HSUC.out.trans (if_neg (by rw [h2]; rintro ⟨_, h⟩; cases h)))
          clear h1 h2
          go_wp2_with fail
          go_roundw
          case rel => exact ⟨k + 1, by omega, by go_num, by rw [HE.out]; exact HO.out, hbr⟩
          case measure => simp [intOf]; omega
        · rw [h2] at e7
          have HE := Lib.hid (HSUC.out.trans (if_pos ⟨h1, h2⟩))
          clear h1 h2
          go_wp2_with (at_builtin; go_must (refine wpl_append1 _ rfl (.tmp 36) (.tmp 43) 44 rfl W.heap.size 3 _ 8 Try.underlying44 infoI rfl (.slice A1 n1 c1) J rfl (HO.out.alloc _) _ (v.id : Int) rfl (fun j u hu => cells_new _ _ _ _ _ (by simp) u hu) (by rw [HN1.out]; omega) (by omega) (by rw [World.size_alloc]; omega) ?_; intro v7 w7 ho7 hu7; have HB7 := Lib.hid (hu7.belowBase (HO.out.alloc _) (hbr.alloc (by omega) _) (by rw [World.size_alloc]; omega)); have HO7 := Lib.hid ho7; clear ho7 hu7))
          go_roundw
          case rel => exact ⟨k + 1, by omega, by go_num, by rw [HE.out]; exact HO7.out, HB7.out⟩
          case measure => simp [intOf]; omega
      · have HE := Lib.hid (HSUC.out.trans (if_neg (fun h => h1 h.1)))
        clear h1
        go_wp2_with fail
        go_roundw
        case rel => exact ⟨k + 1, by omega, by go_num, by rw [HE.out]; exact HO.out, hbr⟩
        case measure => simp [intOf]; omega
    · obtain rfl : ns = k := by omega
      have hkn : ¬ ((ns : Int) < (ns : Int)) := by omega
      have hbw := hbwW.trans (hbr.mono hbwW.size)
      go_wp2_with fail
      go_ret
      have ho := HO.out
      rw [← HN1.out] at ho ⊢
      obtain ⟨A', c', e, h0, hs⟩ := ho.slN
      exact ⟨⟨A', _, c', congrArg Ending.returned e, h0, by rw [HDE.out, HLN.out]; exact hs⟩, hbw⟩
end Ss
end Go.Proofs.Yteaanngagcflhaa
namespace Go.Proofs.Yteaanngagcflhaa
open Go.RowKit
namespace Ss
open Cu
set_option maxHeartbeats 8000000 in
theorem SameSpell_any (u v : Lv) (d : Iv Q) (w : World) (h : LR w u d) (h2 : LR w v d) :
    Calls Try.prog 57 #[.agg #[.int .i64 u.f, .int .i64 u.t, .string u.plan, .slice u.A u.n u.c, .bool u.susp, .bool u.fam], .agg #[.int .i64 v.f, .int .i64 v.t, .string v.plan, .slice v.A v.n v.c, .bool v.susp, .bool v.fam]] w fun r w' => r = .returned (.bool true) ∧ Below w.heap.size w w' := by
  obtain ⟨uf, ut, up, Ap, np, cp, uu, ua⟩ := u
  obtain ⟨vf, vt, vp, Bp, mp, dp, vu, va⟩ := v
  have H := Lib.hid h
  have H2 := Lib.hid h2
  have e1 : uf = vf := h.f.trans h2.f.symm
  have e2 : ut = vt := h.t.trans h2.t.symm
  subst e1 e2
  clear h h2
  dsimp only
  have b1 : (uf == uf) = true := by simp
  have b2 : (ut == ut) = true := by simp
  go_enter Try.func57, Try.ntmps57
  go_upto_region 1 with (fail)
  (obtain ⟨W, hWW, hbW, hzW, f1W, f2W, qfa, qfb⟩ := box2 w #[.int .i64 uf, .int .i64 ut, .string up, .slice Ap np cp, .bool uu, .bool ua] 76 #[.int .i64 uf, .int .i64 ut, .string vp, .slice Bp mp dp, .bool vu, .bool va] 76; rw [← hWW]; have qa0 : W.cell? ⟨w.heap.size, 0, none⟩ = some (.int .i64 uf) := f1W 0 _ rfl; have qa1 : W.cell? ⟨w.heap.size, 1, none⟩ = some (.int .i64 ut) := f1W 1 _ rfl; have qa2 : W.cell? ⟨w.heap.size, 2, none⟩ = some (.string up) := f1W 2 _ rfl; have qa3 : W.cell? ⟨w.heap.size, 3, none⟩ = some (.slice Ap np cp) := f1W 3 _ rfl; have qa4 : W.cell? ⟨w.heap.size, 4, none⟩ = some (.bool uu) := f1W 4 _ rfl; have qa5 : W.cell? ⟨w.heap.size, 5, none⟩ = some (.bool ua) := f1W 5 _ rfl; have qb0 : W.cell? ⟨w.heap.size + 1, 0, none⟩ = some (.int .i64 uf) := f2W 0 _ rfl; have qb1 : W.cell? ⟨w.heap.size + 1, 1, none⟩ = some (.int .i64 ut) := f2W 1 _ rfl; have qb2 : W.cell? ⟨w.heap.size + 1, 2, none⟩ = some (.string vp) := f2W 2 _ rfl; have qb3 : W.cell? ⟨w.heap.size + 1, 3, none⟩ = some (.slice Bp mp dp) := f2W 3 _ rfl; have qb4 : W.cell? ⟨w.heap.size + 1, 4, none⟩ = some (.bool vu) := f2W 4 _ rfl; have qb5 : W.cell? ⟨w.heap.size + 1, 5, none⟩ = some (.bool va) := f2W 5 _ rfl; clear hWW f1W f2W)
  go_wp2_with (go_at_call 67; go_must (refine (Alike_any ⟨uf, ut, up, Ap, np, cp, uu, ua⟩ ⟨uf, ut, vp, Bp, mp, dp, vu, va⟩ d d _ (H.out.on hbW) (H2.out.on hbW)).mono ?_; rintro r w6 ⟨rfl, hb6⟩; rw [decide_eq_true (rfl : d.q = d.q)]))
  go_ret
  exact ⟨rfl, hbW.trans (hb6.mono hbW.size)⟩
set_option maxHeartbeats 8000000 in
theorem SamePeriods_any (A B : Option Addr) (n c m d : Nat) (xs : List Pd) (w : World) (h : PI_ w A n c xs) (h2 : PI_ w B m d xs) :
    Calls Try.prog 58 #[.slice A n c, .slice B m d] w fun r w' => r = .returned (.bool true) ∧ Below w.heap.size w w' := by
  have hnm : n = m := h.2.len.symm.trans h2.2.len
  subst hnm
  have hn := h.2.nmax
  have H := Lib.hid h.2
  have H2 := Lib.hid h2.2
  clear h h2
  go_enter Try.func58, Try.ntmps58
  go_wp2_with fail
  go_loopw [5] (fun i wr => ∃ k : Nat, k ≤ n ∧ i = .int .i64 k ∧ Below w.heap.size w wr) (fun i _ => n - (intOf i).toNat)
  case atStart => exact ⟨0, Nat.zero_le _, rfl, Below.refl _ _⟩
  case round =>
    obtain ⟨k, hk, rfl, hb⟩ := hrel
    by_cases hlt : k < n
    · obtain ⟨b, off, rfl, hbl, hcells⟩ := H.out.baseIn hb (by omega)
      obtain ⟨b2, off2, rfl, hbl2, hcells2⟩ := H2.out.baseIn hb (by omega)
      obtain ⟨u, hu⟩ := H.out.get hlt
      obtain ⟨v, hv⟩ := H2.out.get hlt
      have hblr := Nat.lt_of_lt_of_le hbl hb.size
      have hbl2r := Nat.lt_of_lt_of_le hbl2 hb.size
      have e0 : wr.cell? ⟨b, off + k * 2, none⟩ = some (.int .i64 u.from_) := Sl.at_ hcells hu 0 rfl
      have e1 : wr.cell? ⟨b, off + k * 2 + 1, none⟩ = some (.int .i64 u.to_) := Sl.at_ hcells hu 1 rfl
      have f0 : wr.cell? ⟨b2, off2 + k * 2, none⟩ = some (.int .i64 v.from_) := Sl.at_ hcells2 hv 0 rfl
      have f1 : wr.cell? ⟨b2, off2 + k * 2 + 1, none⟩ = some (.int .i64 v.to_) := Sl.at_ hcells2 hv 1 rfl
      have euv : u = v := by rw [hu] at hv; exact Option.some.inj hv
      subst euv
      have q1 : (u.from_ == u.from_) = true := by simp
      have q2 : (u.to_ == u.to_) = true := by simp
      clear hcells hcells2 hu hv
      go_upto_region 6 with (fail)
      ((with_reducible refine wp_region_quiet_lit ?_ ?_ ?_); kernel_rfl; kernel_rfl; (repeat (any_goals (first | go_big_quiet_step (fail) | (refine wpQuiet_step (fun K hK => ?_); go_simp; (first | (refine hK _ ?_; clear hK K) | (split <;> rename_i hg <;> (refine hK _ ?_; clear hK K) <;> (try simp only [Bool.not_eq_true] at hg) <;> (first | simp only [Int.not_lt.2 hg, decide_false] | simp only [Int.not_le.1 hg, decide_true] | simp only [hg, decide_true, decide_false] | skip))))))); all_goals (refine wpQuiet_nil ?_; intro _ hw'; obtain ⟨nq, hw''⟩ := hw'; subst hw''))
      go_wp2_with fail
      go_roundw
      case rel => exact ⟨k + 1, by omega, by go_num, below_drewN hb _⟩
      case measure => simp [intOf]; omega
    · obtain rfl : k = n := by omega
      have hkn : ¬ ((k : Int) < (k : Int)) := by omega
      go_wp2_with fail
      go_ret
      exact ⟨rfl, hb⟩
set_option maxHeartbeats 8000000 in
theorem SameInts_any (A B : Option Addr) (n c m d : Nat) (xs : List Int) (w : World) (h : II w A n c xs) (h2 : II w B m d xs) :
    Calls Try.prog 63 #[.slice A n c, .slice B m d] w fun r w' => r = .returned (.bool true) ∧ Below w.heap.size w w' := by
  have hnm : n = m := h.2.len.symm.trans h2.2.len
  subst hnm
  have hn := h.2.nmax
  have H := Lib.hid h.2
  have H2 := Lib.hid h2.2
  clear h h2
  go_enter Try.func63, Try.ntmps63
  go_wp2_with fail
  go_loopw [5] (fun i wr => ∃ k : Nat, k ≤ n ∧ i = .int .i64 k ∧ Below w.heap.size w wr) (fun i _ => n - (intOf i).toNat)
  case atStart => exact ⟨0, Nat.zero_le _, rfl, Below.refl _ _⟩
  case round =>
    obtain ⟨k, hk, rfl, hb⟩ := hrel
    by_cases hlt : k < n
    · obtain ⟨b, off, rfl, hbl, hcells⟩ := H.out.baseIn hb (by omega)
      obtain ⟨b2, off2, rfl, hbl2, hcells2⟩ := H2.out.baseIn hb (by omega)
      obtain ⟨u, hu⟩ := H.out.get hlt
      obtain ⟨v, hv⟩ := H2.out.get hlt
      have hblr := Nat.lt_of_lt_of_le hbl hb.size
      have hbl2r := Nat.lt_of_lt_of_le hbl2 hb.size
      have e0 : wr.cell? ⟨b, off + k * 1, none⟩ = some (.int .i64 u) := Sl.at_ hcells hu 0 rfl
      have f0 : wr.cell? ⟨b2, off2 + k * 1, none⟩ = some (.int .i64 v) := Sl.at_ hcells2 hv 0 rfl
      rw [Nat.mul_one] at e0 f0
      have euv : u = v := by rw [hu] at hv; exact Option.some.inj hv
      subst euv
      have q1 : (u == u) = true := by simp
      have q2 : (u != u) = false := by simp
      clear hcells hcells2 hu hv
      go_upto_region 6 with (fail)
      ((with_reducible refine wp_region_quiet_lit ?_ ?_ ?_); kernel_rfl; kernel_rfl; (repeat (any_goals (first | go_big_quiet_step (fail) | (refine wpQuiet_step (fun K hK => ?_); go_simp; (first | (refine hK _ ?_; clear hK K) | (split <;> rename_i hg <;> (refine hK _ ?_; clear hK K) <;> (try simp only [Bool.not_eq_true] at hg) <;> (first | simp only [Int.not_lt.2 hg, decide_false] | simp only [Int.not_le.1 hg, decide_true] | simp only [hg, decide_true, decide_false] | skip))))))); all_goals (refine wpQuiet_nil ?_; intro _ hw'; obtain ⟨nq, hw''⟩ := hw'; subst hw''))
      go_wp2_with fail
      go_roundw
      case rel => exact ⟨k + 1, by omega, by go_num, below_drewN hb _⟩
      case measure => simp [intOf]; omega
    · obtain rfl : k = n := by omega
      have hkn : ¬ ((k : Int) < (k : Int)) := by omega
      go_wp2_with fail
      go_ret
      exact ⟨rfl, hb⟩
set_option maxHeartbeats 8000000 in
theorem SameL_any (A B : Option Addr) (n c m d : Nat) (xs : List (Iv Q)) (w : World) (h : LI w A n c xs) (h2 : LI w B m d xs) :
    Calls Try.prog 54 #[.slice A n c, .slice B m d] w fun r w' => r = .returned (.bool true) ∧ Below w.heap.size w w' := by
  obtain ⟨_, us, hus, hua⟩ := h
  obtain ⟨_, vs, hvs, hva⟩ := h2
  have hnm : n = m := hus.len.symm.trans (hua.1.trans (hva.1.symm.trans hvs.len))
  subst hnm
  have hn := hus.nmax
  have H := Lib.hid hus
  have H2 := Lib.hid hvs
  have HA := Lib.hid hua
  have HB := Lib.hid hva
  clear hus hvs hua hva
  go_enter Try.func54, Try.ntmps54
  go_wp2_with fail
  go_loopw [5] (fun i wr => ∃ k : Nat, k ≤ n ∧ i = .int .i64 k ∧ Below w.heap.size w wr) (fun i _ => n - (intOf i).toNat)
  case atStart => exact ⟨0, Nat.zero_le _, rfl, Below.refl _ _⟩
  case round =>
    obtain ⟨k, hk, rfl, hb⟩ := hrel
    by_cases hlt : k < n
    · obtain ⟨b, off, rfl, hbl, hcells⟩ := H.out.baseIn hb (by omega)
      obtain ⟨b2, off2, rfl, hbl2, hcells2⟩ := H2.out.baseIn hb (by omega)
      obtain ⟨u, hu⟩ := H.out.get hlt
      obtain ⟨v, hv⟩ := H2.out.get hlt
      have hblr := Nat.lt_of_lt_of_le hbl hb.size
      have hbl2r := Nat.lt_of_lt_of_le hbl2 hb.size
      have e0 : wr.cell? ⟨b, off + k * 6, none⟩ = some (.int .i64 u.f) := Sl.at_ hcells hu 0 rfl
      have e1 : wr.cell? ⟨b, off + k * 6 + 1, none⟩ = some (.int .i64 u.t) := Sl.at_ hcells hu 1 rfl
      have e2 : wr.cell? ⟨b, off + k * 6 + 2, none⟩ = some (.string u.plan) := Sl.at_ hcells hu 2 rfl
      have e3 : wr.cell? ⟨b, off + k * 6 + 3, none⟩ = some (.slice u.A u.n u.c) := Sl.at_ hcells hu 3 rfl
      have e4 : wr.cell? ⟨b, off + k * 6 + 4, none⟩ = some (.bool u.susp) := Sl.at_ hcells hu 4 rfl
      have e5 : wr.cell? ⟨b, off + k * 6 + 5, none⟩ = some (.bool u.fam) := Sl.at_ hcells hu 5 rfl
      have f0 : wr.cell? ⟨b2, off2 + k * 6, none⟩ = some (.int .i64 v.f) := Sl.at_ hcells2 hv 0 rfl
      have f1 : wr.cell? ⟨b2, off2 + k * 6 + 1, none⟩ = some (.int .i64 v.t) := Sl.at_ hcells2 hv 1 rfl
      have f2 : wr.cell? ⟨b2, off2 + k * 6 + 2, none⟩ = some (.string v.plan) := Sl.at_ hcells2 hv 2 rfl
      have f3 : wr.cell? ⟨b2, off2 + k * 6 + 3, none⟩ = some (.slice v.A v.n v.c) := Sl.at_ hcells2 hv 3 rfl
      have f4 : wr.cell? ⟨b2, off2 + k * 6 + 4, none⟩ = some (.bool v.susp) := Sl.at_ hcells2 hv 4 rfl
      have f5 : wr.cell? ⟨b2, off2 + k * 6 + 5, none⟩ = some (.bool v.fam) := Sl.at_ hcells2 hv 5 rfl
      obtain ⟨y, hy, hr⟩ := HA.out.at_ hu
      obtain ⟨y2, hy2, hr2⟩ := HB.out.at_ hv
      have eyy : y = y2 := by rw [hy] at hy2; exact Option.some.inj hy2
      subst eyy
      have HSP : Hid (∀ z, Below wr.heap.size wr z → Calls Try.prog 57 #[.agg #[.int .i64 u.f, .int .i64 u.t, .string u.plan, .slice u.A u.n u.c, .bool u.susp, .bool u.fam], .agg #[.int .i64 v.f, .int .i64 v.t, .string v.plan, .slice v.A v.n v.c, .bool v.susp, .bool v.fam]] z fun r w' => r = .returned (.bool true) ∧ Below z.heap.size z w') := Lib.hid fun z hz => SameSpell_any u v y z (hr.on (hb.trans (hz.mono hb.size))) (hr2.on (hb.trans (hz.mono hb.size)))
      clear hy hy2 hr hr2
      clear hcells hcells2 hu hv
      go_upto_region 6 with (fail)
      ((with_reducible refine wp_region_class (Below wr.heap.size wr) ?_ ?_ ?_ ?_); kernel_rfl; kernel_rfl; (exact (Below.refl _ _).drew); (intro hnonemp); (have ze0 := fun z : Wd (Below wr.heap.size wr) => cl z.h e0; have ze1 := fun z : Wd (Below wr.heap.size wr) => cl z.h e1; have ze2 := fun z : Wd (Below wr.heap.size wr) => cl z.h e2; have ze3 := fun z : Wd (Below wr.heap.size wr) => cl z.h e3; have ze4 := fun z : Wd (Below wr.heap.size wr) => cl z.h e4; have ze5 := fun z : Wd (Below wr.heap.size wr) => cl z.h e5; have zf0 := fun z : Wd (Below wr.heap.size wr) => cl z.h f0; have zf1 := fun z : Wd (Below wr.heap.size wr) => cl z.h f1; have zf2 := fun z : Wd (Below wr.heap.size wr) => cl z.h f2; have zf3 := fun z : Wd (Below wr.heap.size wr) => cl z.h f3; have zf4 := fun z : Wd (Below wr.heap.size wr) => cl z.h f4; have zf5 := fun z : Wd (Below wr.heap.size wr) => cl z.h f5); (repeat (any_goals (first | go_big_quiet_step (((first | (go_at_call 57; (with_reducible refine (HSP.out _ (Wd.h _)).mono ?_); rintro e w' ⟨rfl, hbk⟩; exact ⟨rfl, ⟨w', Below.trans (Wd.h _) (hbk.mono (Below.size (Wd.h _)))⟩, rfl⟩)))) | (refine wpQuiet_step (fun K hK => ?_); go_simp; (first | (refine hK _ ?_; clear hK K) | (split <;> rename_i hg <;> (refine hK _ ?_; clear hK K) <;> (try simp only [Bool.not_eq_true] at hg) <;> (first | simp only [Int.not_lt.2 hg, decide_false] | simp only [Int.not_le.1 hg, decide_true] | simp only [hg, decide_true, decide_false] | skip)))))));  all_goals (refine wpQuiet_nil ?_; intro wq hgq))
      go_wp2_with fail
      go_roundw
      case rel => exact ⟨k + 1, by omega, by go_num, hb.trans (hgq.mono hb.size)⟩
      case measure => simp [intOf]; omega
    · obtain rfl : k = n := by omega
      have hkn : ¬ ((k : Int) < (k : Int)) := by omega
      go_wp2_with fail
      go_ret
      exact ⟨rfl, hb⟩
end Ss
end Go.Proofs.Yteaanngagcflhaa
namespace Go.Proofs.Yteaanngagcflhaa
open Go.RowKit
namespace Ss
open Cu
theorem sqd (a b : ByteArray) : seq_ a b = (a.data.toList == b.data.toList) := by unfold seq_; rw [Lib.toList_data, Lib.toList_data]
def nBas : ByteArray := ⟨#[98, 97, 115, 105, 99]⟩
def nFla : ByteArray := ⟨#[102, 108, 97, 116]⟩
def nPlu : ByteArray := ⟨#[112, 108, 117, 115]⟩
def z1 : Ev := ⟨0, 1, 1, 0, nEmpty, nPost, 1⟩
def z2 : Ev := ⟨100, 3, 1, 7, nEmpty, nBas, 0⟩
def z3 : Ev := ⟨200, 8, 0, 7, nEmpty, nFla, 0⟩
def z4 : Ev := ⟨300, 10, 0, 7, nEmpty, nEmpty, 0⟩
def z5 : Ev := ⟨400, 11, 0, 7, nEmpty, nEmpty, 0⟩
def z6 : Ev := ⟨400, 7, 0, 7, nEmpty, nPlu, 0⟩
def lz : List Ev := [z1, z2, z3, z4, z5, z6]
def c1 : Ac := ⟨1, 0, 1, false, false⟩
def t2 : Sb := ⟨7, 1, 100, nBas, [], [], false, false⟩
def t3 : Sb := ⟨7, 1, 100, nBas, [], [nFla], false, false⟩
def t4 : Sb := ⟨7, 1, 100, nBas, [], [nFla], true, false⟩
def t6 : Sb := ⟨7, 1, 100, nPlu, [], [nFla], false, false⟩
theorem g1 : faultR bk0 z1 0 = 0 := by
  simp [faultR, formR, formT, fldBad, idBad, nameBad, uA, uS, uN, uM, uV, idB, valB, nmB, nmC, sqd, ofAcc, findA, bk0, z1, nPre, nPost, nEmpty]
theorem h1 : applyR bk0 z1 = ⟨[c1], [], []⟩ := by simp [applyR, bk0, z1, sqd, nPre, nPost, c1]
theorem g2 : faultR ⟨[c1], [], []⟩ z2 0 = 0 := by
  simp [faultR, formR, formT, fldBad, idBad, nameBad, uA, uS, uN, uM, uV, idB, valB, nmB, nmC, sqd, ofAcc, findA, findS, z2, nPre, nPost, nEmpty, nBas, c1]
theorem h2 : applyR ⟨[c1], [], []⟩ z2 = ⟨[c1], [t2], []⟩ := by simp [applyR, z2, t2]
theorem g3 : faultR ⟨[c1], [t2], []⟩ z3 100 = 0 := by
  simp [faultR, formR, formT, fldBad, idBad, nameBad, uA, uS, uN, uM, uV, idB, valB, nmB, nmC, sqd, ofSub, findS, endedB, hasS, z3, nPre, nPost, nEmpty, nFla, t2]
theorem h3 : applyR ⟨[c1], [t2], []⟩ z3 = ⟨[c1], [t3], []⟩ := by simp [applyR, mapFirst, chgR, insS, z3, t2, t3]
theorem g4 : faultR ⟨[c1], [t3], []⟩ z4 200 = 0 := by
  simp [faultR, formR, formT, fldBad, idBad, nameBad, uA, uS, uN, uM, uV, idB, valB, nmB, nmC, sqd, ofSub, findS, endedB, hasS, z4, nPre, nPost, nEmpty, t3]
theorem h4 : applyR ⟨[c1], [t3], []⟩ z4 = ⟨[c1], [t4], []⟩ := by simp [applyR, mapFirst, chgR, z4, t3, t4]
theorem g5 : faultR ⟨[c1], [t4], []⟩ z5 300 = 0 := by
  simp [faultR, formR, formT, fldBad, idBad, nameBad, uA, uS, uN, uM, uV, idB, valB, nmB, nmC, sqd, ofSub, findS, endedB, hasS, z5, nPre, nPost, nEmpty, t4]
theorem h5 : applyR ⟨[c1], [t4], []⟩ z5 = ⟨[c1], [t3], []⟩ := by simp [applyR, mapFirst, chgR, z5, t3, t4]
theorem g6 : faultR ⟨[c1], [t3], []⟩ z6 400 = 0 := by
  simp [faultR, formR, formT, fldBad, idBad, nameBad, uA, uS, uN, uM, uV, idB, valB, nmB, nmC, sqd, ofSub, findS, endedB, hasS, z6, nPre, nPost, nEmpty, nPlu, t3]
theorem h6 : applyR ⟨[c1], [t3], []⟩ z6 = ⟨[c1], [t6], []⟩ := by simp [applyR, mapFirst, chgR, z6, t3, t6]
theorem e1 : bkN lz 1 = ⟨[c1], [], []⟩ := h1
theorem e2 : bkN lz 2 = ⟨[c1], [t2], []⟩ := by show applyR (applyR bk0 z1) z2 = _; rw [h1, h2]
theorem e3 : bkN lz 3 = ⟨[c1], [t3], []⟩ := by show applyR (applyR (applyR bk0 z1) z2) z3 = _; rw [h1, h2, h3]
theorem e4 : bkN lz 4 = ⟨[c1], [t4], []⟩ := by show applyR (applyR (applyR (applyR bk0 z1) z2) z3) z4 = _; rw [h1, h2, h3, h4]
theorem e5 : bkN lz 5 = ⟨[c1], [t3], []⟩ := by show applyR (applyR (applyR (applyR (applyR bk0 z1) z2) z3) z4) z5 = _; rw [h1, h2, h3, h4, h5]
theorem e6 : bkN lz 6 = ⟨[c1], [t6], []⟩ := by show applyR (applyR (applyR (applyR (applyR (applyR bk0 z1) z2) z3) z4) z5) z6 = _; rw [h1, h2, h3, h4, h5, h6]
theorem vz : Vl lz := by
  refine ⟨by decide, fun j hj => ?_⟩
  have hj' : j < 6 := hj
  have : j = 0 ∨ j = 1 ∨ j = 2 ∨ j = 3 ∨ j = 4 ∨ j = 5 := by omega
  rcases this with rfl | rfl | rfl | rfl | rfl | rfl
  · exact g1
  · show faultR (bkN lz 1) z2 0 = 0; rw [e1]; exact g2
  · show faultR (bkN lz 2) z3 100 = 0; rw [e2]; exact g3
  · show faultR (bkN lz 3) z4 200 = 0; rw [e3]; exact g4
  · show faultR (bkN lz 4) z5 300 = 0; rw [e4]; exact g5
  · show faultR (bkN lz 5) z6 400 = 0; rw [e5]; exact g6
theorem szz : SzOk lz := fun e he => by
  have h : e = z1 ∨ e = z2 ∨ e = z3 ∨ e = z4 ∨ e = z5 ∨ e = z6 := by simpa [lz] using he
  have m : (8 : Nat) ≤ maxLen := by unfold maxLen; omega
  rcases h with rfl | rfl | rfl | rfl | rfl | rfl <;> exact ⟨Nat.le_trans (by decide) m, Nat.le_trans (by decide) m⟩
def u2 : Sb := ⟨7, 1, 100, nBas, [], [], false, false⟩
def p1 : Iv Q := ⟨100, 200, ⟨nBas, [], false, false⟩⟩
def p2 : Iv Q := ⟨200, 300, ⟨nBas, [nFla], false, false⟩⟩
def p3 : Iv Q := ⟨300, 400, ⟨nBas, [nFla], true, false⟩⟩
def p4 : Iv Q := ⟨400, 12622780800, ⟨nPlu, [nFla], false, false⟩⟩
theorem moz : moE lz 7 = [⟨100, t2⟩, ⟨200, t3⟩, ⟨300, t4⟩, ⟨400, t6⟩] := by
  simp [moE, moN, lz, z1, z2, z3, z4, z5, z6, nxtS, addM, insS, t2, t3, t4, t6, sb0]
theorem ne23 : eqvB t2 t3 = false := by simp [eqvB, t2, t3, qOf]
theorem ne34 : eqvB t3 t4 = false := by simp [eqvB, t3, t4, qOf]
theorem ne46 : eqvB t4 t6 = false := by simp [eqvB, t4, t6, qOf]
theorem jnz : jnE lz 7 = [⟨100, t2⟩, ⟨200, t3⟩, ⟨300, t4⟩, ⟨400, t6⟩] := by
  unfold jnE
  rw [moz]
  simp [jnN, addJ, ne23, ne34, ne46]
theorem spz : spE lz 7 = [p1, p2, p3, p4] := by
  unfold spE
  rw [jnz]
  simp [spK, toJ, t2, t3, t4, t6, qOf, p1, p2, p3, p4, fo]
theorem atz : atI (spE lz 7) 399 = some p3 := by rw [spz]; simp [atI, inV, p1, p2, p3, p4]
theorem acz : duI (kA nFla) (spE lz 7) = [⟨200, 12622780800⟩] := by
  rw [spz]; simp [duI, kpI, kA, hasS, sqd, jnP, addP, p1, p2, p3, p4, nFla]
theorem sez : duI kS (spE lz 7) = [⟨100, 300⟩, ⟨400, 12622780800⟩] := by
  rw [spz]; simp [duI, kpI, kS, jnP, addP, p1, p2, p3, p4]
theorem at500 : bkAt lz 500 = ⟨[c1], [t6], []⟩ := by
  rw [(bkAt_N vz 500).1, show cutN lz 500 = 6 by simp [cutN, lz, z1, z2, z3, z4, z5, z6], e6]
theorem famN_nil {S : List Sb} {ac : Int} (h : ∀ s ∈ S, s.fam = false) : ∀ k, famN S ac k = []
  | 0 => rfl
  | k + 1 => by
    have ih := famN_nil (ac := ac) h k
    cases hs : S[k]? with
    | none => show (match S[k]? with | some s => if s.acc = ac ∧ s.fam = true then famN S ac k ++ [s.id] else famN S ac k | none => famN S ac k) = []; rw [hs]; exact ih
    | some s =>
      rw [famN_succ hs, if_neg (fun e => by rw [h s (List.mem_of_getElem? hs)] at e; cases e.2)]
      exact ih
theorem cSubs_mem' {b : Bk} {s : Sb} (h : s ∈ cSubs b) : s ∈ b.subs := by
  unfold cSubs at h
  obtain ⟨i, _, hi⟩ := List.mem_filterMap.1 h
  unfold liveS at hi
  split at hi
  · cases hi
  · exact List.mem_of_find?_eq_some hi
theorem faz : famE (bkAt lz 500) 1 = [] := by
  refine famN_nil (fun s hs => ?_) _
  have h := cSubs_mem' hs
  rw [at500] at h
  simp at h
  rw [h]; rfl
end Ss
end Go.Proofs.Yteaanngagcflhaa
