/-
  Discounts: Apply. No condition.
-/
import Derived.Test.YtdjlfdbdhacmjaaDcB
import Derived.Test.YtdjlfdbdhacmjaaExUH
import Derived.Test.YtdjlfdbdhacmjaaExVA
import Derived.BigQuiet
import Derived.StillTailTactics
import Derived.Lib.Overlaps
import Derived.Deep.DeepCutAuto
import Derived.Deep.RegionWith
set_option maxRecDepth 100000
set_option linter.unusedVariables false
set_option linter.unusedSimpArgs false
namespace Go.Proofs.Ytdjlfdbdhacmjaa
open Go.RowKit

namespace Dc
open Xp
/-- a discount's cells -/
structure Dit where
  name : ByteArray
  it : It
  pts : Int
instance : Flat Dit where
  sz := 6
  pos := by decide
  cells d := [.string d.name, .int .i64 d.it.op, .int .i64 d.it.num, .string d.it.text, .slice d.it.A d.it.n d.it.c, .int .i64 d.pts]
  len _ := rfl
  one _ := by simp [Value.oneCell']
def Dit.val (d : Dit) : Value := .agg #[.string d.name, .int .i64 d.it.op, .int .i64 d.it.num, .string d.it.text, .slice d.it.A d.it.n d.it.c, .int .i64 d.pts]
/-- a discount in plain words -/
structure Dsc where
  name : ByteArray
  e : Ex
  pts : Int
/-- an amount that was given -/
structure Giv where
  name : ByteArray
  amt : Int
instance : Flat Giv where
  sz := 2
  pos := by decide
  cells d := [.string d.name, .int .i64 d.amt]
  len _ := rfl
  one _ := by simp [Value.oneCell']
def Dl (w : World) (ds : List Dsc) (items : List Dit) : Prop := items.length = ds.length ∧ ∀ (i : Nat) (x : Dit) (d : Dsc), items[i]? = some x → ds[i]? = some d → x.name = d.name ∧ x.pts = d.pts ∧ Rp w d.e x.it
theorem Dl.below {w w' : World} {ds : List Dsc} {items : List Dit} (h : Dl w ds items) (hb : Below w.heap.size w w') : Dl w' ds items :=
  ⟨h.1, fun i x d hx hd => by obtain ⟨a, b, c⟩ := h.2 i x d hx hd; exact ⟨a, b, c.on hb⟩⟩
/-- what is given, what remains, the error -/
def applyF (v : Env) : List Giv → Int → List Dsc → List Giv × Int × Int
  | out, g, [] => (out, g, 0)
  | out, g, d :: l => if topH v d.e = false then applyF v out g l else if d.pts < 0 ∨ 10000 < d.pts then ([], 0, 6) else applyF v (if pct g d.pts = 0 then out else out ++ [⟨d.name, pct g d.pts⟩]) (g - pct g d.pts) l
def applyE (v : Env) (g : Int) (ds : List Dsc) : List Giv × Int × Int := if g < 0 ∨ 1125899906842624 < g then ([], 0, 6) else applyF v [] g ds
theorem dropc {α : Type} {l : List α} {k : Nat} {s : α} (h : l[k]? = some s) : l.drop k = s :: l.drop (k + 1) := by
  obtain ⟨hk, rfl⟩ := List.getElem?_eq_some_iff.1 h
  exact List.drop_eq_getElem_cons hk
theorem info_giv : (Try.prog.info? 42).map (fun i => (i.zero, i.size, i.bytes)) = some (some (.agg #[.string ⟨#[]⟩, .int .i64 0]), 2, 24) := by kernel_rfl
set_option maxHeartbeats 4000000 in
theorem applies_any (g : Nat) (v : Env) (e : Ex) (x : Dit) (w : World) (h : Rp w e x.it) (hg : g < w.heap.size)
    (qb0 : w.cell? ⟨g, 0, none⟩ = some (.int .i64 v.kind)) (qb1 : w.cell? ⟨g, 1, none⟩ = some (.int .i64 v.units)) (qb2 : w.cell? ⟨g, 2, none⟩ = some (.int .i64 v.weekday)) (qb3 : w.cell? ⟨g, 3, none⟩ = some (.int .i64 v.minute)) (qb4 : w.cell? ⟨g, 4, none⟩ = some (.int .i64 v.total)) (qb5 : w.cell? ⟨g, 5, none⟩ = some (.int .i64 v.spent)) (qb6 : w.cell? ⟨g, 6, none⟩ = some (.string v.zone)) (qb7 : w.cell? ⟨g, 7, none⟩ = some (.string v.band)) (qb8 : w.cell? ⟨g, 8, none⟩ = some (.bool v.family)) :
    Calls Try.prog 20 #[x.val, .pointer (some ⟨g, 0, none⟩)] w fun r w' => r = .returned (.bool (topH v e)) ∧ Below w.heap.size w w' := by
  have HR := Lib.hid h
  clear h
  obtain ⟨name, it, pts⟩ := x
  unfold Dit.val
  go_enter Try.func20, Try.ntmps20
  go_upto_region 1 with (fail)
  (obtain ⟨W, hWW, hbW, hzW, f1W, qfa⟩ := box1 w #[.string name, .int .i64 it.op, .int .i64 it.num, .string it.text, .slice it.A it.n it.c, .int .i64 pts] 47; rw [← hWW]; have qa0 : W.cell? ⟨w.heap.size, 0, none⟩ = some (.string name) := f1W 0 _ rfl; have qa1 : W.cell? ⟨w.heap.size, 1, none⟩ = some (.int .i64 it.op) := f1W 1 _ rfl; have qa2 : W.cell? ⟨w.heap.size, 2, none⟩ = some (.int .i64 it.num) := f1W 2 _ rfl; have qa3 : W.cell? ⟨w.heap.size, 3, none⟩ = some (.string it.text) := f1W 3 _ rfl; have qa4 : W.cell? ⟨w.heap.size, 4, none⟩ = some (.slice it.A it.n it.c) := f1W 4 _ rfl; have qa5 : W.cell? ⟨w.heap.size, 5, none⟩ = some (.int .i64 pts) := f1W 5 _ rfl; clear hWW f1W)
  (have hzhbW := hbW.size; replace qb0 := (hbW.cell (p := ⟨_, _, none⟩) (by (try dsimp only) <;> omega)).trans qb0; replace qb1 := (hbW.cell (p := ⟨_, _, none⟩) (by (try dsimp only) <;> omega)).trans qb1; replace qb2 := (hbW.cell (p := ⟨_, _, none⟩) (by (try dsimp only) <;> omega)).trans qb2; replace qb3 := (hbW.cell (p := ⟨_, _, none⟩) (by (try dsimp only) <;> omega)).trans qb3; replace qb4 := (hbW.cell (p := ⟨_, _, none⟩) (by (try dsimp only) <;> omega)).trans qb4; replace qb5 := (hbW.cell (p := ⟨_, _, none⟩) (by (try dsimp only) <;> omega)).trans qb5; replace qb6 := (hbW.cell (p := ⟨_, _, none⟩) (by (try dsimp only) <;> omega)).trans qb6; replace qb7 := (hbW.cell (p := ⟨_, _, none⟩) (by (try dsimp only) <;> omega)).trans qb7; replace qb8 := (hbW.cell (p := ⟨_, _, none⟩) (by (try dsimp only) <;> omega)).trans qb8)
  have hgW : w.heap.size < W.heap.size := hzW
  have hgg : g < W.heap.size := by omega
  go_wp2_with fail
  refine (Holds_top v e it _ (HR.out.on hbW)).mono ?_
  rintro r w1 ⟨rfl, hb1⟩
  have hbE := hbW.trans (hb1.mono hbW.size)
  go_wp2_with fail
  go_ret
  exact ⟨rfl, hbE⟩
set_option maxHeartbeats 8000000 in
theorem apply_any (v : Env) (g : Int) (ds : List Dsc) (A : Option Addr) (n c : Nat) (items : List Dit) (w : World) (hn1 : n ≤ 1000) (h : Sl w A n c items) (hd : Dl w ds items) :
    Calls Try.prog 13 #[.slice A n c, v.val, .int .i64 g] w fun r w' => ∃ u, r = .returned (.tuple #[u, .int .i64 (applyE v g ds).2.1, .int .i64 (applyE v g ds).2.2]) ∧ Ow w' w.heap.size 42 u (applyE v g ds).1 ∧ Below w.heap.size w w' := by
  have hn := h.nmax
  have hlen := h.len
  have H := Lib.hid h
  have HD := Lib.hid hd
  clear h hd
  unfold Env.val
  by_cases hg : g < 0 ∨ 1125899906842624 < g
  · have HE := Lib.hid (show applyE v g ds = ([], 0, 6) by unfold applyE; rw [if_pos hg])
    rcases (show g < 0 ∨ (¬ g < 0 ∧ 1125899906842624 < g) by omega) with h1 | ⟨h1, h2⟩
    all_goals
      go_enter Try.func13, Try.ntmps13
      go_upto_region 1 with (fail)
      (obtain ⟨W, hWW, hbW, hzW, f1W, qfa⟩ := box1 w #[.int .i64 v.kind, .int .i64 v.units, .int .i64 v.weekday, .int .i64 v.minute, .int .i64 v.total, .int .i64 v.spent, .string v.zone, .string v.band, .bool v.family] 29; rw [← hWW]; have qa0 : W.cell? ⟨w.heap.size, 0, none⟩ = some (.int .i64 v.kind) := f1W 0 _ rfl; have qa1 : W.cell? ⟨w.heap.size, 1, none⟩ = some (.int .i64 v.units) := f1W 1 _ rfl; have qa2 : W.cell? ⟨w.heap.size, 2, none⟩ = some (.int .i64 v.weekday) := f1W 2 _ rfl; have qa3 : W.cell? ⟨w.heap.size, 3, none⟩ = some (.int .i64 v.minute) := f1W 3 _ rfl; have qa4 : W.cell? ⟨w.heap.size, 4, none⟩ = some (.int .i64 v.total) := f1W 4 _ rfl; have qa5 : W.cell? ⟨w.heap.size, 5, none⟩ = some (.int .i64 v.spent) := f1W 5 _ rfl; have qa6 : W.cell? ⟨w.heap.size, 6, none⟩ = some (.string v.zone) := f1W 6 _ rfl; have qa7 : W.cell? ⟨w.heap.size, 7, none⟩ = some (.string v.band) := f1W 7 _ rfl; have qa8 : W.cell? ⟨w.heap.size, 8, none⟩ = some (.bool v.family) := f1W 8 _ rfl; clear hWW f1W)
      go_wp2_with fail
      go_ret3
      rw [HE.out]
      exact ⟨_, rfl, Ow.nil_ _ _ _, hbW⟩
  · have HE := Lib.hid (show applyE v g ds = applyF v [] g ds by unfold applyE; rw [if_neg hg])
    have h1 : ¬ g < 0 := by omega
    have h2 : ¬ 1125899906842624 < g := by omega
    go_enter Try.func13, Try.ntmps13
    go_upto_region 1 with (fail)
    (obtain ⟨W, hWW, hbW, hzW, f1W, qfa⟩ := box1 w #[.int .i64 v.kind, .int .i64 v.units, .int .i64 v.weekday, .int .i64 v.minute, .int .i64 v.total, .int .i64 v.spent, .string v.zone, .string v.band, .bool v.family] 29; rw [← hWW]; have qa0 : W.cell? ⟨w.heap.size, 0, none⟩ = some (.int .i64 v.kind) := f1W 0 _ rfl; have qa1 : W.cell? ⟨w.heap.size, 1, none⟩ = some (.int .i64 v.units) := f1W 1 _ rfl; have qa2 : W.cell? ⟨w.heap.size, 2, none⟩ = some (.int .i64 v.weekday) := f1W 2 _ rfl; have qa3 : W.cell? ⟨w.heap.size, 3, none⟩ = some (.int .i64 v.minute) := f1W 3 _ rfl; have qa4 : W.cell? ⟨w.heap.size, 4, none⟩ = some (.int .i64 v.total) := f1W 4 _ rfl; have qa5 : W.cell? ⟨w.heap.size, 5, none⟩ = some (.int .i64 v.spent) := f1W 5 _ rfl; have qa6 : W.cell? ⟨w.heap.size, 6, none⟩ = some (.string v.zone) := f1W 6 _ rfl; have qa7 : W.cell? ⟨w.heap.size, 7, none⟩ = some (.string v.band) := f1W 7 _ rfl; have qa8 : W.cell? ⟨w.heap.size, 8, none⟩ = some (.bool v.family) := f1W 8 _ rfl; clear hWW f1W)
    have hgW : w.heap.size < W.heap.size := hzW
    go_wp2_with fail
    go_loopw [10, 11, 26] (fun u t i wr => ∃ (k : Nat) (out : List Giv) (rest : Int), k ≤ n ∧ i = .int .i64 k ∧ t = .int .i64 rest ∧ Ow wr W.heap.size 42 u out ∧ out.length ≤ k ∧ Below W.heap.size W wr ∧ 0 ≤ rest ∧ rest ≤ 1125899906842624 ∧ applyF v [] g ds = applyF v out rest (ds.drop k)) (fun _ _ i _ => n - (intOf i).toNat)
    case atStart => exact ⟨0, [], g, Nat.zero_le _, rfl, rfl, Ow.nil_ _ _ _, Nat.le_refl _, Below.refl _ _, by omega, by omega, rfl⟩
    case round =>
      obtain ⟨k, out, rest, hk, rfl, rfl, hown, hol, hb, hr1, hr2, hF⟩ := hrel
      have HF := Lib.hid hF
      have HOW := Lib.hid hown
      clear hF hown
      have hzb := hb.size
      have hgr : w.heap.size < wr.heap.size := by omega
      by_cases hlt : k < n
      · have hbw := hbW.trans (hb.mono hbW.size)
        obtain ⟨b, off, rfl, hbl, hcells⟩ := H.out.baseIn hbw (by omega)
        obtain ⟨x, hx⟩ := H.out.get hlt
        obtain ⟨d, hdk⟩ : ∃ d, ds[k]? = some d := ⟨ds[k]'(by have := HD.out.1; omega), List.getElem?_eq_getElem _⟩
        obtain ⟨hnm, hpt, hrp⟩ := HD.out.2 k x d hx hdk
        obtain ⟨name, it, pts⟩ := x
        obtain ⟨dn, de, dp⟩ := d
        dsimp only at hnm hpt hrp
        subst hnm hpt
        have HRP := Lib.hid (hrp.on hbw)
        have c0 : wr.cell? ⟨b, off + k * 6, none⟩ = some (.string name) := Sl.at_ hcells hx 0 rfl
        have c1 : wr.cell? ⟨b, off + k * 6 + 1, none⟩ = some (.int .i64 it.op) := Sl.at_ hcells hx 1 rfl
        have c2 : wr.cell? ⟨b, off + k * 6 + 2, none⟩ = some (.int .i64 it.num) := Sl.at_ hcells hx 2 rfl
        have c3 : wr.cell? ⟨b, off + k * 6 + 3, none⟩ = some (.string it.text) := Sl.at_ hcells hx 3 rfl
        have c4 : wr.cell? ⟨b, off + k * 6 + 4, none⟩ = some (.slice it.A it.n it.c) := Sl.at_ hcells hx 4 rfl
        have c5 : wr.cell? ⟨b, off + k * 6 + 5, none⟩ = some (.int .i64 pts) := Sl.at_ hcells hx 5 rfl
        have HDR := Lib.hid (HF.out.trans (by rw [dropc hdk, applyF]))
        have hkl : k < n := hlt
        clear hcells hx hdk hrp HF
        (have eqa0 := (hb.cell (p := ⟨_, _, none⟩) (by (try dsimp only) <;> omega)).trans qa0; have eqa1 := (hb.cell (p := ⟨_, _, none⟩) (by (try dsimp only) <;> omega)).trans qa1; have eqa2 := (hb.cell (p := ⟨_, _, none⟩) (by (try dsimp only) <;> omega)).trans qa2; have eqa3 := (hb.cell (p := ⟨_, _, none⟩) (by (try dsimp only) <;> omega)).trans qa3; have eqa4 := (hb.cell (p := ⟨_, _, none⟩) (by (try dsimp only) <;> omega)).trans qa4; have eqa5 := (hb.cell (p := ⟨_, _, none⟩) (by (try dsimp only) <;> omega)).trans qa5; have eqa6 := (hb.cell (p := ⟨_, _, none⟩) (by (try dsimp only) <;> omega)).trans qa6; have eqa7 := (hb.cell (p := ⟨_, _, none⟩) (by (try dsimp only) <;> omega)).trans qa7; have eqa8 := (hb.cell (p := ⟨_, _, none⟩) (by (try dsimp only) <;> omega)).trans qa8)
        go_upto_region 9 with (fail)
        (obtain ⟨V, hWV, hbV, hzV, f1V, mfa⟩ := box1 wr #[.string name, .int .i64 it.op, .int .i64 it.num, .string it.text, .slice it.A it.n it.c, .int .i64 pts] 47; rw [← hWV]; have ma0 : V.cell? ⟨wr.heap.size, 0, none⟩ = some (.string name) := f1V 0 _ rfl; have ma1 : V.cell? ⟨wr.heap.size, 1, none⟩ = some (.int .i64 it.op) := f1V 1 _ rfl; have ma2 : V.cell? ⟨wr.heap.size, 2, none⟩ = some (.int .i64 it.num) := f1V 2 _ rfl; have ma3 : V.cell? ⟨wr.heap.size, 3, none⟩ = some (.string it.text) := f1V 3 _ rfl; have ma4 : V.cell? ⟨wr.heap.size, 4, none⟩ = some (.slice it.A it.n it.c) := f1V 4 _ rfl; have ma5 : V.cell? ⟨wr.heap.size, 5, none⟩ = some (.int .i64 pts) := f1V 5 _ rfl; clear hWV f1V)
        replace HOW := Lib.hid (HOW.out.below hbV)
        (have hzhbV := hbV.size; replace eqa0 := (hbV.cell (p := ⟨_, _, none⟩) (by (try dsimp only) <;> omega)).trans eqa0; replace eqa1 := (hbV.cell (p := ⟨_, _, none⟩) (by (try dsimp only) <;> omega)).trans eqa1; replace eqa2 := (hbV.cell (p := ⟨_, _, none⟩) (by (try dsimp only) <;> omega)).trans eqa2; replace eqa3 := (hbV.cell (p := ⟨_, _, none⟩) (by (try dsimp only) <;> omega)).trans eqa3; replace eqa4 := (hbV.cell (p := ⟨_, _, none⟩) (by (try dsimp only) <;> omega)).trans eqa4; replace eqa5 := (hbV.cell (p := ⟨_, _, none⟩) (by (try dsimp only) <;> omega)).trans eqa5; replace eqa6 := (hbV.cell (p := ⟨_, _, none⟩) (by (try dsimp only) <;> omega)).trans eqa6; replace eqa7 := (hbV.cell (p := ⟨_, _, none⟩) (by (try dsimp only) <;> omega)).trans eqa7; replace eqa8 := (hbV.cell (p := ⟨_, _, none⟩) (by (try dsimp only) <;> omega)).trans eqa8; replace hb := Below.trans hb (Below.mono hbV (by omega)))
        replace HRP := Lib.hid (HRP.out.on hbV)
        have hgV : w.heap.size < V.heap.size := by omega
        have hgV2 : wr.heap.size < V.heap.size := hzV
        go_wp2_with fail
        refine (applies_any w.heap.size v de ⟨name, it, pts⟩ V HRP.out hgV eqa0 eqa1 eqa2 eqa3 eqa4 eqa5 eqa6 eqa7 eqa8).mono ?_
        rintro r w1 ⟨rfl, hb1⟩
        replace HOW := Lib.hid (HOW.out.below hb1)
        (have hzhb1 := hb1.size; replace ma0 := (hb1.cell (p := ⟨_, _, none⟩) (by (try dsimp only) <;> omega)).trans ma0; replace ma1 := (hb1.cell (p := ⟨_, _, none⟩) (by (try dsimp only) <;> omega)).trans ma1; replace ma2 := (hb1.cell (p := ⟨_, _, none⟩) (by (try dsimp only) <;> omega)).trans ma2; replace ma3 := (hb1.cell (p := ⟨_, _, none⟩) (by (try dsimp only) <;> omega)).trans ma3; replace ma4 := (hb1.cell (p := ⟨_, _, none⟩) (by (try dsimp only) <;> omega)).trans ma4; replace ma5 := (hb1.cell (p := ⟨_, _, none⟩) (by (try dsimp only) <;> omega)).trans ma5; replace hb := Below.trans hb (Below.mono hb1 (by omega)))
        clear eqa0 eqa1 eqa2 eqa3 eqa4 eqa5 eqa6 eqa7 eqa8
        have hg1 : wr.heap.size < w1.heap.size := by omega
        have hg2 : W.heap.size ≤ w1.heap.size := by omega
        cases htop : topH v de
        · have HN := Lib.hid (HDR.out.trans (if_pos htop))
          clear HDR
          go_wp2_with fail
          go_roundw
          case rel => exact ⟨k + 1, out, rest, by omega, by go_num, rfl, HOW.out, by omega, hb, hr1, hr2, HN.out⟩
          case measure => simp [intOf]; omega
        · have HN := HDR.out.trans (if_neg (by rw [htop]; decide))
          replace HN := Lib.hid HN
          clear HDR
          by_cases hp : pts < 0 ∨ 10000 < pts
          · have HG := Lib.hid (HE.out.trans (HN.out.trans (if_pos hp)))
            go_wp2_with fail
            refine (percent_bad rest pts _ hp).mono ?_
            rintro r w2 ⟨rfl, rfl⟩
            go_wp2_with fail
            go_ret3
            rw [HG.out]
            exact ⟨_, rfl, Ow.nil_ _ _ _, hbW.trans (hb.mono hbW.size)⟩
          · have hN := HN.out.trans (if_neg hp)
            have hpb := pct_bd (a := rest) (p := pts) hr1 ⟨by omega, by omega⟩
            obtain ⟨a, ha⟩ : ∃ a, pct rest pts = a := ⟨_, rfl⟩
            rw [ha] at hpb hN
            have HA := Lib.hid ha
            have HM := Lib.hid hN
            obtain ⟨hp1, hp2⟩ := hpb
            have hpp : 0 ≤ pts ∧ pts ≤ 10000 := by omega
            clear hN ha HN hp
            have hws : IntKind.i64.wrap (rest - a) = rest - a := IntWalk.i64_in _ (by omega)
            go_wp2_with fail
            refine (percent_ok rest pts _ ⟨hr1, hr2⟩ hpp).mono ?_
            rintro r w2 ⟨rfl, rfl⟩
            rw [HA.out]
            by_cases ha0 : a = 0
            · subst ha0
              have HL := HM.out
              rw [if_pos rfl, Int.sub_zero] at HL
              replace HL := Lib.hid HL
              clear HM hws
              go_wp2_with fail
              go_roundw
              case rel => exact ⟨k + 1, out, rest, by omega, by go_num, by first | rfl | simp, HOW.out, by omega, hb, hr1, hr2, HL.out⟩
              case measure => simp [intOf]; omega
            · have HL := HM.out
              rw [if_neg ha0] at HL
              replace HL := Lib.hid HL
              have ha1 : (a == 0) = false := by simpa using ha0
              have ha2 : (a != 0) = true := by simpa using ha0
              clear HM
              go_wp2_with (at_builtin; go_must (
                refine wpl_append1 _ rfl (.tmp 49) (.tmp 54) 35 rfl W.heap.size 42 _ 24 Try.underlying35 info_giv rfl u10 out rfl (HOW.out.alloc _) _ ⟨name, a⟩ rfl (fun j u hu => cells_new _ _ _ _ _ (by simp) u hu) (by omega) (by omega) (by rw [alloc_size]; omega) ?_
                intro v2 w2 hown2 hu2
                have hbv2 := hu2.belowBase (HOW.out.alloc _) (hb.alloc hg2 _) (by rw [alloc_size]; omega)
                have HO2 := Lib.hid hown2
                clear hu2 hown2))
              go_roundw
              case rel => exact ⟨k + 1, out ++ [⟨name, a⟩], rest - a, by omega, by go_num, rfl, HO2.out, by simp; omega, hbv2, by omega, by omega, HL.out⟩
              case measure => simp [intOf]; omega
      · obtain rfl : k = n := by omega
        have hkn : ¬ ((k : Int) < (k : Int)) := by omega
        have hdl : ds.length = k := by rw [← HD.out.1]; exact H.out.len
        have HG := Lib.hid (HE.out.trans (HF.out.trans (by rw [List.drop_of_length_le (by omega), applyF])))
        clear hdl
        go_wp2_with fail
        go_ret3
        rw [HG.out]
        exact ⟨_, rfl, HOW.out.lower (by omega), hbW.trans (hb.mono hbW.size)⟩
end Dc
end Go.Proofs.Ytdjlfdbdhacmjaa
