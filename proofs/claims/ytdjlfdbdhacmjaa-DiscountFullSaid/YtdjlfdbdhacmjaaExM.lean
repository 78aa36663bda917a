/-
  Expressions: holds, the walk. No condition.
-/
import Derived.Test.YtdjlfdbdhacmjaaExL
import Derived.BigQuiet
import Derived.StillTailTactics
import Derived.Lib.Overlaps
import Derived.Deep.DeepCutAuto
set_option maxRecDepth 100000
set_option linter.unusedVariables false
set_option linter.unusedSimpArgs false
namespace Go.Proofs.Ytdjlfdbdhacmjaa
open Go.RowKit

namespace Xp
set_option maxHeartbeats 8000000 in
theorem holds_any (v : Env) : ∀ (d : Nat), d ≤ 16 → ∀ (e : Ex) (x : It) (w : World), Rp w e x → srt d e = (3, 0) →
    Calls Try.prog 25 #[x.val, v.val] w fun r w' => r = .returned (.bool (holE v d e)) ∧ Below w.heap.size w w' := by
  intro d
  induction d with
  | zero => intro _ e x w h hs; simp [srt] at hs
  | succ d ih =>
    intro hd e x w h hs
    obtain ⟨op, num, text, args, A, n, c, items, rfl, rfl, hsl, hil, hnil, hch⟩ := h.inv
    have IH := Lib.hid (ih (by omega))
    have HR := Lib.hid h
    clear ih h hsl hil hch hnil
    unfold It.val Env.val
    rcases hol_leaf (v := v) hs with ⟨rfl, rfl⟩ | ⟨a, rfl, rfl, hsa⟩ | ⟨a, b, rfl, h56, hsa, hsb⟩ | ⟨a, b, rfl, ⟨h7, h10⟩, hc⟩
    · have HF := Lib.hid (holE_leaf (v := v) (d := d) (num := num) (text := text))
      clear hs
      go_enter Try.func25, Try.ntmps25
      go_upto_region 1 with (fail)
      (obtain ⟨W, hWW, hbW, hzW, f1W, f2W, qfa, qfb⟩ := box2 w #[.int .i64 3, .int .i64 num, .string text, .slice A n c] 45 #[.int .i64 v.kind, .int .i64 v.units, .int .i64 v.weekday, .int .i64 v.minute, .int .i64 v.total, .int .i64 v.spent, .string v.zone, .string v.band, .bool v.family] 29; rw [← hWW]; have qa0 : W.cell? ⟨w.heap.size, 0, none⟩ = some (.int .i64 3) := f1W 0 _ rfl; have qa1 : W.cell? ⟨w.heap.size, 1, none⟩ = some (.int .i64 num) := f1W 1 _ rfl; have qa2 : W.cell? ⟨w.heap.size, 2, none⟩ = some (.string text) := f1W 2 _ rfl; have qa3 : W.cell? ⟨w.heap.size, 3, none⟩ = some (.slice A n c) := f1W 3 _ rfl; have qb0 : W.cell? ⟨w.heap.size + 1, 0, none⟩ = some (.int .i64 v.kind) := f2W 0 _ rfl; have qb1 : W.cell? ⟨w.heap.size + 1, 1, none⟩ = some (.int .i64 v.units) := f2W 1 _ rfl; have qb2 : W.cell? ⟨w.heap.size + 1, 2, none⟩ = some (.int .i64 v.weekday) := f2W 2 _ rfl; have qb3 : W.cell? ⟨w.heap.size + 1, 3, none⟩ = some (.int .i64 v.minute) := f2W 3 _ rfl; have qb4 : W.cell? ⟨w.heap.size + 1, 4, none⟩ = some (.int .i64 v.total) := f2W 4 _ rfl; have qb5 : W.cell? ⟨w.heap.size + 1, 5, none⟩ = some (.int .i64 v.spent) := f2W 5 _ rfl; have qb6 : W.cell? ⟨w.heap.size + 1, 6, none⟩ = some (.string v.zone) := f2W 6 _ rfl; have qb7 : W.cell? ⟨w.heap.size + 1, 7, none⟩ = some (.string v.band) := f2W 7 _ rfl; have qb8 : W.cell? ⟨w.heap.size + 1, 8, none⟩ = some (.bool v.family) := f2W 8 _ rfl; clear hWW f1W f2W)
      go_wp2_with fail
      go_ret
      exact ⟨ret_bool HF.out.symm, hbW⟩
    · have HE := Lib.hid (holE_not (v := v) (d := d) (num := num) (text := text) (a := a))
      have HSA := Lib.hid hsa
      clear hs hsa
      obtain ⟨b0, off, ya, hA0, hb0, hn0, hRa, -⟩ := HR.out.arg0
      dsimp only at hA0 hn0
      subst hA0
      have hn2 : n = 1 := hn0
      subst hn2
      clear hn0 hRa
      go_enter Try.func25, Try.ntmps25
      go_upto_region 1 with (fail)
      (obtain ⟨W, hWW, hbW, hzW, f1W, f2W, qfa, qfb⟩ := box2 w #[.int .i64 4, .int .i64 num, .string text, .slice (some ⟨b0, off, none⟩) 1 c] 45 #[.int .i64 v.kind, .int .i64 v.units, .int .i64 v.weekday, .int .i64 v.minute, .int .i64 v.total, .int .i64 v.spent, .string v.zone, .string v.band, .bool v.family] 29; rw [← hWW]; have qa0 : W.cell? ⟨w.heap.size, 0, none⟩ = some (.int .i64 4) := f1W 0 _ rfl; have qa1 : W.cell? ⟨w.heap.size, 1, none⟩ = some (.int .i64 num) := f1W 1 _ rfl; have qa2 : W.cell? ⟨w.heap.size, 2, none⟩ = some (.string text) := f1W 2 _ rfl; have qa3 : W.cell? ⟨w.heap.size, 3, none⟩ = some (.slice (some ⟨b0, off, none⟩) 1 c) := f1W 3 _ rfl; have qb0 : W.cell? ⟨w.heap.size + 1, 0, none⟩ = some (.int .i64 v.kind) := f2W 0 _ rfl; have qb1 : W.cell? ⟨w.heap.size + 1, 1, none⟩ = some (.int .i64 v.units) := f2W 1 _ rfl; have qb2 : W.cell? ⟨w.heap.size + 1, 2, none⟩ = some (.int .i64 v.weekday) := f2W 2 _ rfl; have qb3 : W.cell? ⟨w.heap.size + 1, 3, none⟩ = some (.int .i64 v.minute) := f2W 3 _ rfl; have qb4 : W.cell? ⟨w.heap.size + 1, 4, none⟩ = some (.int .i64 v.total) := f2W 4 _ rfl; have qb5 : W.cell? ⟨w.heap.size + 1, 5, none⟩ = some (.int .i64 v.spent) := f2W 5 _ rfl; have qb6 : W.cell? ⟨w.heap.size + 1, 6, none⟩ = some (.string v.zone) := f2W 6 _ rfl; have qb7 : W.cell? ⟨w.heap.size + 1, 7, none⟩ = some (.string v.band) := f2W 7 _ rfl; have qb8 : W.cell? ⟨w.heap.size + 1, 8, none⟩ = some (.bool v.family) := f2W 8 _ rfl; clear hWW f1W f2W)
      have HRW := Lib.hid (HR.out.on hbW)
      have hbW0 : b0 < W.heap.size := by omega
      have hgW : w.heap.size + 1 < W.heap.size := hzW
      have hgW0 : w.heap.size < W.heap.size := by omega
      obtain ⟨_, _, xa, hAa, -, -, hRa, ka0, ka1, ka2, ka3⟩ := HRW.out.arg0
      dsimp only at hAa
      injection hAa with hAa
      injection hAa with hAa1 hAa2
      subst hAa1 hAa2
      have HRA := Lib.hid hRa
      clear hRa
      go_wp2_with fail
      refine (holdside 0 0 (.inl ⟨rfl, rfl⟩) w.heap.size _ v (holE v d a) b0 off 1 c xa hgW hbW0 (by decide) (by decide) qa3 qb0 qb1 qb2 qb3 qb4 qb5 qb6 qb7 qb8 ka0 ka1 ka2 ka3 (fun w' hb => IH.out a xa w' (HRA.out.on hb) HSA.out)).mono ?_
      obtain ⟨ra, hra⟩ : ∃ ra, holE v d a = ra := ⟨_, rfl⟩
      rw [hra]
      rintro r w1 ⟨rfl, hb1⟩
      have HNA := Lib.hid hra
      clear hra
      (have hzhb1 := hb1.size; replace qa0 := (hb1.cell (p := ⟨_, _, none⟩) (by (try dsimp only) <;> omega)).trans qa0; replace qa1 := (hb1.cell (p := ⟨_, _, none⟩) (by (try dsimp only) <;> omega)).trans qa1; replace qa2 := (hb1.cell (p := ⟨_, _, none⟩) (by (try dsimp only) <;> omega)).trans qa2; replace qa3 := (hb1.cell (p := ⟨_, _, none⟩) (by (try dsimp only) <;> omega)).trans qa3; replace qb0 := (hb1.cell (p := ⟨_, _, none⟩) (by (try dsimp only) <;> omega)).trans qb0; replace qb1 := (hb1.cell (p := ⟨_, _, none⟩) (by (try dsimp only) <;> omega)).trans qb1; replace qb2 := (hb1.cell (p := ⟨_, _, none⟩) (by (try dsimp only) <;> omega)).trans qb2; replace qb3 := (hb1.cell (p := ⟨_, _, none⟩) (by (try dsimp only) <;> omega)).trans qb3; replace qb4 := (hb1.cell (p := ⟨_, _, none⟩) (by (try dsimp only) <;> omega)).trans qb4; replace qb5 := (hb1.cell (p := ⟨_, _, none⟩) (by (try dsimp only) <;> omega)).trans qb5; replace qb6 := (hb1.cell (p := ⟨_, _, none⟩) (by (try dsimp only) <;> omega)).trans qb6; replace qb7 := (hb1.cell (p := ⟨_, _, none⟩) (by (try dsimp only) <;> omega)).trans qb7; replace qb8 := (hb1.cell (p := ⟨_, _, none⟩) (by (try dsimp only) <;> omega)).trans qb8; replace hbW := Below.trans hbW (Below.mono hb1 (by omega)))
      have HF := Lib.hid (show holE v (d + 1) (.mk 4 num text [a]) = !ra by rw [HE.out, HNA.out])
      go_wp2_with fail
      go_ret
      exact ⟨ret_bool HF.out.symm, hbW⟩
    · rcases h56 with rfl | rfl
      · have HE := Lib.hid (holE_and (v := v) (d := d) (num := num) (text := text) (a := a) (b := b))
        have HSA := Lib.hid hsa
        have HSB := Lib.hid hsb
        clear hs hsa hsb
        obtain ⟨b0, off, ya, hA0, hb0, hn0, hRa, -⟩ := HR.out.arg0
        dsimp only at hA0 hn0
        subst hA0
        have hn2 : n = 2 := hn0
        subst hn2
        clear hn0 hRa
        go_enter Try.func25, Try.ntmps25
        go_upto_region 1 with (fail)
        (obtain ⟨W, hWW, hbW, hzW, f1W, f2W, qfa, qfb⟩ := box2 w #[.int .i64 5, .int .i64 num, .string text, .slice (some ⟨b0, off, none⟩) 2 c] 45 #[.int .i64 v.kind, .int .i64 v.units, .int .i64 v.weekday, .int .i64 v.minute, .int .i64 v.total, .int .i64 v.spent, .string v.zone, .string v.band, .bool v.family] 29; rw [← hWW]; have qa0 : W.cell? ⟨w.heap.size, 0, none⟩ = some (.int .i64 5) := f1W 0 _ rfl; have qa1 : W.cell? ⟨w.heap.size, 1, none⟩ = some (.int .i64 num) := f1W 1 _ rfl; have qa2 : W.cell? ⟨w.heap.size, 2, none⟩ = some (.string text) := f1W 2 _ rfl; have qa3 : W.cell? ⟨w.heap.size, 3, none⟩ = some (.slice (some ⟨b0, off, none⟩) 2 c) := f1W 3 _ rfl; have qb0 : W.cell? ⟨w.heap.size + 1, 0, none⟩ = some (.int .i64 v.kind) := f2W 0 _ rfl; have qb1 : W.cell? ⟨w.heap.size + 1, 1, none⟩ = some (.int .i64 v.units) := f2W 1 _ rfl; have qb2 : W.cell? ⟨w.heap.size + 1, 2, none⟩ = some (.int .i64 v.weekday) := f2W 2 _ rfl; have qb3 : W.cell? ⟨w.heap.size + 1, 3, none⟩ = some (.int .i64 v.minute) := f2W 3 _ rfl; have qb4 : W.cell? ⟨w.heap.size + 1, 4, none⟩ = some (.int .i64 v.total) := f2W 4 _ rfl; have qb5 : W.cell? ⟨w.heap.size + 1, 5, none⟩ = some (.int .i64 v.spent) := f2W 5 _ rfl; have qb6 : W.cell? ⟨w.heap.size + 1, 6, none⟩ = some (.string v.zone) := f2W 6 _ rfl; have qb7 : W.cell? ⟨w.heap.size + 1, 7, none⟩ = some (.string v.band) := f2W 7 _ rfl; have qb8 : W.cell? ⟨w.heap.size + 1, 8, none⟩ = some (.bool v.family) := f2W 8 _ rfl; clear hWW f1W f2W)
        have HRW := Lib.hid (HR.out.on hbW)
        have hbW0 : b0 < W.heap.size := by omega
        have hgW : w.heap.size + 1 < W.heap.size := hzW
        have hgW0 : w.heap.size < W.heap.size := by omega
        obtain ⟨_, _, xa, hAa, -, -, hRa, ka0, ka1, ka2, ka3⟩ := HRW.out.arg0
        dsimp only at hAa
        injection hAa with hAa
        injection hAa with hAa1 hAa2
        subst hAa1 hAa2
        obtain ⟨xb, hRb, kb0, kb1, kb2, kb3⟩ := HRW.out.arg1 rfl
        have HRB := Lib.hid hRb
        clear hRb
        have HRA := Lib.hid hRa
        clear hRa
        go_wp2_with fail
        refine (holdside 0 0 (.inl ⟨rfl, rfl⟩) w.heap.size _ v (holE v d a) b0 off 2 c xa hgW hbW0 (by decide) (by decide) qa3 qb0 qb1 qb2 qb3 qb4 qb5 qb6 qb7 qb8 ka0 ka1 ka2 ka3 (fun w' hb => IH.out a xa w' (HRA.out.on hb) HSA.out)).mono ?_
        obtain ⟨ra, hra⟩ : ∃ ra, holE v d a = ra := ⟨_, rfl⟩
        rw [hra]
        rintro r w1 ⟨rfl, hb1⟩
        have HNA := Lib.hid hra
        clear hra
        (have hzhb1 := hb1.size; replace qa0 := (hb1.cell (p := ⟨_, _, none⟩) (by (try dsimp only) <;> omega)).trans qa0; replace qa1 := (hb1.cell (p := ⟨_, _, none⟩) (by (try dsimp only) <;> omega)).trans qa1; replace qa2 := (hb1.cell (p := ⟨_, _, none⟩) (by (try dsimp only) <;> omega)).trans qa2; replace qa3 := (hb1.cell (p := ⟨_, _, none⟩) (by (try dsimp only) <;> omega)).trans qa3; replace qb0 := (hb1.cell (p := ⟨_, _, none⟩) (by (try dsimp only) <;> omega)).trans qb0; replace qb1 := (hb1.cell (p := ⟨_, _, none⟩) (by (try dsimp only) <;> omega)).trans qb1; replace qb2 := (hb1.cell (p := ⟨_, _, none⟩) (by (try dsimp only) <;> omega)).trans qb2; replace qb3 := (hb1.cell (p := ⟨_, _, none⟩) (by (try dsimp only) <;> omega)).trans qb3; replace qb4 := (hb1.cell (p := ⟨_, _, none⟩) (by (try dsimp only) <;> omega)).trans qb4; replace qb5 := (hb1.cell (p := ⟨_, _, none⟩) (by (try dsimp only) <;> omega)).trans qb5; replace qb6 := (hb1.cell (p := ⟨_, _, none⟩) (by (try dsimp only) <;> omega)).trans qb6; replace qb7 := (hb1.cell (p := ⟨_, _, none⟩) (by (try dsimp only) <;> omega)).trans qb7; replace qb8 := (hb1.cell (p := ⟨_, _, none⟩) (by (try dsimp only) <;> omega)).trans qb8; replace kb0 := (hb1.cell (p := ⟨_, _, none⟩) (by (try dsimp only) <;> omega)).trans kb0; replace kb1 := (hb1.cell (p := ⟨_, _, none⟩) (by (try dsimp only) <;> omega)).trans kb1; replace kb2 := (hb1.cell (p := ⟨_, _, none⟩) (by (try dsimp only) <;> omega)).trans kb2; replace kb3 := (hb1.cell (p := ⟨_, _, none⟩) (by (try dsimp only) <;> omega)).trans kb3; replace HRB := Lib.hid (HRB.out.on hb1); replace hbW := Below.trans hbW (Below.mono hb1 (by omega)))
        have hgW1 : w.heap.size + 1 < w1.heap.size := by omega
        have hbW1 : b0 < w1.heap.size := by omega
        cases ra
        · have HF := Lib.hid (show holE v (d + 1) (.mk 5 num text [a, b]) = false by rw [HE.out, HNA.out]; rfl)
          go_wp2_with fail
          go_ret
          exact ⟨ret_bool HF.out.symm, hbW⟩
        · go_wp2_with fail
          refine (holdside 1 4 (.inr ⟨rfl, rfl⟩) w.heap.size _ v (holE v d b) b0 off 2 c xb hgW1 hbW1 (by decide) (by decide) qa3 qb0 qb1 qb2 qb3 qb4 qb5 qb6 qb7 qb8 kb0 kb1 kb2 kb3 (fun w' hb => IH.out b xb w' (HRB.out.on hb) HSB.out)).mono ?_
          obtain ⟨rb, hrb⟩ : ∃ rb, holE v d b = rb := ⟨_, rfl⟩
          rw [hrb]
          rintro r w2 ⟨rfl, hb2⟩
          have HNB := Lib.hid hrb
          clear hrb
          (have hzhb2 := hb2.size; replace qa0 := (hb2.cell (p := ⟨_, _, none⟩) (by (try dsimp only) <;> omega)).trans qa0; replace qa1 := (hb2.cell (p := ⟨_, _, none⟩) (by (try dsimp only) <;> omega)).trans qa1; replace qa2 := (hb2.cell (p := ⟨_, _, none⟩) (by (try dsimp only) <;> omega)).trans qa2; replace qa3 := (hb2.cell (p := ⟨_, _, none⟩) (by (try dsimp only) <;> omega)).trans qa3; replace qb0 := (hb2.cell (p := ⟨_, _, none⟩) (by (try dsimp only) <;> omega)).trans qb0; replace qb1 := (hb2.cell (p := ⟨_, _, none⟩) (by (try dsimp only) <;> omega)).trans qb1; replace qb2 := (hb2.cell (p := ⟨_, _, none⟩) (by (try dsimp only) <;> omega)).trans qb2; replace qb3 := (hb2.cell (p := ⟨_, _, none⟩) (by (try dsimp only) <;> omega)).trans qb3; replace qb4 := (hb2.cell (p := ⟨_, _, none⟩) (by (try dsimp only) <;> omega)).trans qb4; replace qb5 := (hb2.cell (p := ⟨_, _, none⟩) (by (try dsimp only) <;> omega)).trans qb5; replace qb6 := (hb2.cell (p := ⟨_, _, none⟩) (by (try dsimp only) <;> omega)).trans qb6; replace qb7 := (hb2.cell (p := ⟨_, _, none⟩) (by (try dsimp only) <;> omega)).trans qb7; replace qb8 := (hb2.cell (p := ⟨_, _, none⟩) (by (try dsimp only) <;> omega)).trans qb8; replace hbW := Below.trans hbW (Below.mono hb2 (by omega)))
          have HF := Lib.hid (show holE v (d + 1) (.mk 5 num text [a, b]) = rb by rw [HE.out, HNA.out, HNB.out]; rfl)
          go_wp2_with fail
          go_ret
          exact ⟨ret_bool HF.out.symm, hbW⟩
      · have HE := Lib.hid (holE_or (v := v) (d := d) (num := num) (text := text) (a := a) (b := b))
        have HSA := Lib.hid hsa
        have HSB := Lib.hid hsb
        clear hs hsa hsb
        obtain ⟨b0, off, ya, hA0, hb0, hn0, hRa, -⟩ := HR.out.arg0
        dsimp only at hA0 hn0
        subst hA0
        have hn2 : n = 2 := hn0
        subst hn2
        clear hn0 hRa
        go_enter Try.func25, Try.ntmps25
        go_upto_region 1 with (fail)
        (obtain ⟨W, hWW, hbW, hzW, f1W, f2W, qfa, qfb⟩ := box2 w #[.int .i64 6, .int .i64 num, .string text, .slice (some ⟨b0, off, none⟩) 2 c] 45 #[.int .i64 v.kind, .int .i64 v.units, .int .i64 v.weekday, .int .i64 v.minute, .int .i64 v.total, .int .i64 v.spent, .string v.zone, .string v.band, .bool v.family] 29; rw [← hWW]; have qa0 : W.cell? ⟨w.heap.size, 0, none⟩ = some (.int .i64 6) := f1W 0 _ rfl; have qa1 : W.cell? ⟨w.heap.size, 1, none⟩ = some (.int .i64 num) := f1W 1 _ rfl; have qa2 : W.cell? ⟨w.heap.size, 2, none⟩ = some (.string text) := f1W 2 _ rfl; have qa3 : W.cell? ⟨w.heap.size, 3, none⟩ = some (.slice (some ⟨b0, off, none⟩) 2 c) := f1W 3 _ rfl; have qb0 : W.cell? ⟨w.heap.size + 1, 0, none⟩ = some (.int .i64 v.kind) := f2W 0 _ rfl; have qb1 : W.cell? ⟨w.heap.size + 1, 1, none⟩ = some (.int .i64 v.units) := f2W 1 _ rfl; have qb2 : W.cell? ⟨w.heap.size + 1, 2, none⟩ = some (.int .i64 v.weekday) := f2W 2 _ rfl; have qb3 : W.cell? ⟨w.heap.size + 1, 3, none⟩ = some (.int .i64 v.minute) := f2W 3 _ rfl; have qb4 : W.cell? ⟨w.heap.size + 1, 4, none⟩ = some (.int .i64 v.total) := f2W 4 _ rfl; have qb5 : W.cell? ⟨w.heap.size + 1, 5, none⟩ = some (.int .i64 v.spent) := f2W 5 _ rfl; have qb6 : W.cell? ⟨w.heap.size + 1, 6, none⟩ = some (.string v.zone) := f2W 6 _ rfl; have qb7 : W.cell? ⟨w.heap.size + 1, 7, none⟩ = some (.string v.band) := f2W 7 _ rfl; have qb8 : W.cell? ⟨w.heap.size + 1, 8, none⟩ = some (.bool v.family) := f2W 8 _ rfl; clear hWW f1W f2W)
        have HRW := Lib.hid (HR.out.on hbW)
        have hbW0 : b0 < W.heap.size := by omega
        have hgW : w.heap.size + 1 < W.heap.size := hzW
        have hgW0 : w.heap.size < W.heap.size := by omega
        obtain ⟨_, _, xa, hAa, -, -, hRa, ka0, ka1, ka2, ka3⟩ := HRW.out.arg0
        dsimp only at hAa
        injection hAa with hAa
        injection hAa with hAa1 hAa2
        subst hAa1 hAa2
        obtain ⟨xb, hRb, kb0, kb1, kb2, kb3⟩ := HRW.out.arg1 rfl
        have HRB := Lib.hid hRb
        clear hRb
        have HRA := Lib.hid hRa
        clear hRa
        go_wp2_with fail
        refine (holdside 0 0 (.inl ⟨rfl, rfl⟩) w.heap.size _ v (holE v d a) b0 off 2 c xa hgW hbW0 (by decide) (by decide) qa3 qb0 qb1 qb2 qb3 qb4 qb5 qb6 qb7 qb8 ka0 ka1 ka2 ka3 (fun w' hb => IH.out a xa w' (HRA.out.on hb) HSA.out)).mono ?_
        obtain ⟨ra, hra⟩ : ∃ ra, holE v d a = ra := ⟨_, rfl⟩
        rw [hra]
        rintro r w1 ⟨rfl, hb1⟩
        have HNA := Lib.hid hra
        clear hra
        (have hzhb1 := hb1.size; replace qa0 := (hb1.cell (p := ⟨_, _, none⟩) (by (try dsimp only) <;> omega)).trans qa0; replace qa1 := (hb1.cell (p := ⟨_, _, none⟩) (by (try dsimp only) <;> omega)).trans qa1; replace qa2 := (hb1.cell (p := ⟨_, _, none⟩) (by (try dsimp only) <;> omega)).trans qa2; replace qa3 := (hb1.cell (p := ⟨_, _, none⟩) (by (try dsimp only) <;> omega)).trans qa3; replace qb0 := (hb1.cell (p := ⟨_, _, none⟩) (by (try dsimp only) <;> omega)).trans qb0; replace qb1 := (hb1.cell (p := ⟨_, _, none⟩) (by (try dsimp only) <;> omega)).trans qb1; replace qb2 := (hb1.cell (p := ⟨_, _, none⟩) (by (try dsimp only) <;> omega)).trans qb2; replace qb3 := (hb1.cell (p := ⟨_, _, none⟩) (by (try dsimp only) <;> omega)).trans qb3; replace qb4 := (hb1.cell (p := ⟨_, _, none⟩) (by (try dsimp only) <;> omega)).trans qb4; replace qb5 := (hb1.cell (p := ⟨_, _, none⟩) (by (try dsimp only) <;> omega)).trans qb5; replace qb6 := (hb1.cell (p := ⟨_, _, none⟩) (by (try dsimp only) <;> omega)).trans qb6; replace qb7 := (hb1.cell (p := ⟨_, _, none⟩) (by (try dsimp only) <;> omega)).trans qb7; replace qb8 := (hb1.cell (p := ⟨_, _, none⟩) (by (try dsimp only) <;> omega)).trans qb8; replace kb0 := (hb1.cell (p := ⟨_, _, none⟩) (by (try dsimp only) <;> omega)).trans kb0; replace kb1 := (hb1.cell (p := ⟨_, _, none⟩) (by (try dsimp only) <;> omega)).trans kb1; replace kb2 := (hb1.cell (p := ⟨_, _, none⟩) (by (try dsimp only) <;> omega)).trans kb2; replace kb3 := (hb1.cell (p := ⟨_, _, none⟩) (by (try dsimp only) <;> omega)).trans kb3; replace HRB := Lib.hid (HRB.out.on hb1); replace hbW := Below.trans hbW (Below.mono hb1 (by omega)))
        have hgW1 : w.heap.size + 1 < w1.heap.size := by omega
        have hbW1 : b0 < w1.heap.size := by omega
        cases ra
        · go_wp2_with fail
          refine (holdside 1 4 (.inr ⟨rfl, rfl⟩) w.heap.size _ v (holE v d b) b0 off 2 c xb hgW1 hbW1 (by decide) (by decide) qa3 qb0 qb1 qb2 qb3 qb4 qb5 qb6 qb7 qb8 kb0 kb1 kb2 kb3 (fun w' hb => IH.out b xb w' (HRB.out.on hb) HSB.out)).mono ?_
          obtain ⟨rb, hrb⟩ : ∃ rb, holE v d b = rb := ⟨_, rfl⟩
          rw [hrb]
          rintro r w2 ⟨rfl, hb2⟩
          have HNB := Lib.hid hrb
          clear hrb
          (have hzhb2 := hb2.size; replace qa0 := (hb2.cell (p := ⟨_, _, none⟩) (by (try dsimp only) <;> omega)).trans qa0; replace qa1 := (hb2.cell (p := ⟨_, _, none⟩) (by (try dsimp only) <;> omega)).trans qa1; replace qa2 := (hb2.cell (p := ⟨_, _, none⟩) (by (try dsimp only) <;> omega)).trans qa2; replace qa3 := (hb2.cell (p := ⟨_, _, none⟩) (by (try dsimp only) <;> omega)).trans qa3; replace qb0 := (hb2.cell (p := ⟨_, _, none⟩) (by (try dsimp only) <;> omega)).trans qb0; replace qb1 := (hb2.cell (p := ⟨_, _, none⟩) (by (try dsimp only) <;> omega)).trans qb1; replace qb2 := (hb2.cell (p := ⟨_, _, none⟩) (by (try dsimp only) <;> omega)).trans qb2; replace qb3 := (hb2.cell (p := ⟨_, _, none⟩) (by (try dsimp only) <;> omega)).trans qb3; replace qb4 := (hb2.cell (p := ⟨_, _, none⟩) (by (try dsimp only) <;> omega)).trans qb4; replace qb5 := (hb2.cell (p := ⟨_, _, none⟩) (by (try dsimp only) <;> omega)).trans qb5; replace qb6 := (hb2.cell (p := ⟨_, _, none⟩) (by (try dsimp only) <;> omega)).trans qb6; replace qb7 := (hb2.cell (p := ⟨_, _, none⟩) (by (try dsimp only) <;> omega)).trans qb7; replace qb8 := (hb2.cell (p := ⟨_, _, none⟩) (by (try dsimp only) <;> omega)).trans qb8; replace hbW := Below.trans hbW (Below.mono hb2 (by omega)))
          have HF := Lib.hid (show holE v (d + 1) (.mk 6 num text [a, b]) = rb by rw [HE.out, HNA.out, HNB.out]; rfl)
          go_wp2_with fail
          go_ret
          exact ⟨ret_bool HF.out.symm, hbW⟩
        · have HF := Lib.hid (show holE v (d + 1) (.mk 6 num text [a, b]) = true by rw [HE.out, HNA.out]; rfl)
          go_wp2_with fail
          go_ret
          exact ⟨ret_bool HF.out.symm, hbW⟩
    · have hop : op = 7 ∨ op = 8 ∨ op = 9 ∨ op = 10 := by omega
      rcases hop with rfl | rfl | rfl | rfl
      · have HE := Lib.hid (holE_cmp (v := v) (d := d) (num := num) (text := text) (a := a) (b := b) h7)
        have HC := Lib.hid hc
        clear hs hc h7 h10
        obtain ⟨b0, off, ya, hA0, hb0, hn0, hRa, -⟩ := HR.out.arg0
        dsimp only at hA0 hn0
        subst hA0
        have hn2 : n = 2 := hn0
        subst hn2
        clear hn0 hRa
        go_enter Try.func25, Try.ntmps25
        go_upto_region 1 with (fail)
        (obtain ⟨W, hWW, hbW, hzW, f1W, f2W, qfa, qfb⟩ := box2 w #[.int .i64 7, .int .i64 num, .string text, .slice (some ⟨b0, off, none⟩) 2 c] 45 #[.int .i64 v.kind, .int .i64 v.units, .int .i64 v.weekday, .int .i64 v.minute, .int .i64 v.total, .int .i64 v.spent, .string v.zone, .string v.band, .bool v.family] 29; rw [← hWW]; have qa0 : W.cell? ⟨w.heap.size, 0, none⟩ = some (.int .i64 7) := f1W 0 _ rfl; have qa1 : W.cell? ⟨w.heap.size, 1, none⟩ = some (.int .i64 num) := f1W 1 _ rfl; have qa2 : W.cell? ⟨w.heap.size, 2, none⟩ = some (.string text) := f1W 2 _ rfl; have qa3 : W.cell? ⟨w.heap.size, 3, none⟩ = some (.slice (some ⟨b0, off, none⟩) 2 c) := f1W 3 _ rfl; have qb0 : W.cell? ⟨w.heap.size + 1, 0, none⟩ = some (.int .i64 v.kind) := f2W 0 _ rfl; have qb1 : W.cell? ⟨w.heap.size + 1, 1, none⟩ = some (.int .i64 v.units) := f2W 1 _ rfl; have qb2 : W.cell? ⟨w.heap.size + 1, 2, none⟩ = some (.int .i64 v.weekday) := f2W 2 _ rfl; have qb3 : W.cell? ⟨w.heap.size + 1, 3, none⟩ = some (.int .i64 v.minute) := f2W 3 _ rfl; have qb4 : W.cell? ⟨w.heap.size + 1, 4, none⟩ = some (.int .i64 v.total) := f2W 4 _ rfl; have qb5 : W.cell? ⟨w.heap.size + 1, 5, none⟩ = some (.int .i64 v.spent) := f2W 5 _ rfl; have qb6 : W.cell? ⟨w.heap.size + 1, 6, none⟩ = some (.string v.zone) := f2W 6 _ rfl; have qb7 : W.cell? ⟨w.heap.size + 1, 7, none⟩ = some (.string v.band) := f2W 7 _ rfl; have qb8 : W.cell? ⟨w.heap.size + 1, 8, none⟩ = some (.bool v.family) := f2W 8 _ rfl; clear hWW f1W f2W)
        have HRW := Lib.hid (HR.out.on hbW)
        have hbW0 : b0 < W.heap.size := by omega
        have hgW : w.heap.size + 1 < W.heap.size := hzW
        have hgW0 : w.heap.size < W.heap.size := by omega
        obtain ⟨_, _, xa, hAa, -, -, hRa, ka0, ka1, ka2, ka3⟩ := HRW.out.arg0
        dsimp only at hAa
        injection hAa with hAa
        injection hAa with hAa1 hAa2
        subst hAa1 hAa2
        have HRA := Lib.hid hRa
        clear hRa
        go_wp2_with fail
        refine (compare_any v d (by omega) 7 num text a b ⟨7, num, text, some ⟨b0, off, none⟩, 2, c⟩ _ HRW.out HC.out).mono ?_
        obtain ⟨ro, hro⟩ : ∃ ro, ordE v d a b = ro := ⟨_, rfl⟩
        rw [hro]
        rintro r w1 ⟨rfl, hb1⟩
        have HNO := Lib.hid hro
        clear hro
        (have hzhb1 := hb1.size; replace qa0 := (hb1.cell (p := ⟨_, _, none⟩) (by (try dsimp only) <;> omega)).trans qa0; replace qa1 := (hb1.cell (p := ⟨_, _, none⟩) (by (try dsimp only) <;> omega)).trans qa1; replace qa2 := (hb1.cell (p := ⟨_, _, none⟩) (by (try dsimp only) <;> omega)).trans qa2; replace qa3 := (hb1.cell (p := ⟨_, _, none⟩) (by (try dsimp only) <;> omega)).trans qa3; replace qb0 := (hb1.cell (p := ⟨_, _, none⟩) (by (try dsimp only) <;> omega)).trans qb0; replace qb1 := (hb1.cell (p := ⟨_, _, none⟩) (by (try dsimp only) <;> omega)).trans qb1; replace qb2 := (hb1.cell (p := ⟨_, _, none⟩) (by (try dsimp only) <;> omega)).trans qb2; replace qb3 := (hb1.cell (p := ⟨_, _, none⟩) (by (try dsimp only) <;> omega)).trans qb3; replace qb4 := (hb1.cell (p := ⟨_, _, none⟩) (by (try dsimp only) <;> omega)).trans qb4; replace qb5 := (hb1.cell (p := ⟨_, _, none⟩) (by (try dsimp only) <;> omega)).trans qb5; replace qb6 := (hb1.cell (p := ⟨_, _, none⟩) (by (try dsimp only) <;> omega)).trans qb6; replace qb7 := (hb1.cell (p := ⟨_, _, none⟩) (by (try dsimp only) <;> omega)).trans qb7; replace qb8 := (hb1.cell (p := ⟨_, _, none⟩) (by (try dsimp only) <;> omega)).trans qb8; replace hbW := Below.trans hbW (Below.mono hb1 (by omega)))
        rcases ro with _ | z
        · have HF := Lib.hid (show holE v (d + 1) (.mk 7 num text [a, b]) = false by rw [HE.out]; unfold cmpE; rw [HNO.out])
          unfold optV
          go_wp2_with fail
          go_ret
          exact ⟨ret_bool HF.out.symm, hbW⟩
        · have HF := Lib.hid (show holE v (d + 1) (.mk 7 num text [a, b]) = test 7 z by rw [HE.out]; unfold cmpE; rw [HNO.out])
          unfold optV
          go_wp2_with fail
          go_ret
          exact ⟨ret_bool (by rw [HF.out]; first | rfl | (unfold test; simp; done) | (unfold test; simp [bne]; rfl)), hbW⟩
      · have HE := Lib.hid (holE_cmp (v := v) (d := d) (num := num) (text := text) (a := a) (b := b) h7)
        have HC := Lib.hid hc
        clear hs hc h7 h10
        obtain ⟨b0, off, ya, hA0, hb0, hn0, hRa, -⟩ := HR.out.arg0
        dsimp only at hA0 hn0
        subst hA0
        have hn2 : n = 2 := hn0
        subst hn2
        clear hn0 hRa
        go_enter Try.func25, Try.ntmps25
        go_upto_region 1 with (fail)
        (obtain ⟨W, hWW, hbW, hzW, f1W, f2W, qfa, qfb⟩ := box2 w #[.int .i64 8, .int .i64 num, .string text, .slice (some ⟨b0, off, none⟩) 2 c] 45 #[.int .i64 v.kind, .int .i64 v.units, .int .i64 v.weekday, .int .i64 v.minute, .int .i64 v.total, .int .i64 v.spent, .string v.zone, .string v.band, .bool v.family] 29; rw [← hWW]; have qa0 : W.cell? ⟨w.heap.size, 0, none⟩ = some (.int .i64 8) := f1W 0 _ rfl; have qa1 : W.cell? ⟨w.heap.size, 1, none⟩ = some (.int .i64 num) := f1W 1 _ rfl; have qa2 : W.cell? ⟨w.heap.size, 2, none⟩ = some (.string text) := f1W 2 _ rfl; have qa3 : W.cell? ⟨w.heap.size, 3, none⟩ = some (.slice (some ⟨b0, off, none⟩) 2 c) := f1W 3 _ rfl; have qb0 : W.cell? ⟨w.heap.size + 1, 0, none⟩ = some (.int .i64 v.kind) := f2W 0 _ rfl; have qb1 : W.cell? ⟨w.heap.size + 1, 1, none⟩ = some (.int .i64 v.units) := f2W 1 _ rfl; have qb2 : W.cell? ⟨w.heap.size + 1, 2, none⟩ = some (.int .i64 v.weekday) := f2W 2 _ rfl; have qb3 : W.cell? ⟨w.heap.size + 1, 3, none⟩ = some (.int .i64 v.minute) := f2W 3 _ rfl; have qb4 : W.cell? ⟨w.heap.size + 1, 4, none⟩ = some (.int .i64 v.total) := f2W 4 _ rfl; have qb5 : W.cell? ⟨w.heap.size + 1, 5, none⟩ = some (.int .i64 v.spent) := f2W 5 _ rfl; have qb6 : W.cell? ⟨w.heap.size + 1, 6, none⟩ = some (.string v.zone) := f2W 6 _ rfl; have qb7 : W.cell? ⟨w.heap.size + 1, 7, none⟩ = some (.string v.band) := f2W 7 _ rfl; have qb8 : W.cell? ⟨w.heap.size + 1, 8, none⟩ = some (.bool v.family) := f2W 8 _ rfl; clear hWW f1W f2W)
        have HRW := Lib.hid (HR.out.on hbW)
        have hbW0 : b0 < W.heap.size := by omega
        have hgW : w.heap.size + 1 < W.heap.size := hzW
        have hgW0 : w.heap.size < W.heap.size := by omega
        obtain ⟨_, _, xa, hAa, -, -, hRa, ka0, ka1, ka2, ka3⟩ := HRW.out.arg0
        dsimp only at hAa
        injection hAa with hAa
        injection hAa with hAa1 hAa2
        subst hAa1 hAa2
        have HRA := Lib.hid hRa
        clear hRa
        go_wp2_with fail
        refine (compare_any v d (by omega) 8 num text a b ⟨8, num, text, some ⟨b0, off, none⟩, 2, c⟩ _ HRW.out HC.out).mono ?_
        obtain ⟨ro, hro⟩ : ∃ ro, ordE v d a b = ro := ⟨_, rfl⟩
        rw [hro]
        rintro r w1 ⟨rfl, hb1⟩
        have HNO := Lib.hid hro
        clear hro
        (have hzhb1 := hb1.size; replace qa0 := (hb1.cell (p := ⟨_, _, none⟩) (by (try dsimp only) <;> omega)).trans qa0; replace qa1 := (hb1.cell (p := ⟨_, _, none⟩) (by (try dsimp only) <;> omega)).trans qa1; replace qa2 := (hb1.cell (p := ⟨_, _, none⟩) (by (try dsimp only) <;> omega)).trans qa2; replace qa3 := (hb1.cell (p := ⟨_, _, none⟩) (by (try dsimp only) <;> omega)).trans qa3; replace qb0 := (hb1.cell (p := ⟨_, _, none⟩) (by (try dsimp only) <;> omega)).trans qb0; replace qb1 := (hb1.cell (p := ⟨_, _, none⟩) (by (try dsimp only) <;> omega)).trans qb1; replace qb2 := (hb1.cell (p := ⟨_, _, none⟩) (by (try dsimp only) <;> omega)).trans qb2; replace qb3 := (hb1.cell (p := ⟨_, _, none⟩) (by (try dsimp only) <;> omega)).trans qb3; replace qb4 := (hb1.cell (p := ⟨_, _, none⟩) (by (try dsimp only) <;> omega)).trans qb4; replace qb5 := (hb1.cell (p := ⟨_, _, none⟩) (by (try dsimp only) <;> omega)).trans qb5; replace qb6 := (hb1.cell (p := ⟨_, _, none⟩) (by (try dsimp only) <;> omega)).trans qb6; replace qb7 := (hb1.cell (p := ⟨_, _, none⟩) (by (try dsimp only) <;> omega)).trans qb7; replace qb8 := (hb1.cell (p := ⟨_, _, none⟩) (by (try dsimp only) <;> omega)).trans qb8; replace hbW := Below.trans hbW (Below.mono hb1 (by omega)))
        rcases ro with _ | z
        · have HF := Lib.hid (show holE v (d + 1) (.mk 8 num text [a, b]) = false by rw [HE.out]; unfold cmpE; rw [HNO.out])
          unfold optV
          go_wp2_with fail
          go_ret
          exact ⟨ret_bool HF.out.symm, hbW⟩
        · have HF := Lib.hid (show holE v (d + 1) (.mk 8 num text [a, b]) = test 8 z by rw [HE.out]; unfold cmpE; rw [HNO.out])
          unfold optV
          go_wp2_with fail
          go_ret
          exact ⟨ret_bool (by rw [HF.out]; first | rfl | (unfold test; simp; done) | (unfold test; simp [bne]; rfl)), hbW⟩
      · have HE := Lib.hid (holE_cmp (v := v) (d := d) (num := num) (text := text) (a := a) (b := b) h7)
        have HC := Lib.hid hc
        clear hs hc h7 h10
        obtain ⟨b0, off, ya, hA0, hb0, hn0, hRa, -⟩ := HR.out.arg0
        dsimp only at hA0 hn0
        subst hA0
        have hn2 : n = 2 := hn0
        subst hn2
        clear hn0 hRa
        go_enter Try.func25, Try.ntmps25
        go_upto_region 1 with (fail)
        (obtain ⟨W, hWW, hbW, hzW, f1W, f2W, qfa, qfb⟩ := box2 w #[.int .i64 9, .int .i64 num, .string text, .slice (some ⟨b0, off, none⟩) 2 c] 45 #[.int .i64 v.kind, .int .i64 v.units, .int .i64 v.weekday, .int .i64 v.minute, .int .i64 v.total, .int .i64 v.spent, .string v.zone, .string v.band, .bool v.family] 29; rw [← hWW]; have qa0 : W.cell? ⟨w.heap.size, 0, none⟩ = some (.int .i64 9) := f1W 0 _ rfl; have qa1 : W.cell? ⟨w.heap.size, 1, none⟩ = some (.int .i64 num) := f1W 1 _ rfl; have qa2 : W.cell? ⟨w.heap.size, 2, none⟩ = some (.string text) := f1W 2 _ rfl; have qa3 : W.cell? ⟨w.heap.size, 3, none⟩ = some (.slice (some ⟨b0, off, none⟩) 2 c) := f1W 3 _ rfl; have qb0 : W.cell? ⟨w.heap.size + 1, 0, none⟩ = some (.int .i64 v.kind) := f2W 0 _ rfl; have qb1 : W.cell? ⟨w.heap.size + 1, 1, none⟩ = some (.int .i64 v.units) := f2W 1 _ rfl; have qb2 : W.cell? ⟨w.heap.size + 1, 2, none⟩ = some (.int .i64 v.weekday) := f2W 2 _ rfl; have qb3 : W.cell? ⟨w.heap.size + 1, 3, none⟩ = some (.int .i64 v.minute) := f2W 3 _ rfl; have qb4 : W.cell? ⟨w.heap.size + 1, 4, none⟩ = some (.int .i64 v.total) := f2W 4 _ rfl; have qb5 : W.cell? ⟨w.heap.size + 1, 5, none⟩ = some (.int .i64 v.spent) := f2W 5 _ rfl; have qb6 : W.cell? ⟨w.heap.size + 1, 6, none⟩ = some (.string v.zone) := f2W 6 _ rfl; have qb7 : W.cell? ⟨w.heap.size + 1, 7, none⟩ = some (.string v.band) := f2W 7 _ rfl; have qb8 : W.cell? ⟨w.heap.size + 1, 8, none⟩ = some (.bool v.family) := f2W 8 _ rfl; clear hWW f1W f2W)
        have HRW := Lib.hid (HR.out.on hbW)
        have hbW0 : b0 < W.heap.size := by omega
        have hgW : w.heap.size + 1 < W.heap.size := hzW
        have hgW0 : w.heap.size < W.heap.size := by omega
        obtain ⟨_, _, xa, hAa, -, -, hRa, ka0, ka1, ka2, ka3⟩ := HRW.out.arg0
        dsimp only at hAa
        injection hAa with hAa
        injection hAa with hAa1 hAa2
        subst hAa1 hAa2
        have HRA := Lib.hid hRa
        clear hRa
        go_wp2_with fail
        refine (compare_any v d (by omega) 9 num text a b ⟨9, num, text, some ⟨b0, off, none⟩, 2, c⟩ _ HRW.out HC.out).mono ?_
        obtain ⟨ro, hro⟩ : ∃ ro, ordE v d a b = ro := ⟨_, rfl⟩
        rw [hro]
        rintro r w1 ⟨rfl, hb1⟩
        have HNO := Lib.hid hro
        clear hro
        (have hzhb1 := hb1.size; replace qa0 := (hb1.cell (p := ⟨_, _, none⟩) (by (try dsimp only) <;> omega)).trans qa0; replace qa1 := (hb1.cell (p := ⟨_, _, none⟩) (by (try dsimp only) <;> omega)).trans qa1; replace qa2 := (hb1.cell (p := ⟨_, _, none⟩) (by (try dsimp only) <;> omega)).trans qa2; replace qa3 := (hb1.cell (p := ⟨_, _, none⟩) (by (try dsimp only) <;> omega)).trans qa3; replace qb0 := (hb1.cell (p := ⟨_, _, none⟩) (by (try dsimp only) <;> omega)).trans qb0; replace qb1 := (hb1.cell (p := ⟨_, _, none⟩) (by (try dsimp only) <;> omega)).trans qb1; replace qb2 := (hb1.cell (p := ⟨_, _, none⟩) (by (try dsimp only) <;> omega)).trans qb2; replace qb3 := (hb1.cell (p := ⟨_, _, none⟩) (by (try dsimp only) <;> omega)).trans qb3; replace qb4 := (hb1.cell (p := ⟨_, _, none⟩) (by (try dsimp only) <;> omega)).trans qb4; replace qb5 := (hb1.cell (p := ⟨_, _, none⟩) (by (try dsimp only) <;> omega)).trans qb5; replace qb6 := (hb1.cell (p := ⟨_, _, none⟩) (by (try dsimp only) <;> omega)).trans qb6; replace qb7 := (hb1.cell (p := ⟨_, _, none⟩) (by (try dsimp only) <;> omega)).trans qb7; replace qb8 := (hb1.cell (p := ⟨_, _, none⟩) (by (try dsimp only) <;> omega)).trans qb8; replace hbW := Below.trans hbW (Below.mono hb1 (by omega)))
        rcases ro with _ | z
        · have HF := Lib.hid (show holE v (d + 1) (.mk 9 num text [a, b]) = false by rw [HE.out]; unfold cmpE; rw [HNO.out])
          unfold optV
          go_wp2_with fail
          go_ret
          exact ⟨ret_bool HF.out.symm, hbW⟩
        · have HF := Lib.hid (show holE v (d + 1) (.mk 9 num text [a, b]) = test 9 z by rw [HE.out]; unfold cmpE; rw [HNO.out])
          unfold optV
          go_wp2_with fail
          go_ret
          exact ⟨ret_bool (by rw [HF.out]; first | rfl | (unfold test; simp; done) | (unfold test; simp [bne]; rfl)), hbW⟩
      · have HE := Lib.hid (holE_cmp (v := v) (d := d) (num := num) (text := text) (a := a) (b := b) h7)
        have HC := Lib.hid hc
        clear hs hc h7 h10
        obtain ⟨b0, off, ya, hA0, hb0, hn0, hRa, -⟩ := HR.out.arg0
        dsimp only at hA0 hn0
        subst hA0
        have hn2 : n = 2 := hn0
        subst hn2
        clear hn0 hRa
        go_enter Try.func25, Try.ntmps25
        go_upto_region 1 with (fail)
        (obtain ⟨W, hWW, hbW, hzW, f1W, f2W, qfa, qfb⟩ := box2 w #[.int .i64 10, .int .i64 num, .string text, .slice (some ⟨b0, off, none⟩) 2 c] 45 #[.int .i64 v.kind, .int .i64 v.units, .int .i64 v.weekday, .int .i64 v.minute, .int .i64 v.total, .int .i64 v.spent, .string v.zone, .string v.band, .bool v.family] 29; rw [← hWW]; have qa0 : W.cell? ⟨w.heap.size, 0, none⟩ = some (.int .i64 10) := f1W 0 _ rfl; have qa1 : W.cell? ⟨w.heap.size, 1, none⟩ = some (.int .i64 num) := f1W 1 _ rfl; have qa2 : W.cell? ⟨w.heap.size, 2, none⟩ = some (.string text) := f1W 2 _ rfl; have qa3 : W.cell? ⟨w.heap.size, 3, none⟩ = some (.slice (some ⟨b0, off, none⟩) 2 c) := f1W 3 _ rfl; have qb0 : W.cell? ⟨w.heap.size + 1, 0, none⟩ = some (.int .i64 v.kind) := f2W 0 _ rfl; have qb1 : W.cell? ⟨w.heap.size + 1, 1, none⟩ = some (.int .i64 v.units) := f2W 1 _ rfl; have qb2 : W.cell? ⟨w.heap.size + 1, 2, none⟩ = some (.int .i64 v.weekday) := f2W 2 _ rfl; have qb3 : W.cell? ⟨w.heap.size + 1, 3, none⟩ = some (.int .i64 v.minute) := f2W 3 _ rfl; have qb4 : W.cell? ⟨w.heap.size + 1, 4, none⟩ = some (.int .i64 v.total) := f2W 4 _ rfl; have qb5 : W.cell? ⟨w.heap.size + 1, 5, none⟩ = some (.int .i64 v.spent) := f2W 5 _ rfl; have qb6 : W.cell? ⟨w.heap.size + 1, 6, none⟩ = some (.string v.zone) := f2W 6 _ rfl; have qb7 : W.cell? ⟨w.heap.size + 1, 7, none⟩ = some (.string v.band) := f2W 7 _ rfl; have qb8 : W.cell? ⟨w.heap.size + 1, 8, none⟩ = some (.bool v.family) := f2W 8 _ rfl; clear hWW f1W f2W)
        have HRW := Lib.hid (HR.out.on hbW)
        have hbW0 : b0 < W.heap.size := by omega
        have hgW : w.heap.size + 1 < W.heap.size := hzW
        have hgW0 : w.heap.size < W.heap.size := by omega
        obtain ⟨_, _, xa, hAa, -, -, hRa, ka0, ka1, ka2, ka3⟩ := HRW.out.arg0
        dsimp only at hAa
        injection hAa with hAa
        injection hAa with hAa1 hAa2
        subst hAa1 hAa2
        have HRA := Lib.hid hRa
        clear hRa
        go_wp2_with fail
        refine (compare_any v d (by omega) 10 num text a b ⟨10, num, text, some ⟨b0, off, none⟩, 2, c⟩ _ HRW.out HC.out).mono ?_
        obtain ⟨ro, hro⟩ : ∃ ro, ordE v d a b = ro := ⟨_, rfl⟩
        rw [hro]
        rintro r w1 ⟨rfl, hb1⟩
        have HNO := Lib.hid hro
        clear hro
        (have hzhb1 := hb1.size; replace qa0 := (hb1.cell (p := ⟨_, _, none⟩) (by (try dsimp only) <;> omega)).trans qa0; replace qa1 := (hb1.cell (p := ⟨_, _, none⟩) (by (try dsimp only) <;> omega)).trans qa1; replace qa2 := (hb1.cell (p := ⟨_, _, none⟩) (by (try dsimp only) <;> omega)).trans qa2; replace qa3 := (hb1.cell (p := ⟨_, _, none⟩) (by (try dsimp only) <;> omega)).trans qa3; replace qb0 := (hb1.cell (p := ⟨_, _, none⟩) (by (try dsimp only) <;> omega)).trans qb0; replace qb1 := (hb1.cell (p := ⟨_, _, none⟩) (by (try dsimp only) <;> omega)).trans qb1; replace qb2 := (hb1.cell (p := ⟨_, _, none⟩) (by (try dsimp only) <;> omega)).trans qb2; replace qb3 := (hb1.cell (p := ⟨_, _, none⟩) (by (try dsimp only) <;> omega)).trans qb3; replace qb4 := (hb1.cell (p := ⟨_, _, none⟩) (by (try dsimp only) <;> omega)).trans qb4; replace qb5 := (hb1.cell (p := ⟨_, _, none⟩) (by (try dsimp only) <;> omega)).trans qb5; replace qb6 := (hb1.cell (p := ⟨_, _, none⟩) (by (try dsimp only) <;> omega)).trans qb6; replace qb7 := (hb1.cell (p := ⟨_, _, none⟩) (by (try dsimp only) <;> omega)).trans qb7; replace qb8 := (hb1.cell (p := ⟨_, _, none⟩) (by (try dsimp only) <;> omega)).trans qb8; replace hbW := Below.trans hbW (Below.mono hb1 (by omega)))
        rcases ro with _ | z
        · have HF := Lib.hid (show holE v (d + 1) (.mk 10 num text [a, b]) = false by rw [HE.out]; unfold cmpE; rw [HNO.out])
          unfold optV
          go_wp2_with fail
          go_ret
          exact ⟨ret_bool HF.out.symm, hbW⟩
        · have HF := Lib.hid (show holE v (d + 1) (.mk 10 num text [a, b]) = test 10 z by rw [HE.out]; unfold cmpE; rw [HNO.out])
          unfold optV
          go_wp2_with fail
          go_ret
          exact ⟨ret_bool (by rw [HF.out]; first | rfl | (unfold test; simp; done) | (unfold test; simp [bne]; rfl)), hbW⟩

end Xp
end Go.Proofs.Ytdjlfdbdhacmjaa
