/-
  Checker: how deep an expression may be. No condition.
-/
import Derived.Test.YtcifbjgomflanaaCkE
import Derived.BigQuiet
import Derived.StillTailTactics
import Derived.Lib.Overlaps
import Derived.Deep.DeepCutAuto
set_option maxRecDepth 100000
set_option linter.unusedVariables false
set_option linter.unusedSimpArgs false
namespace Go.Proofs.Ytcifbjgomflanaa
open Go.RowKit

namespace Ck
open Xp
/-- a tree under x that does not hang on the block g -/
def RpG (g : Nat) (w : World) (e : Ex) (x : It) : Prop := ∀ w', w.heap.size ≤ w'.heap.size → (∀ b o, b < w.heap.size → b ≠ g → w'.cell? ⟨b, o, none⟩ = w.cell? ⟨b, o, none⟩) → Rp w' e x
theorem RpG.rp {g : Nat} {w : World} {e : Ex} {x : It} (h : RpG g w e x) : Rp w e x := h w (Nat.le_refl _) fun _ _ _ _ => rfl
theorem RpG.on {g : Nat} {w w1 : World} {e : Ex} {x : It} (h : RpG g w e x) (hs : w.heap.size ≤ w1.heap.size) (hk : ∀ b o, b < w.heap.size → b ≠ g → w1.cell? ⟨b, o, none⟩ = w.cell? ⟨b, o, none⟩) : RpG g w1 e x :=
  fun w' hs' hk' => h w' (by omega) fun b o hb hne => (hk' b o (by omega) hne).trans (hk b o hb hne)
theorem RpG.below {g : Nat} {w w1 : World} {e : Ex} {x : It} (h : RpG g w e x) (hb : Below w.heap.size w w1) : RpG g w1 e x := h.on hb.size fun b o hl _ => hb.cell (p := ⟨b, o, none⟩) hl
theorem RpG.leaf (g : Nat) (w : World) (op num : Int) (t : ByteArray) : RpG g w (Lf op num t) ⟨op, num, t, none, 0, 0⟩ := fun w' _ _ => Rp.leaf w' _ _ _
theorem sl_keepG {α : Type} [Flat α] {g : Nat} {w w' : World} {A : Option Addr} {n c : Nat} {xs : List α} (h : Sl w A n c xs) (hne : ∀ a, A = some a → a.block ≠ g) (hs : w.heap.size ≤ w'.heap.size) (hk : ∀ b o, b < w.heap.size → b ≠ g → w'.cell? ⟨b, o, none⟩ = w.cell? ⟨b, o, none⟩) : Sl w' A n c xs :=
  ⟨h.1, h.2.1, h.2.2.1, fun hn => by
    obtain ⟨b, off, e, hb, hc⟩ := h.2.2.2 hn
    exact ⟨b, off, e, by omega, fun i x hx j v hv => (hk _ _ hb (hne _ e)).trans (hc i x hx j v hv)⟩⟩
theorem RpG.one {g : Nat} {w W : World} {a : Ex} {x : It} (op num : Int) (text : ByteArray) {A : Option Addr} {c : Nat} (h : RpG g w a x) (hs : Sl W A 1 c [x]) (hne : ∀ ad, A = some ad → ad.block ≠ g) (hz : w.heap.size ≤ W.heap.size) (hk : ∀ b o, b < w.heap.size → b ≠ g → W.cell? ⟨b, o, none⟩ = w.cell? ⟨b, o, none⟩) : RpG g W (.mk op num text [a]) ⟨op, num, text, A, 1, c⟩ := by
  intro w' hs' hk'
  refine Rp.one (sl_keepG hs hne hs' hk') (fun hA => ?_) (h w' (by omega) fun b o hb hn => (hk' b o (by omega) hn).trans (hk b o hb hn))
  subst hA; exact absurd hs.none_.1 (by omega)
theorem RpG.two {g : Nat} {w W : World} {a b : Ex} {x y : It} (op num : Int) (text : ByteArray) {A : Option Addr} {c : Nat} (h : RpG g w a x) (h2 : RpG g w b y) (hs : Sl W A 2 c [x, y]) (hne : ∀ ad, A = some ad → ad.block ≠ g) (hz : w.heap.size ≤ W.heap.size) (hk : ∀ b o, b < w.heap.size → b ≠ g → W.cell? ⟨b, o, none⟩ = w.cell? ⟨b, o, none⟩) : RpG g W (.mk op num text [a, b]) ⟨op, num, text, A, 2, c⟩ := by
  intro w' hs' hk'
  refine Rp.two (sl_keepG hs hne hs' hk') (fun hA => ?_) (h w' (by omega) fun b o hb hn => (hk' b o (by omega) hn).trans (hk b o hb hn)) (h2 w' (by omega) fun b o hb hn => (hk' b o (by omega) hn).trans (hk b o hb hn))
  subst hA; exact absurd hs.none_.1 (by omega)
/-- four cells of a block written anew -/
theorem put4 {w : World} (g : Nat) {a b c d a' b' c' d' : Value} (h0 : w.cell? ⟨g, 0, none⟩ = some a) (h1 : w.cell? ⟨g, 1, none⟩ = some b) (h2 : w.cell? ⟨g, 2, none⟩ = some c) (h3 : w.cell? ⟨g, 3, none⟩ = some d) :
    ∃ W, W = (((w.setCell ⟨g, 0, none⟩ a').setCell ⟨g, 1, none⟩ b').setCell ⟨g, 2, none⟩ c').setCell ⟨g, 3, none⟩ d' ∧ W.cell? ⟨g, 0, none⟩ = some a' ∧ W.cell? ⟨g, 1, none⟩ = some b' ∧ W.cell? ⟨g, 2, none⟩ = some c' ∧ W.cell? ⟨g, 3, none⟩ = some d' ∧
      (∀ b o, b ≠ g → W.cell? ⟨b, o, none⟩ = w.cell? ⟨b, o, none⟩) ∧ (∀ b o, W.frozen? ⟨b, o, none⟩ = w.frozen? ⟨b, o, none⟩) ∧ (∀ B, B ≤ g → Below B w W) ∧ w.heap.size ≤ W.heap.size := by
  obtain ⟨W1, e1, n1, f1, r1, b1, s1⟩ := set1 g 0 (u := a') h0
  obtain ⟨W2, e2, n2, f2, r2, b2, s2⟩ := set1 g 1 (u := b') ((f1 g 1 (by omega)).trans h1)
  obtain ⟨W3, e3, n3, f3, r3, b3, s3⟩ := set1 g 2 (u := c') ((f2 g 2 (by omega)).trans ((f1 g 2 (by omega)).trans h2))
  obtain ⟨W4, e4, n4, f4, r4, b4, s4⟩ := set1 g 3 (u := d') ((f3 g 3 (by omega)).trans ((f2 g 3 (by omega)).trans ((f1 g 3 (by omega)).trans h3)))
  refine ⟨W4, by rw [e4, e3, e2, e1], ?_, ?_, ?_, n4, fun b o hb => ?_, fun b o => ?_, fun B hB => (((b1 B hB).trans (b2 B hB)).trans (b3 B hB)).trans (b4 B hB), by omega⟩
  · exact (f4 g 0 (by omega)).trans ((f3 g 0 (by omega)).trans ((f2 g 0 (by omega)).trans n1))
  · exact (f4 g 1 (by omega)).trans ((f3 g 1 (by omega)).trans n2)
  · exact (f4 g 2 (by omega)).trans n3
  · exact (f4 b o (.inl hb)).trans ((f3 b o (.inl hb)).trans ((f2 b o (.inl hb)).trans (f1 b o (.inl hb))))
  · exact (r4 b o).trans ((r3 b o).trans ((r2 b o).trans (r1 b o)))
/-- the trees of the law -/
def depF : Nat → Ex
  | 0 => Lf 3 0 nFamily
  | i + 1 => Nn (depF i)
def depN : Nat → Ex
  | 0 => Lf 1 7 ⟨#[]⟩
  | i + 1 => Tw 11 (depN i) (Lf 1 (i : Int) ⟨#[]⟩)
theorem srt_depF : ∀ (d i : Nat), srt d (depF i) = if i < d then (3, 0) else (0, 24)
  | 0, i => rfl
  | d + 1, 0 => rfl
  | d + 1, i + 1 => by
    show srt (d + 1) (Nn (depF i)) = _
    rw [srt_not, srt_depF d i]
    by_cases h : i < d
    · rw [if_pos h, if_pos (by omega)]; rfl
    · rw [if_neg h, if_neg (by omega)]; rfl
theorem srt_depN : ∀ (d i : Nat), i ≤ 1000 → srt d (depN i) = if i < d then (1, 0) else (0, 24)
  | 0, i, _ => rfl
  | d + 1, 0, _ => rfl
  | d + 1, i + 1, hi => by
    show srt (d + 1) (Tw 11 (depN i) (Lf 1 (i : Int) ⟨#[]⟩)) = _
    rw [srt_bin (by omega), srt_depN d i (by omega)]
    by_cases h : i < d
    · rw [if_pos h, if_pos (by omega)]
      obtain ⟨k, rfl⟩ : ∃ k, d = k + 1 := ⟨d - 1, by omega⟩
      have : srt (k + 1) (Lf 1 (i : Int) ⟨#[]⟩) = (1, 0) := by
        rw [srt_leaf (by omega)]; unfold leaf; rw [if_pos rfl, if_pos (by omega)]
      rw [this]; rfl
    · rw [if_neg h, if_neg (by omega)]; rfl
set_option maxHeartbeats 8000000 in
theorem CheckerDepth_false (m : Nat) (hm : m ≤ 40) (w : World) : Calls Try.prog 5 #[.int .u8 (m : Int), .bool false] w fun r w' => r = .returned (.bool true) ∧ Below w.heap.size w w' := by
  have h40 : ¬ (40 : Int) < (m : Int) := by omega
  have hwm : IntKind.i64.wrap (m : Int) = (m : Int) := IntWalk.i64_in _ (by omega)
  go_enter Try.func5, Try.ntmps5
  go_upto_region 4 with (fail)
  (obtain ⟨W, hWW, hbW, hzW, f1W, qfa⟩ := box1 w #[.int .i64 3, .int .i64 0, .string ⟨#[102, 97, 109, 105, 108, 121]⟩, .slice none 0 0] 24; rw [← hWW]; have qa0 : W.cell? ⟨w.heap.size, 0, none⟩ = some (.int .i64 3) := f1W 0 _ rfl; have qa1 : W.cell? ⟨w.heap.size, 1, none⟩ = some (.int .i64 0) := f1W 1 _ rfl; have qa2 : W.cell? ⟨w.heap.size, 2, none⟩ = some (.string ⟨#[102, 97, 109, 105, 108, 121]⟩) := f1W 2 _ rfl; have qa3 : W.cell? ⟨w.heap.size, 3, none⟩ = some (.slice none 0 0) := f1W 3 _ rfl; clear hWW f1W)
  have hT := hbW
  have hgW : w.heap.size < W.heap.size := hzW
  go_wp2_with fail
  go_loopw [8] (fun i wr => ∃ (k : Nat) (x : It), k ≤ m ∧ i = .int .i64 k ∧ Below w.heap.size w wr ∧ w.heap.size < wr.heap.size ∧ wr.cell? ⟨w.heap.size, 0, none⟩ = some (.int .i64 x.op) ∧ wr.cell? ⟨w.heap.size, 1, none⟩ = some (.int .i64 x.num) ∧ wr.cell? ⟨w.heap.size, 2, none⟩ = some (.string x.text) ∧ wr.cell? ⟨w.heap.size, 3, none⟩ = some (.slice x.A x.n x.c) ∧ (∀ j, wr.frozen? ⟨w.heap.size, j, none⟩ = false) ∧ RpG w.heap.size wr (depF k) x) (fun i _ => m - (intOf i).toNat)
  case atStart => exact ⟨0, ⟨3, 0, nFamily, none, 0, 0⟩, Nat.zero_le _, rfl, hT, hgW, qa0, qa1, qa2, qa3, qfa, RpG.leaf _ _ _ _ _⟩
  case round =>
    clear hT hbW qa0 qa1 qa2 qa3 qfa hgW hzW
    obtain ⟨k, x, hk, rfl, hbr, hgr, qa0, qa1, qa2, qa3, qfa, hG⟩ := hrel
    have HG := Lib.hid hG
    clear hG
    have hsr := hbr.size
    by_cases hlt : k < m
    · go_upto_region 12 with (fail)
      obtain ⟨V, hWV, hbV, hzV, f1V, f2V, -, -⟩ := box2 wr #[.int .i64 x.op, .int .i64 x.num, .string x.text, .slice x.A x.n x.c] 24 #[.int .i64 4, .int .i64 0, .string ⟨#[]⟩, .slice (some ⟨wr.heap.size, 0, none⟩) 1 1] 24
      rw [← hWV]
      have mb0 : V.cell? ⟨wr.heap.size + 1, 0, none⟩ = some (.int .i64 4) := f2V 0 _ rfl
      have mb1 : V.cell? ⟨wr.heap.size + 1, 1, none⟩ = some (.int .i64 0) := f2V 1 _ rfl
      have mb2 : V.cell? ⟨wr.heap.size + 1, 2, none⟩ = some (.string ⟨#[]⟩) := f2V 2 _ rfl
      have mb3 : V.cell? ⟨wr.heap.size + 1, 3, none⟩ = some (.slice (some ⟨wr.heap.size, 0, none⟩) 1 1) := f2V 3 _ rfl
      have hsl : Sl V (some ⟨wr.heap.size, 0, none⟩) 1 1 [x] := ⟨rfl, Nat.le_refl _, by unfold maxLen; decide, fun _ => ⟨wr.heap.size, 0, rfl, by omega, fun i y hi j v hv => by
        cases i with
        | zero => cases hi; simpa using f1V j v hv
        | succ i => simp at hi⟩⟩
      have HG2 := Lib.hid (RpG.one 4 0 ⟨#[]⟩ HG.out hsl (fun ad h => by cases h; dsimp only; omega) hbV.size fun b o hb _ => hbV.cell (p := ⟨b, o, none⟩) hb)
      (have hzhbV := hbV.size; replace qa0 := (hbV.cell (p := ⟨_, _, none⟩) (by (try dsimp only) <;> omega)).trans qa0; replace qa1 := (hbV.cell (p := ⟨_, _, none⟩) (by (try dsimp only) <;> omega)).trans qa1; replace qa2 := (hbV.cell (p := ⟨_, _, none⟩) (by (try dsimp only) <;> omega)).trans qa2; replace qa3 := (hbV.cell (p := ⟨_, _, none⟩) (by (try dsimp only) <;> omega)).trans qa3; replace qfa := fun j => (hbV.frozen (p := ⟨_, j, none⟩) (by (try dsimp only) <;> omega)).trans (qfa j); replace hbr := Below.trans hbr (Below.mono hbV (by omega)))
      clear f1V f2V hWV HG hsl
      have hgV : w.heap.size < V.heap.size := by omega
      have hgV1 : wr.heap.size + 1 < V.heap.size := hzV
      go_upto_region 10 with (fail)
      obtain ⟨V2, hS, n0, n1, n2, n3, hfar, hfr, hbl, hsz⟩ := put4 w.heap.size (a' := .int .i64 4) (b' := .int .i64 0) (c' := .string ⟨#[]⟩) (d' := .slice (some ⟨wr.heap.size, 0, none⟩) 1 1) qa0 qa1 qa2 qa3
      rw [← hS]
      clear hS
      go_wp2_with fail
      go_roundw
      case rel => exact ⟨k + 1, ⟨4, 0, ⟨#[]⟩, some ⟨wr.heap.size, 0, none⟩, 1, 1⟩, by omega, by go_num, hbr.trans (hbl _ (Nat.le_refl _)), by omega, n0, n1, n2, n3, fun j => (hfr _ j).trans (qfa j), HG2.out.on hsz fun b o _ hne => hfar b o hne⟩
      case measure => simp [intOf]; omega
    · obtain rfl : k = m := by omega
      have hkn : ¬ ((k : Int) < (k : Int)) := by omega
      have HP := Lib.hid HG.out.rp
      by_cases h16 : k < 16
      · have hE := srt_depF 16 k
        rw [if_pos h16] at hE
        have HE := Lib.hid hE
        clear hE
        have h16' : ¬ (16 : Int) ≤ (k : Int) := by omega
        go_wp2_with fail
        refine (expr_s _ x _ 3 0 HE.out HP.out).mono ?_
        rintro r w3 ⟨rfl, hb3⟩
        replace hbr := hbr.trans (hb3.mono (by omega))
        have hz3 := hbr.size
        go_wp2_with fail
        refine (awake_any _).mono ?_
        rintro r w6 ⟨rfl, hb6⟩
        have hbE := hbr.trans (hb6.mono (by omega))
        go_wp2_with fail
        go_ret
        exact ⟨rfl, hbE⟩
      · have hE := srt_depF 16 k
        rw [if_neg h16] at hE
        have HE := Lib.hid hE
        clear hE
        have h16' : (16 : Int) ≤ (k : Int) := by omega
        go_wp2_with fail
        refine (expr_s _ x _ 0 24 HE.out HP.out).mono ?_
        rintro r w3 ⟨rfl, hb3⟩
        replace hbr := hbr.trans (hb3.mono (by omega))
        have hz3 := hbr.size
        go_wp2_with fail
        refine (awake_any _).mono ?_
        rintro r w6 ⟨rfl, hb6⟩
        have hbE := hbr.trans (hb6.mono (by omega))
        go_wp2_with fail
        go_ret
        exact ⟨rfl, hbE⟩
end Ck
end Go.Proofs.Ytcifbjgomflanaa
