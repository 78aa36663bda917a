/-
  Discounts: law Parts. No condition.
-/
import Derived.Test.YtdjlfdbdhacmjaaDcK
import Derived.Test.YtdjlfdbdhacmjaaDcJ
import Derived.Test.YtdjlfdbdhacmjaaMixK
import Derived.BigQuiet
import Derived.StillTailTactics
import Derived.Lib.Overlaps
import Derived.Deep.DeepCutAuto
import Derived.Deep.RegionWith
import Derived.Laws.Rows
set_option maxRecDepth 100000
set_option linter.unusedVariables false
set_option linter.unusedSimpArgs false
namespace Go.Proofs.Ytdjlfdbdhacmjaa
open Go.RowKit

namespace Dc
open Xp
theorem wpl_appendW {α : Type} [Flat α] {P : Program} (w : World) {ops : Array Oper} {rest : List Oper} {o : Oper} {a : Act} {Q : Exit → Act → World → Prop} (hw : Region.wanted o (yielded ops a.tmps) = true) (s x : Operand) (t : TypeId)
    (ho : o.op = .call { callee := .builtin .append, args := #[s, x], argTypes := #[t, t] })
    (base : Nat) (e : TypeId) (z : Value) (bytes : Nat) (ht : P.underlying t = some (.slice e)) (hi : (P.info? e).map (fun i => (i.zero, i.size, i.bytes)) = some (some z, Flat.sz α, bytes)) (hzs : z.cells.size = Flat.sz α)
    (v : Value) (xs : List α) (hs : a.eval s = v) (hown : Ow w base e v xs)
    (A : Option Addr) (m c : Nat) (ys : List α) (hx : a.eval x = .slice A m c) (hnil : A = none → c = 0) (hsl : Sl w A m c ys)
    (hlen : xs.length + m ≤ 2000000) (hby : bytes ≤ 4096) (hbase : base ≤ w.heap.size)
    (h : ∀ v' w', Ow w' base e v' (xs ++ ys) → Upd w w' v v' → wpList P ops Q rest (a.put o.dst v') w') : wpList P ops Q (o :: rest) a w := by
  obtain ⟨i, hi0, hz0, hz1, hz2⟩ := info_parts hi
  refine wpList_step fun K hK => ?_
  rw [if_pos hw]
  cases A with
  | none =>
    obtain ⟨rfl, rfl⟩ := hsl.none_
    obtain rfl := hnil rfl
    have hrun := run_append_owned_none (P := P) (w := w) base t o.type e i (Flat.sz α) ht hi0 v xs.length _ hown
    unfold Oper.wp
    simp [execOp, ho, resolve, invoke, builtin, hs, hx, hrun, Result.andThen]
    exact hK _ _ (h v w (by simpa using hown) (Upd.refl w v))
  | some ad =>
    have hm : ys.length = m := hsl.len
    have hbytes : (xs.length + m) * bytes ≤ 140737488355328 := by
      have : (xs.length + m) * bytes ≤ 2000000 * 4096 := Nat.mul_le_mul hlen hby
      omega
    obtain ⟨v', w', hr, h1, h2, _, h4⟩ := run_append_own_at (P := P) w base t o.type e i z (Flat.sz α) bytes ht hi0 hz0 hz1 hz2 hzs Flat.pos v xs.length _ hown ad m c (ys.flatMap Flat.cells) (by rw [flat_len, hm]) hsl.cells (flat_one ys)
      (by unfold maxLen; omega) hbytes hbase
    unfold Oper.wp execOp
    simp only [ho, resolve, invoke, builtin, Sem.run_bind, Sem.run_pure, Result.andThen_ok, List.map_toArray, List.map_cons, List.map_nil, hs, hx, hr]
    refine hK _ _ (h v' w' ?_ ⟨h2, ?_⟩)
    · unfold Ow
      rw [List.length_append, List.flatMap_append, hm]
      exact h1
    · rcases h4 with h4 | h4
      · exact .inl h4
      · exact .inr ⟨_, h4, Nat.le_refl _⟩
theorem applyF_out (v : Env) : ∀ (ds : List Dsc) (out : List Giv) (g : Int), applyF v out g ds = if (applyF v [] g ds).2.2 = 0 then (out ++ (applyF v [] g ds).1, (applyF v [] g ds).2.1, 0) else ([], 0, 6)
  | [], out, g => by simp [applyF]
  | d :: ds, out, g => by
    have ih := applyF_out v ds
    rw [applyF, applyF]
    by_cases ht : topH v d.e = false
    · rw [if_pos ht, if_pos ht]
      exact ih out g
    · rw [if_neg ht, if_neg ht]
      by_cases hp : d.pts < 0 ∨ 10000 < d.pts
      · rw [if_pos hp, if_pos hp]
        rfl
      · rw [if_neg hp, if_neg hp]
        by_cases h0 : pct g d.pts = 0
        · rw [if_pos h0, if_pos h0]
          exact ih out _
        · rw [if_neg h0, if_neg h0, ih (out ++ _), ih ([] ++ _)]
          by_cases hz : (applyF v [] (g - pct g d.pts) ds).2.2 = 0
          · rw [if_pos hz]
            simp [hz]
          · rw [if_neg hz]
            simp [hz]
theorem applyF_append (v : Env) : ∀ (xs ys : List Dsc) (out : List Giv) (g : Int), applyF v out g (xs ++ ys) = if (applyF v out g xs).2.2 = 0 then applyF v (applyF v out g xs).1 (applyF v out g xs).2.1 ys else ([], 0, 6)
  | [], ys, out, g => by simp [applyF]
  | d :: xs, ys, out, g => by
    have ih := applyF_append v xs ys
    rw [List.cons_append, applyF, applyF]
    by_cases ht : topH v d.e = false
    · rw [if_pos ht, if_pos ht]
      exact ih _ _
    · rw [if_neg ht, if_neg ht]
      by_cases hp : d.pts < 0 ∨ 10000 < d.pts
      · rw [if_pos hp, if_pos hp]
        rfl
      · rw [if_neg hp, if_neg hp]
        exact ih _ _
theorem applyE_cases (v : Env) (g : Int) (ds : List Dsc) : (applyE v g ds).2.2 = 0 ∨ applyE v g ds = ([], 0, 6) := by
  rcases applyE_spec v g ds with h | h
  · exact .inl h.1
  · exact .inr h
/-- one list after the other -/
theorem parts (v : Env) (g : Int) (ds : List Dsc) (k : Nat) :
    (applyE v g (ds.take k) = ([], 0, 6) ∧ applyE v g ds = ([], 0, 6)) ∨ ((applyE v g (ds.take k)).2.2 = 0 ∧
      ((applyE v (applyE v g (ds.take k)).2.1 (ds.drop k) = ([], 0, 6) ∧ applyE v g ds = ([], 0, 6)) ∨
       ((applyE v (applyE v g (ds.take k)).2.1 (ds.drop k)).2.2 = 0 ∧ applyE v g ds = ((applyE v g (ds.take k)).1 ++ (applyE v (applyE v g (ds.take k)).2.1 (ds.drop k)).1, (applyE v (applyE v g (ds.take k)).2.1 (ds.drop k)).2.1, 0)))) := by
  by_cases hg : g < 0 ∨ 1125899906842624 < g
  · left
    unfold applyE
    rw [if_pos hg, if_pos hg]
    exact ⟨rfl, rfl⟩
  · have e0 : applyE v g ds = applyF v [] g (ds.take k ++ ds.drop k) := by unfold applyE; rw [if_neg hg, List.take_append_drop]
    have e1 : applyE v g (ds.take k) = applyF v [] g (ds.take k) := by unfold applyE; rw [if_neg hg]
    rw [applyF_append, ← e1] at e0
    rcases applyE_spec v g (ds.take k) with h | h
    · right
      refine ⟨h.1, ?_⟩
      have hs := sumG_nonneg h.2.2.2.1
      have e2 : applyE v (applyE v g (ds.take k)).2.1 (ds.drop k) = applyF v [] (applyE v g (ds.take k)).2.1 (ds.drop k) := by
        show (if _ then _ else _) = _
        rw [if_neg (by have := h.2.1; have := h.2.2.1; omega)]
      rw [if_pos h.1, applyF_out, ← e2] at e0
      rcases applyE_cases v (applyE v g (ds.take k)).2.1 (ds.drop k) with hz | hz
      · right
        rw [if_pos hz] at e0
        exact ⟨hz, e0⟩
      · left
        rw [hz, if_neg (by decide)] at e0
        exact ⟨hz, e0⟩
    · left
      rw [h, if_neg (by decide)] at e0
      exact ⟨h, e0⟩
theorem Dl.take {w : World} {ds : List Dsc} {items : List Dit} (h : Dl w ds items) (k : Nat) : Dl w (ds.take k) (items.take k) := by
  refine ⟨by simp [h.1], fun i x d hx hd => ?_⟩
  rw [List.getElem?_take] at hx hd
  split at hx
  · rename_i hi
    rw [if_pos hi] at hd
    exact h.2 i x d hx hd
  · cases hx
theorem Dl.drop {w : World} {ds : List Dsc} {items : List Dit} (h : Dl w ds items) (k : Nat) : Dl w (ds.drop k) (items.drop k) := by
  refine ⟨by simp [h.1], fun i x d hx hd => ?_⟩
  rw [List.getElem?_drop] at hx hd
  exact h.2 _ x d hx hd
section
variable {α : Type} [Flat α]
theorem Sl.takeK {w : World} {A : Option Addr} {n c : Nat} {xs : List α} (h : Sl w A n c xs) {k : Nat} (hk : k ≤ n) : Sl w A k c (xs.take k) := by
  refine ⟨by rw [List.length_take, h.len]; omega, Nat.le_trans hk h.le, h.2.2.1, fun h0 => ?_⟩
  obtain ⟨b, off, e, hb, hc⟩ := h.base (by omega)
  refine ⟨b, off, e, hb, fun i x hx j u hu => ?_⟩
  rw [List.getElem?_take] at hx
  split at hx
  · exact hc i x hx j u hu
  · cases hx
theorem Sl.dropK {w : World} {b off n c : Nat} {xs : List α} (h : Sl w (some ⟨b, off, none⟩) n c xs) {k : Nat} (hk : k ≤ n) (A : Option Addr) (hA : k < n → A = some ⟨b, off + k * Flat.sz α, none⟩) : Sl w A (n - k) (c - k) (xs.drop k) := by
  have hle := h.le
  refine ⟨by rw [List.length_drop, h.len], by omega, by have := h.2.2.1; omega, fun h0 => ?_⟩
  obtain ⟨b', off', e, hb, hc⟩ := h.base (by omega)
  injection e with e
  injection e with e1 e2
  subst e1 e2
  refine ⟨b, off + k * Flat.sz α, hA (by omega), hb, fun i x hx j u hu => ?_⟩
  rw [List.getElem?_drop] at hx
  have h1 := hc _ x hx j u hu
  rw [Nat.add_mul] at h1
  rw [Nat.add_assoc off]
  exact h1
end
theorem Sl.dropG {α : Type} [Flat α] {w : World} {A : Option Addr} {n c : Nat} {xs : List α} (h : Sl w A n c xs) {k : Nat} (hk : k ≤ n) : Sl w (if c = k then A else A.map (·.add (k * Flat.sz α))) (n - k) (c - k) (xs.drop k) := by
  have hle := h.le
  refine ⟨by rw [List.length_drop, h.len], by omega, by have := h.2.2.1; omega, fun h0 => ?_⟩
  obtain ⟨b, off, e, hb, hc⟩ := h.base (by omega)
  subst e
  refine ⟨b, off + k * Flat.sz α, by rw [if_neg (by omega)]; simp [Addr.add], hb, fun i x hx j u hu => ?_⟩
  rw [List.getElem?_drop] at hx
  have h1 := hc _ x hx j u hu
  rw [Nat.add_mul] at h1
  rw [Nat.add_assoc off]
  exact h1
theorem Ow.slN {α : Type} [Flat α] {w : World} {base : Nat} {e : TypeId} {v : Value} {xs : List α} (h : Ow w base e v xs) : ∃ A c, v = .slice A xs.length c ∧ (A = none → c = 0) ∧ Sl w A xs.length c xs := by
  obtain ⟨A, c, hv, hs⟩ := h.sl
  refine ⟨A, c, hv, fun hA => ?_, hs⟩
  subst hA
  rcases h.2 with ⟨h1, _⟩ | ⟨g, cap, cur, h1, _⟩
  · rw [hv] at h1
    injection h1
  · rw [hv] at h1
    injection h1 with h1
    cases h1
theorem run_size {P : Program} {e : TypeId} {sz : Nat} (hi : (P.info? e).map (·.size) = some sz) (w : World) : (sizeOf e).run P w = .ok sz w := by
  cases hq : P.info? e with
  | none => simp [hq] at hi
  | some i =>
    have : i.size = sz := by simpa [hq] using hi
    simp [sizeOf, run_typeInfo w hq, this]
theorem run_slice_to {P : Program} {A : Option Addr} {n c k : Nat} {t : TypeId} {sz : Nat} (ht : P.underlying t = some (.slice (P.elem t))) (hi : (P.info? (P.elem t)).map (·.size) = some sz) (hk : k ≤ c) (w : World) :
    (Instr.slice t (.slice A n c) none (some (.int .i64 (k : Int))) none).run P w = .ok (.slice A k c) w := by
  rw [run_slice_h w t A n c ht .i64 (k : Int) (by omega) (by omega), run_size hi]
  have hA : (if c = 0 then A else A.map (fun x => x.add (0 * sz))) = A := by
    split
    · rfl
    · cases A <;> simp [Addr.add]
  simp [Result.andThen, sliced]
  cases A <;> simp [Addr.add]
theorem run_slice_from {P : Program} {A : Option Addr} {n c k : Nat} {t : TypeId} {sz : Nat} (ht : P.underlying t = some (.slice (P.elem t))) (hi : (P.info? (P.elem t)).map (·.size) = some sz) (hk : k ≤ n) (w : World) :
    (Instr.slice t (.slice A n c) (some (.int .i64 (k : Int))) none none).run P w = .ok (.slice (if c = k then A else A.map (·.add (k * sz))) (n - k) (c - k)) w := by
  rw [run_slice_l w t A n c ht .i64 (k : Int) (by omega) (by omega), run_size hi]
  simp [Result.andThen, sliced]
set_option maxHeartbeats 8000000 in
theorem law_parts (v : Env) (g a : Int) (ha : 0 ≤ a) (ha2 : a ≤ 255) (ds : List Dsc) (A : Option Addr) (n c : Nat) (items : List Dit) (w : World) (hnil : A = none → c = 0) (h : Sl w A n c items) (hd : Dl w ds items) :
    Calls Try.prog 7 #[.slice A n c, .int .u8 a, dealV v g] w fun r w' => r = .returned (.bool true) ∧ Below w.heap.size w w' := by
  have hn := h.nmax
  have hlen := h.len
  have hnc := h.le
  have H := Lib.hid h
  have HD := Lib.hid hd
  have HNIL := Lib.hid hnil
  clear h hd hnil
  unfold dealV
  go_enter Try.func7, Try.ntmps7
  go_upto_region 1 with (fail)
  (obtain ⟨W, hWW, hbW, hzW, f1W, qfa⟩ := box1 w #[.int .i64 v.kind, .int .i64 v.units, .int .i64 v.weekday, .int .i64 v.minute, .int .i64 v.total, .int .i64 v.spent, .string v.zone, .string v.band, .bool v.family, .int .i64 g] 50; rw [← hWW]; have qa0 : W.cell? ⟨w.heap.size, 0, none⟩ = some (.int .i64 v.kind) := f1W 0 _ rfl; have qa1 : W.cell? ⟨w.heap.size, 1, none⟩ = some (.int .i64 v.units) := f1W 1 _ rfl; have qa2 : W.cell? ⟨w.heap.size, 2, none⟩ = some (.int .i64 v.weekday) := f1W 2 _ rfl; have qa3 : W.cell? ⟨w.heap.size, 3, none⟩ = some (.int .i64 v.minute) := f1W 3 _ rfl; have qa4 : W.cell? ⟨w.heap.size, 4, none⟩ = some (.int .i64 v.total) := f1W 4 _ rfl; have qa5 : W.cell? ⟨w.heap.size, 5, none⟩ = some (.int .i64 v.spent) := f1W 5 _ rfl; have qa6 : W.cell? ⟨w.heap.size, 6, none⟩ = some (.string v.zone) := f1W 6 _ rfl; have qa7 : W.cell? ⟨w.heap.size, 7, none⟩ = some (.string v.band) := f1W 7 _ rfl; have qa8 : W.cell? ⟨w.heap.size, 8, none⟩ = some (.bool v.family) := f1W 8 _ rfl; have qa9 : W.cell? ⟨w.heap.size, 9, none⟩ = some (.int .i64 g) := f1W 9 _ rfl; clear hWW f1W)
  have hT := hbW
  have hg0 : w.heap.size < W.heap.size := hzW
  replace H := Lib.hid (H.out.below hbW)
  replace HD := Lib.hid (HD.out.below hbW)
  go_wp2_with fail
  refine (dsmall_any ds A n c items _ H.out HD.out).mono ?_
  rintro r w1 ⟨m, rfl, hm, hb1⟩
  (have hzhb1 := hb1.size; replace qa0 := (hb1.cell (p := ⟨_, _, none⟩) (by (try dsimp only) <;> omega)).trans qa0; replace qa1 := (hb1.cell (p := ⟨_, _, none⟩) (by (try dsimp only) <;> omega)).trans qa1; replace qa2 := (hb1.cell (p := ⟨_, _, none⟩) (by (try dsimp only) <;> omega)).trans qa2; replace qa3 := (hb1.cell (p := ⟨_, _, none⟩) (by (try dsimp only) <;> omega)).trans qa3; replace qa4 := (hb1.cell (p := ⟨_, _, none⟩) (by (try dsimp only) <;> omega)).trans qa4; replace qa5 := (hb1.cell (p := ⟨_, _, none⟩) (by (try dsimp only) <;> omega)).trans qa5; replace qa6 := (hb1.cell (p := ⟨_, _, none⟩) (by (try dsimp only) <;> omega)).trans qa6; replace qa7 := (hb1.cell (p := ⟨_, _, none⟩) (by (try dsimp only) <;> omega)).trans qa7; replace qa8 := (hb1.cell (p := ⟨_, _, none⟩) (by (try dsimp only) <;> omega)).trans qa8; replace qa9 := (hb1.cell (p := ⟨_, _, none⟩) (by (try dsimp only) <;> omega)).trans qa9; replace hT := Below.trans hT (Below.mono hb1 (by omega)))
  replace H := Lib.hid (H.out.below hb1)
  replace HD := Lib.hid (HD.out.below hb1)
  have hg1 : w.heap.size < w1.heap.size := by omega
  clear hb1
  cases m
  · go_wp2_with fail
    refine (awake_any _).mono ?_
    rintro r wz ⟨rfl, hbz⟩
    replace hT := hT.trans (hbz.mono (by omega))
    go_wp2_with fail
    go_ret
    exact ⟨rfl, hT⟩
  · have hn20 : n ≤ 20 := hm rfl
    clear hm
    obtain ⟨k, hk⟩ : ∃ k : Nat, (k : Int) = a % ((n : Int) + 1) := ⟨(a % ((n : Int) + 1)).toNat, by have := Int.emod_nonneg a (b := (n : Int) + 1) (by omega); omega⟩
    have hkn : k ≤ n := by have := Int.emod_lt_of_pos a (b := (n : Int) + 1) (by omega); omega
    have hkc : k ≤ c := by omega
    have hkn2 : k ≤ n := hkn
    have HDN := Lib.hid (show ds.length = n by rw [← HD.out.1]; exact hlen)
    have w1n : IntKind.i64.wrap ((n : Int) + 1) = (n : Int) + 1 := IntWalk.i64_in _ (by omega)
    have hmod : a.tmod ((n : Int) + 1) = (k : Int) := by rw [Int.tmod_eq_emod_of_nonneg ha, hk]
    have hmod2 : a % ((n : Int) + 1) = (k : Int) := hk.symm
    have hdv : ¬ ((n : Int) + 1 = 0) := by omega
    have hwa : IntKind.i64.wrap a = a := IntWalk.i64_in _ (by omega)
    have hwk : IntKind.i64.wrap (k : Int) = (k : Int) := IntWalk.i64_in _ (by omega)
    clear hk
    go_wp2_with fail
    refine (apply_any v g ds A n c items _ (by omega) H.out HD.out).mono ?_
    rintro r w2 ⟨u1, rfl, ho1, hb2⟩
    (have hzhb2 := hb2.size; replace qa0 := (hb2.cell (p := ⟨_, _, none⟩) (by (try dsimp only) <;> omega)).trans qa0; replace qa1 := (hb2.cell (p := ⟨_, _, none⟩) (by (try dsimp only) <;> omega)).trans qa1; replace qa2 := (hb2.cell (p := ⟨_, _, none⟩) (by (try dsimp only) <;> omega)).trans qa2; replace qa3 := (hb2.cell (p := ⟨_, _, none⟩) (by (try dsimp only) <;> omega)).trans qa3; replace qa4 := (hb2.cell (p := ⟨_, _, none⟩) (by (try dsimp only) <;> omega)).trans qa4; replace qa5 := (hb2.cell (p := ⟨_, _, none⟩) (by (try dsimp only) <;> omega)).trans qa5; replace qa6 := (hb2.cell (p := ⟨_, _, none⟩) (by (try dsimp only) <;> omega)).trans qa6; replace qa7 := (hb2.cell (p := ⟨_, _, none⟩) (by (try dsimp only) <;> omega)).trans qa7; replace qa8 := (hb2.cell (p := ⟨_, _, none⟩) (by (try dsimp only) <;> omega)).trans qa8; replace qa9 := (hb2.cell (p := ⟨_, _, none⟩) (by (try dsimp only) <;> omega)).trans qa9; replace hT := Below.trans hT (Below.mono hb2 (by omega)))
    replace H := Lib.hid (H.out.below hb2)
    replace HD := Lib.hid (HD.out.below hb2)
    have hg2 : w.heap.size < w2.heap.size := by omega
    obtain ⟨A1, c1, rfl, hs1⟩ := ho1.sl
    have HS1 := Lib.hid hs1
    clear ho1 hs1 hb2
    go_upto_region 5 with (fail)
    obtain ⟨R1, hR1⟩ : ∃ R1, applyE v g (ds.take k) = R1 := ⟨_, rfl⟩
    have HR1 := Lib.hid hR1
    clear hR1
    obtain ⟨o1, l1, e1⟩ := R1
    have hslT := run_slice_to (P := Try.prog) (t := 33) (sz := 6) (A := A) (n := n) (c := c) (k := k) (by kernel_rfl) (by kernel_rfl) hkc
    ((with_reducible refine region_known ([(45, tupF (fun u => .tuple #[u, .int .i64 l1, .int .i64 e1]) (fun x w => Ow w w2.heap.size 42 x o1)), (37, tupF (fun u => .tuple #[u, .int .i64 l1, .int .i64 e1]) (fun x w => Ow w w2.heap.size 42 x o1)), (46, fun x w => Ow w w2.heap.size 42 x o1), (11, fun x w => Ow w w2.heap.size 42 x o1)]) ?_ ?_ ?_ ?_ ?_ ?_); kernel_rfl; kernel_rfl; rfl; rfl; (exact stays_cons (stays_tup (fun x w w' hb h => Ow.below h hb)) (stays_cons (stays_tup (fun x w w' hb h => Ow.below h hb)) (stays_cons (fun x w w' hb h => Ow.below h hb) (stays_cons (fun x w w' hb h => Ow.below h hb) stays_nil)))); intro hnonemp hcr; (repeat (first | (refine mix_plain rfl rfl rfl ?_; (first | go_big_quiet_skip | (go_big_quiet_want; go_big_quiet_op; go_big_quiet_on)); refine wpQuiet_nil ?_) | (refine kn_copy (.inl rfl) rfl rfl rfl rfl (by simp only [Act.put, List.setIfInBounds_toArray, List.set_cons_succ, List.set_cons_zero]; rfl) ?_) | (refine kn_copy (.inr rfl) rfl rfl rfl rfl (by simp only [Act.put, List.setIfInBounds_toArray, List.set_cons_succ, List.set_cons_zero]; rfl) ?_) | (refine kn_part rfl rfl rfl rfl rfl (by simp only [Act.put, List.setIfInBounds_toArray, List.set_cons_succ, List.set_cons_zero]; rfl) (fun _ _ => rfl) ?_) | (refine kn_skip rfl rfl (by simp only [Act.put, List.setIfInBounds_toArray, List.set_cons_succ, List.set_cons_zero]; rfl) ?_) | (refine kn_call 45 _ rfl Try.func13 (by kernel_rfl) rfl rfl rfl rfl (by simp only [Act.put, List.setIfInBounds_toArray, List.set_cons_succ, List.set_cons_zero]; rfl) (fun z vals hv => ?_) ?_; (have hc := apply_any v g (ds.take k) _ k c (items.take k) z.w (by omega) (Sl.below (Sl.takeK H.out hkn2) z.h) (Dl.below (HD.out.take k) z.h); rw [HR1.out] at hc; exact ⟨_, (by first | (simp [ev, Act.eval, Env.val] <;> rfl) | (simp [ev, Act.eval, It.val, Env.val]; done)), hc.mono fun r w' ⟨u, e, ho, hb⟩ => ⟨_, e, hb, u, rfl, ho.lower z.h.size⟩⟩)) | (refine kn_partV (.int .i64 l1) rfl rfl rfl rfl (by simp only [Act.put, List.setIfInBounds_toArray, List.set_cons_succ, List.set_cons_zero]; rfl) (fun _ _ => rfl) ?_) | (refine kn_partV (.int .i64 e1) rfl rfl rfl rfl (by simp only [Act.put, List.setIfInBounds_toArray, List.set_cons_succ, List.set_cons_zero]; rfl) (fun _ _ => rfl) ?_))); intro wq vals hgq hkn; simp only [over, Nk, List.map_cons, List.map_nil, List.foldl_cons, List.foldl_nil, Act.put, List.setIfInBounds_toArray, List.set_cons_succ, List.set_cons_zero]; clear hcr)
    have ho1 : Ow wq w2.heap.size 42 (vals 11) o1 := hkn 12 _ _ rfl rfl _ rfl
    clear hkn hslT
    obtain ⟨A2, c2, hv2, hn2, hs2⟩ := Ow.slN ho1
    rw [hv2]
    clear hv2 ho1
    have HS2 := Lib.hid hs2
    have HN2 := Lib.hid hn2
    clear hs2 hn2
    obtain ⟨w3, rfl⟩ : ∃ w3, w3 = wq := ⟨_, rfl⟩
    (have hzhgq := hgq.size; replace qa0 := (hgq.cell (p := ⟨_, _, none⟩) (by (try dsimp only) <;> omega)).trans qa0; replace qa1 := (hgq.cell (p := ⟨_, _, none⟩) (by (try dsimp only) <;> omega)).trans qa1; replace qa2 := (hgq.cell (p := ⟨_, _, none⟩) (by (try dsimp only) <;> omega)).trans qa2; replace qa3 := (hgq.cell (p := ⟨_, _, none⟩) (by (try dsimp only) <;> omega)).trans qa3; replace qa4 := (hgq.cell (p := ⟨_, _, none⟩) (by (try dsimp only) <;> omega)).trans qa4; replace qa5 := (hgq.cell (p := ⟨_, _, none⟩) (by (try dsimp only) <;> omega)).trans qa5; replace qa6 := (hgq.cell (p := ⟨_, _, none⟩) (by (try dsimp only) <;> omega)).trans qa6; replace qa7 := (hgq.cell (p := ⟨_, _, none⟩) (by (try dsimp only) <;> omega)).trans qa7; replace qa8 := (hgq.cell (p := ⟨_, _, none⟩) (by (try dsimp only) <;> omega)).trans qa8; replace qa9 := (hgq.cell (p := ⟨_, _, none⟩) (by (try dsimp only) <;> omega)).trans qa9; replace hT := Below.trans hT (Below.mono hgq (by omega)))
    replace H := Lib.hid (H.out.below hgq)
    replace HD := Lib.hid (HD.out.below hgq)
    replace HS1 := Lib.hid (HS1.out.below hgq)
    have hg3 : w.heap.size < w3.heap.size := by omega
    clear hgq
    have hpt := parts v g ds k
    rw [HR1.out] at hpt
    rcases hpt with ⟨h1, h2⟩ | ⟨h1, hpt⟩
    · cases h1
      rw [h2]
      clear h2
      go_wp2_with fail
      refine (awake_any _).mono ?_
      rintro r wz ⟨rfl, hbz⟩
      replace hT := hT.trans (hbz.mono (by omega))
      go_wp2_with fail
      go_ret
      exact ⟨rfl, hT⟩
    · dsimp only at h1 hpt
      subst h1
      obtain ⟨R2, hR2⟩ : ∃ R2, applyE v l1 (ds.drop k) = R2 := ⟨_, rfl⟩
      rw [hR2] at hpt
      have HR2 := Lib.hid hR2
      clear hR2
      obtain ⟨o2, l2, e2⟩ := R2
      have HPT := Lib.hid hpt
      clear hpt
      have hslF := run_slice_from (P := Try.prog) (t := 33) (sz := 6) (A := A) (n := n) (c := c) (k := k) (by kernel_rfl) (by kernel_rfl) hkn2
      have HSD := Lib.hid (Sl.dropG H.out hkn2)
      obtain ⟨A', hA'⟩ : ∃ A', (if c = k then A else A.map (·.add (k * 6))) = A' := ⟨_, rfl⟩
      rw [hA'] at hslF
      have HSE : Hid (Sl w3 A' (n - k) (c - k) (items.drop k)) := Lib.hid (by have h := HSD.out; rw [show (if c = k then A else A.map (·.add (k * Flat.sz Dit))) = A' from hA'] at h; exact h)
      clear hA' HSD
      go_upto_region 8 with (fail)
      ((with_reducible refine region_known ([(64, tupF (fun u => .tuple #[u, .int .i64 l2, .int .i64 e2]) (fun x w => Ow w w3.heap.size 42 x o2)), (57, tupF (fun u => .tuple #[u, .int .i64 l2, .int .i64 e2]) (fun x w => Ow w w3.heap.size 42 x o2)), (65, fun x w => Ow w w3.heap.size 42 x o2), (14, fun x w => Ow w w3.heap.size 42 x o2)]) ?_ ?_ ?_ ?_ ?_ ?_); kernel_rfl; kernel_rfl; rfl; rfl; (exact stays_cons (stays_tup (fun x w w' hb h => Ow.below h hb)) (stays_cons (stays_tup (fun x w w' hb h => Ow.below h hb)) (stays_cons (fun x w w' hb h => Ow.below h hb) (stays_cons (fun x w w' hb h => Ow.below h hb) stays_nil)))); intro hnonemp hcr; (repeat (first | (refine mix_plain rfl rfl rfl ?_; (first | go_big_quiet_skip | (go_big_quiet_want; go_big_quiet_op; go_big_quiet_on)); refine wpQuiet_nil ?_) | (refine kn_copy (.inl rfl) rfl rfl rfl rfl (by simp only [Act.put, List.setIfInBounds_toArray, List.set_cons_succ, List.set_cons_zero]; rfl) ?_) | (refine kn_copy (.inr rfl) rfl rfl rfl rfl (by simp only [Act.put, List.setIfInBounds_toArray, List.set_cons_succ, List.set_cons_zero]; rfl) ?_) | (refine kn_part rfl rfl rfl rfl rfl (by simp only [Act.put, List.setIfInBounds_toArray, List.set_cons_succ, List.set_cons_zero]; rfl) (fun _ _ => rfl) ?_) | (refine kn_skip rfl rfl (by simp only [Act.put, List.setIfInBounds_toArray, List.set_cons_succ, List.set_cons_zero]; rfl) ?_) | (refine kn_call 64 _ rfl Try.func13 (by kernel_rfl) rfl rfl rfl rfl (by simp only [Act.put, List.setIfInBounds_toArray, List.set_cons_succ, List.set_cons_zero]; rfl) (fun z vals hv => ?_) ?_; (have hc := apply_any v l1 (ds.drop k) _ (n - k) (c - k) (items.drop k) z.w (by omega) (Sl.below HSE.out z.h) (Dl.below (HD.out.drop k) z.h); rw [HR2.out] at hc; exact ⟨_, (by first | (simp [ev, Act.eval, Env.val] <;> rfl) | (simp [ev, Act.eval, It.val, Env.val]; done)), hc.mono fun r w' ⟨u, e, ho, hb⟩ => ⟨_, e, hb, u, rfl, ho.lower z.h.size⟩⟩)) | (refine kn_partV (.int .i64 l2) rfl rfl rfl rfl (by simp only [Act.put, List.setIfInBounds_toArray, List.set_cons_succ, List.set_cons_zero]; rfl) (fun _ _ => rfl) ?_) | (refine kn_partV (.int .i64 e2) rfl rfl rfl rfl (by simp only [Act.put, List.setIfInBounds_toArray, List.set_cons_succ, List.set_cons_zero]; rfl) (fun _ _ => rfl) ?_))); intro wq vals hgq hkn; simp only [over, Nk, List.map_cons, List.map_nil, List.foldl_cons, List.foldl_nil, Act.put, List.setIfInBounds_toArray, List.set_cons_succ, List.set_cons_zero]; clear hcr)
      have ho2 : Ow wq w3.heap.size 42 (vals 14) o2 := hkn 11 _ _ rfl rfl _ rfl
      clear hkn hslF HSE
      obtain ⟨A3, c3, hv3, hn3, hs3⟩ := Ow.slN ho2
      rw [hv3]
      clear hv3 ho2
      have HS3 := Lib.hid hs3
      have HN3 := Lib.hid hn3
      clear hs3 hn3
      obtain ⟨w4, rfl⟩ : ∃ w4, w4 = wq := ⟨_, rfl⟩
      replace hT := hT.trans (hgq.mono (by omega))
      have hzq := hgq.size
      replace HS1 := Lib.hid (HS1.out.below hgq)
      replace HS2 := Lib.hid (HS2.out.below hgq)
      have hg4 : w.heap.size < w4.heap.size := by omega
      clear hgq H HD qa0 qa1 qa2 qa3 qa4 qa5 qa6 qa7 qa8 qa9
      rcases HPT.out with ⟨h1, h2⟩ | ⟨h1, h2⟩
      · cases h1
        rw [h2]
        clear h2
        go_wp2_with fail
        refine (awake_any _).mono ?_
        rintro r wz ⟨rfl, hbz⟩
        replace hT := hT.trans (hbz.mono (by omega))
        go_wp2_with fail
        go_ret
        exact ⟨rfl, hT⟩
      · dsimp only at h1 h2
        subst h1
        rw [h2] at HS1 ⊢
        clear h2
        have hq1 : (l2 == l2) = true := by simp
        dsimp only at HS1 ⊢
        have hol := applyE_spec v g (ds.take k)
        have hol2 := applyE_spec v l1 (ds.drop k)
        rw [HR1.out] at hol
        rw [HR2.out] at hol2
        dsimp only at hol hol2
        have hlk : (ds.take k).length ≤ ds.length := by rw [List.length_take]; omega
        have hld : (ds.drop k).length ≤ ds.length := by rw [List.length_drop]; omega
        have hdn := HDN.out
        have hl1 : o1.length ≤ 20 := by
          rcases hol with h | h
          · omega
          · cases h
        have hl2 : o2.length ≤ 20 := by
          rcases hol2 with h | h
          · omega
          · cases h
        clear hol hol2 hlk hld hdn
        go_wp2_with (first
          | (refine wpl_appendW _ rfl (.tmp 85) (.tmp 86) 35 rfl w4.heap.size 42 _ 24 Try.underlying35 info_giv rfl (.slice (some ⟨w4.heap.size, 0, none⟩) 0 0) ([] : List Giv) rfl (World.ownsRow_lit w4 #[] 0 (Nat.le_refl _) (Nat.zero_le _) rfl) A2 o1.length c2 o1 rfl HN2.out (HS2.out.below ((Below.refl _ _).alloc (Nat.le_refl _) _)) (by simp; omega) (by omega) (by simp) ?_
             intro v1 w5 hown1 hu1
             have hbv1 : Below w4.heap.size w4 w5 := ((Below.refl _ _).alloc (Nat.le_refl _) _).grown hu1.grew (by simp) (by simp [Value.ownBlock])
             have hzv1 := hbv1.size
             rw [List.nil_append] at hown1
             have HO1 := Lib.hid hown1
             clear hu1 hown1)
          | (refine wpl_appendW _ rfl (.tmp 87) (.tmp 88) 35 rfl w4.heap.size 42 _ 24 Try.underlying35 info_giv rfl v1 o1 rfl HO1.out A3 o2.length c3 o2 rfl HN3.out (HS3.out.below hbv1) (by omega) (by omega) (by omega) ?_
             intro v2 w6 hown2 hu2
             have hbv2 : Below w4.heap.size w4 w6 := hu2.belowBase HO1.out hbv1 (by omega)
             have hzv2 := hbv2.size
             have HO2 := Lib.hid hown2
             clear hu2 hown2
             obtain ⟨A5, c5, hv5, hs5⟩ := HO2.out.sl
             have HS5 := Lib.hid hs5
             subst hv5
             clear hs5))
        have hsA := HS1.out.below hbv2
        have hsB := HS5.out
        rw [List.length_append] at hsA hsB
        refine (same_any (o1 ++ o2) (o1 ++ o2) A1 A5 (o1.length + o2.length) c1 (o1.length + o2.length) c5 _ hsA hsB).mono ?_
        rintro r w7 ⟨rfl, hb7⟩
        rw [decide_eq_true rfl]
        replace hT := hT.trans ((hbv2.trans (hb7.mono (by omega))).mono (by omega))
        have hz7 := hb7.size
        go_wp2_with fail
        refine (awake_any _).mono ?_
        rintro r wz ⟨rfl, hbz⟩
        replace hT := hT.trans (hbz.mono (by omega))
        go_wp2_with fail
        go_ret
        exact ⟨rfl, hT⟩
end Dc
end Go.Proofs.Ytdjlfdbdhacmjaa
