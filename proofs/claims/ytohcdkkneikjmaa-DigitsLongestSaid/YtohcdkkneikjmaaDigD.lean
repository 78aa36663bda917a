/-
  Digits: slices of strings and of bytes; Longest and the reference's. No condition.
-/
import Derived.Test.YtohcdkkneikjmaaDigB
import Derived.BigQuiet
import Derived.StillTailTactics
import Derived.Lib.Overlaps
import Derived.Deep.DeepCutAuto
import Derived.Lib.BufferRead
set_option maxRecDepth 100000
set_option linter.unusedVariables false
set_option linter.unusedSimpArgs false
namespace Go.Proofs.Ytohcdkkneikjmaa
open Go.RowKit

namespace Dg

instance : Flat ByteArray where
  sz := 1
  cells s := [.string s]
  len _ := rfl
  one _ := by simp [Value.oneCell']
  pos := by decide
instance : Flat UInt8 where
  sz := 1
  cells c := [.int .u8 (c.toNat : Int)]
  len _ := rfl
  one _ := by simp [Value.oneCell']
  pos := by decide
theorem info_str : (Try.prog.info? 9).map (fun i => (i.zero, i.size, i.bytes)) = some (some (.string ⟨#[]⟩), 1, 16) := by kernel_rfl
theorem info_u8 : (Try.prog.info? 5).map (fun i => (i.zero, i.size, i.bytes)) = some (some (.int .u8 0), 1, 1) := by kernel_rfl
theorem Sl.one {α : Type} [Flat α] (h1 : Flat.sz α = 1) {w : World} {A : Option Addr} {n c : Nat} {xs : List α} (h : Sl w A n c xs) (hn : 0 < n) : ∃ b off, A = some ⟨b, off, none⟩ ∧ b < w.heap.size ∧
    ∀ (i : Nat) (x : α) (v : Value), xs[i]? = some x → (Flat.cells x)[0]? = some v → w.cell? ⟨b, off + i, none⟩ = some v := by
  obtain ⟨b, off, e, hb, hc⟩ := h.base hn
  refine ⟨b, off, e, hb, fun i x v hx hv => ?_⟩
  have := hc i x hx 0 v hv
  rw [h1, Nat.mul_one] at this
  exact this
/-- 'string(b)' of a readable slice of bytes -/
theorem conv_str {w : World} {A : Option Addr} {n c : Nat} {l : List UInt8} (h : Sl w A n c l) : (convert 31 9 (.slice A n c)).run Try.prog w = .ok (.string (bs l)) w := by
  have hl := h.len
  by_cases hn : 0 < n
  · obtain ⟨b, off, rfl, _, hc⟩ := Sl.one rfl h hn
    subst hl
    exact run_convert_bytes_back w 31 9 5 ⟨b, off, none⟩ c l Try.underlying31 Try.underlying5 Try.underlying9
      (fun j hj => by rw [add_mk]; exact hc j l[j] _ (List.getElem?_eq_getElem hj) rfl)
  · obtain rfl : n = 0 := by omega
    obtain rfl : l = [] := List.eq_nil_of_length_eq_zero hl
    cases A with
    | none => exact Lib.run_convert_nil_bytes w 31 9 5 c Try.underlying31 Try.underlying5 Try.underlying9
    | some a => exact run_convert_bytes_back w 31 9 5 a c [] Try.underlying31 Try.underlying5 Try.underlying9 (fun j hj => absurd hj (by simp))

def Lt (ps : List ByteArray) : List (List UInt8) := ps.map (·.data.toList)
theorem Lt_at {ps : List ByteArray} {k : Nat} {p : ByteArray} (h : ps[k]? = some p) : (Lt ps).getD k [] = p.data.toList := by simp [Lt, List.getD, h]
theorem long_yes {s : List UInt8} {ps : List ByteArray} {k : Nat} {p : ByteArray} (h : ps[k]? = some p) (hp : Lib.hasPrefix s p.data.toList = true) (hb : longK s (Lt ps) k < 0 ∨ lenAt (Lt ps) (longK s (Lt ps) k) < p.size) : longK s (Lt ps) (k + 1) = k := by
  rw [longK, Lt_at h, if_pos ⟨hp, by rw [size_list]; exact hb⟩]
theorem long_no {s : List UInt8} {ps : List ByteArray} {k : Nat} {p : ByteArray} (h : ps[k]? = some p) (hp : Lib.hasPrefix s p.data.toList = false) : longK s (Lt ps) (k + 1) = longK s (Lt ps) k := by
  rw [longK, Lt_at h, if_neg (by rw [hp]; simp)]
theorem long_no2 {s : List UInt8} {ps : List ByteArray} {k : Nat} {p : ByteArray} (h : ps[k]? = some p) (h1 : ¬ longK s (Lt ps) k < 0) (h2 : ¬ lenAt (Lt ps) (longK s (Lt ps) k) < p.size) : longK s (Lt ps) (k + 1) = longK s (Lt ps) k := by
  rw [longK, Lt_at h, if_neg (by rw [size_list]; rintro ⟨_, h | h⟩ <;> omega)]

set_option maxHeartbeats 1000000 in
theorem longest_any (s : ByteArray) (A : Option Addr) (n c : Nat) (ps : List ByteArray) (w : World) (h : Sl w A n c ps) :
    Calls Try.prog 11 #[.string s, .slice A n c] w fun e w' => e = .returned (.int .i64 (longK s.data.toList (Lt ps) n)) ∧ w = w' := by
  have hn := h.nmax
  have H := Lib.hid h
  clear h
  go_enter Try.func11, Try.ntmps11
  go_wp2_with fail
  go_loop [5, 10] (fun v i => ∃ k : Nat, k ≤ n ∧ i = .int .i64 k ∧ v = .int .i64 (longK s.data.toList (Lt ps) k)) (fun _ i => n - (intOf i).toNat)
  case atStart => exact ⟨0, Nat.zero_le _, rfl, rfl⟩
  case round =>
    obtain ⟨k, hk, rfl, rfl⟩ := hrel
    by_cases hlt : k < n
    · obtain ⟨b, off, rfl, hbw, hc⟩ := Sl.one rfl H.out (by omega)
      obtain ⟨p, hp⟩ := H.out.get hlt
      have c0 : w.cell? ⟨b, off + k, none⟩ = some (.string p) := hc k p _ hp rfl
      have hbd := longK_bd s.data.toList (Lt ps) k
      obtain ⟨B, hB⟩ : ∃ B, longK s.data.toList (Lt ps) k = B := ⟨_, rfl⟩
      rw [hB] at hbd
      cases hpre : Lib.hasPrefix s.data.toList p.data.toList
      · have HN := Lib.hid ((long_no hp hpre).trans hB)
        rw [hB]
        clear hB hp hc
        go_wp2_with (go_at_call 13; refine (prefix_any _ _ _).mono ?_; rintro e w' ⟨rfl, rfl⟩)
        go_round
        case rel => exact ⟨k + 1, by omega, by go_num, by rw [HN.out]⟩
        case measure => simp [intOf]; omega
      · by_cases hneg : B < 0
        · have HN := Lib.hid (long_yes hp hpre (.inl (by rw [hB]; exact hneg)))
          rw [hB]
          clear hB hp hc
          obtain rfl : B = -1 := by omega
          go_wp2_with (go_at_call 13; refine (prefix_any _ _ _).mono ?_; rintro e w' ⟨rfl, rfl⟩)
          go_round
          case rel => exact ⟨k + 1, by omega, by go_num, by rw [HN.out]⟩
          case measure => simp [intOf]; omega
        · obtain ⟨m, rfl⟩ : ∃ m : Nat, B = m := ⟨B.toNat, by omega⟩
          have hmk : m < n := by omega
          obtain ⟨q, hq⟩ := H.out.get hmk
          have c1 : w.cell? ⟨b, off + m, none⟩ = some (.string q) := hc m q _ hq rfl
          have hla : lenAt (Lt ps) (m : Int) = q.size := by unfold lenAt; rw [show (m : Int).toNat = m from rfl, Lt_at hq, size_list]
          by_cases hsz : q.size < p.size
          · have HN := Lib.hid (long_yes hp hpre (.inr (by rw [hB, hla]; exact hsz)))
            rw [hB]
            clear hB hp hc hq hla
            have hd1 : decide ((q.size : Int) < p.size) = true := by simpa using hsz
            have hd2 : decide (q.size < p.size) = true := by simpa using hsz
            go_wp2_with (go_at_call 13; refine (prefix_any _ _ _).mono ?_; rintro e w' ⟨rfl, rfl⟩)
            go_round
            case rel => exact ⟨k + 1, by omega, by go_num, by rw [HN.out]⟩
            case measure => simp [intOf]; omega
          · have HN := Lib.hid ((long_no2 hp (by rw [hB]; omega) (by rw [hB, hla]; exact hsz)).trans hB)
            rw [hB]
            clear hB hp hc hq hla
            have hd1 : decide ((q.size : Int) < p.size) = false := by simpa using hsz
            have hd2 : decide (q.size < p.size) = false := by simpa using hsz
            go_wp2_with (go_at_call 13; refine (prefix_any _ _ _).mono ?_; rintro e w' ⟨rfl, rfl⟩)
            go_round
            case rel => exact ⟨k + 1, by omega, by go_num, by rw [HN.out]⟩
            case measure => simp [intOf]; omega
    · obtain rfl : n = k := by omega
      go_wp2_with fail
      go_ret
      exact ⟨rfl, rfl⟩

end Dg
end Go.Proofs.Ytohcdkkneikjmaa
