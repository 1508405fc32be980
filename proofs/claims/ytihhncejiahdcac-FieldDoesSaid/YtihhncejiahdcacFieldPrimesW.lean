/- The sanity check of the statements about field; FieldPrimes, walked. -/
import Derived.Test.YtihhncejiahdcacFieldFns
namespace Go.Proofs.Ytihhncejiahdcac.Field
open Go Go.RowKit
set_option linter.unusedVariables false

def IsTrue (w : World) (e : Ending) (w' : World) : Prop := e = .returned (.bool true) ∧ Below w.heap.size w w'

theorem valid7 : Valid 7 := by
  refine ⟨by decide, by decide, by decide, fun d h1 h2 => ?_⟩
  have h2' : d < 7 := h2
  have : d = 2 ∨ d = 3 ∨ d = 4 ∨ d = 5 ∨ d = 6 := by omega
  rcases this with rfl | rfl | rfl | rfl | rfl <;> decide
theorem valid9 : ¬ Valid 9 := fun h => h.2.2.2 3 (by decide) (by decide) (by decide)
theorem pow7a : powR 7 3 (-1) = (5, 0) := by unfold powR; rw [if_pos ⟨valid7, by decide⟩, if_neg (by decide), if_neg (by decide)]; rfl
theorem pow7b : powR 7 3 (-2) = (4, 0) := by unfold powR; rw [if_pos ⟨valid7, by decide⟩, if_neg (by decide), if_neg (by decide)]; rfl
theorem in7 : inB 7 [0, 6] = true := by unfold inB; rw [if_pos valid7]; rfl

theorem rd_two (w : World) (t : TypeId) (a b : Int) : Rd (w.alloc (.cells #[.int .i64 a, .int .i64 b] t)) (w.heap.size + 1) 1 (.slice (some ⟨w.heap.size, 0, none⟩) 2 2) 2 ([a, b].map (Value.int .i64)) := by
  refine ⟨rfl, _, _, rfl, Nat.le_refl _, by decide, fun _ => ⟨w.heap.size, 0, rfl, Nat.lt_succ_self _, fun j u hu => ?_⟩⟩
  rw [Nat.zero_add, World.cell?_alloc_new]
  match j, hu with
  | 0, hu => exact hu
  | 1, hu => exact hu

theorem sane_any (w : World) : Calls Try.prog 8 #[] w (IsTrue w) := by
  have i1 := fun W => fInverse_any 7 3 W
  simp only [pow7a] at i1
  have i2 := fun W => fPower_any 7 3 (-2) W (by decide) (by decide)
  simp only [pow7b] at i2
  have i3 := fun W => fCheck_any 9 W
  simp only [chk_no valid9] at i3
  have I1 := Lib.hid i1
  have I2 := Lib.hid i2
  have I3 := Lib.hid i3
  clear i1 i2 i3
  go_enter Try.func8, Try.ntmps8
  go_wp2_with fail
  have hb0 := (Below.refl w.heap.size w).alloc (Nat.le_refl _) (.cells #[.int .i64 7] 27)
  refine (I1.out _).mono ?_
  rintro e w1 ⟨rfl, hb1⟩
  have hb1' := hb0.trans (hb1.mono hb0.size)
  have hc1 : w1.cell? ⟨w.heap.size, 0, none⟩ = some (.int .i64 7) := by rw [hb1.cell (p := ⟨w.heap.size, 0, none⟩) (by simp)]; simp
  go_wp2_with fail
  refine (I2.out _).mono ?_
  rintro e w2 ⟨rfl, hb2⟩
  have hb2' := hb1'.trans (hb2.mono hb1'.size)
  have hsz1 := hb1.size
  simp only [World.size_alloc] at hsz1
  have hc2 : w2.cell? ⟨w.heap.size, 0, none⟩ = some (.int .i64 7) := by rw [hb2.cell (p := ⟨w.heap.size, 0, none⟩) (by show w.heap.size < _; omega)]; exact hc1
  go_wp2_with fail
  refine (I3.out _).mono ?_
  rintro e w3 ⟨rfl, hb3⟩
  have hb3' := hb2'.trans (hb3.mono hb2'.size)
  have hsz2 := hb2.size
  have hsz3 := hb3.size
  have hc3 : w3.cell? ⟨w.heap.size, 0, none⟩ = some (.int .i64 7) := by rw [hb3.cell (p := ⟨w.heap.size, 0, none⟩) (by show w.heap.size < _; omega)]; exact hc2
  go_wp2_with fail
  have hr := rd_two w3 3 0 6
  have i4 := fIn_any 7 [0, 6] (some ⟨w3.heap.size, 0, none⟩) 2 (w3.heap.size + 1) _ hr (by decide) (by simp)
  rw [in7] at i4
  refine i4.mono ?_
  rintro e w4 ⟨rfl, hb4⟩
  have hb4' := (hb3'.alloc hb3'.size (.cells #[.int .i64 0, .int .i64 6] 3)).trans (hb4.mono (by simp; omega))
  go_wp2_with fail
  go_ret
  exact ⟨rfl, hb4'⟩
def NRel (p : Int) (w : World) (gk : Nat) (v4 v5 : Value) (wr : World) : Prop :=
  ∃ (b : Bool) (d : Nat), gk + d = 302 ∧ 2 ≤ d ∧ v4 = .bool b ∧ v5 = .int .i64 d ∧ (b = true → 2 ≤ p ∧ p ≤ 65521 ∧ ∀ e : Nat, 2 ≤ e → e < d → p % (e : Int) ≠ 0) ∧ (b = false → ¬ Valid p) ∧ wr = w
theorem valid_below {p : Int} {d : Nat} (h0 : 2 ≤ p) (h1 : p ≤ 65521) (hd : p ≤ d) (h : ∀ e : Nat, 2 ≤ e → e < d → p % (e : Int) ≠ 0) : Valid p := by
  refine ⟨h0, h1, ?_⟩
  obtain ⟨q, rfl⟩ := Int.eq_ofNat_of_zero_le (show 0 ≤ p by omega)
  rw [Int.toNat_natCast]
  exact ⟨by omega, fun e he hlt hm => h e he (by omega) (by rw [← Int.natCast_emod, hm]; rfl)⟩

theorem chkY {p : Int} (h : Valid p) (w : World) : Calls Try.prog 9 #[.agg #[.int .i64 p]] w fun e w' => e = .returned (.int .i64 0) ∧ Below w.heap.size w w' := by
  have := fCheck_any p w; rwa [chk_yes h] at this
theorem chkN {p : Int} (h : ¬ Valid p) (w : World) : Calls Try.prog 9 #[.agg #[.int .i64 p]] w fun e w' => e = .returned (.int .i64 9) ∧ Below w.heap.size w w' := by
  have := fCheck_any p w; rwa [chk_no h] at this

set_option maxRecDepth 100000 in
set_option maxHeartbeats 400000 in
theorem primes_walk (w : World) (n : Int) (n0 : 0 ≤ n) (n1 : n ≤ 65535) : Calls Try.prog 3 #[.int .u16 n] w (IsTrue w) := by
  by_cases h0 : 2 ≤ n ∧ n ≤ 65521
  · obtain ⟨h2, h3⟩ := h0
    go_enter Try.func3, Try.ntmps3
    go_wp2_with fail
    refine (sane_any _).mono ?_
    rintro e w1 ⟨rfl, hb1⟩
    go_wp2_with fail
    go_loopg [4, 5] 300 (fun gk v4 v5 wr => NRel n w1 gk v4 v5 wr)
    case atStart => exact ⟨true, 2, rfl, by decide, rfl, rfl, fun _ => ⟨h2, h3, (fun e h1 h2 => by omega)⟩, (fun h => by cases h), rfl⟩
    case round =>
      obtain ⟨b, d, hg, hd, rfl, rfl, ht, hf, rfl⟩ := hrel
      have HT := Lib.hid ht
      have HF := Lib.hid hf
      clear ht hf
      cases b with
      | true =>
        by_cases hlt : (d : Int) < n
        · by_cases hlt3 : d < 300
          · by_cases hm : n % (d : Int) = 0
            · have hq : (n % (d : Int) != 0) = false := by simp [hm]
              have hv : ¬ Valid n := fun h => h.2.2.2 d hd (by omega) (by have := h.1; obtain ⟨q, rfl⟩ := Int.eq_ofNat_of_zero_le (show 0 ≤ n by omega); rw [← Int.natCast_emod] at hm; simp; omega)
              clear hm
              go_wp2_with fail
              go_roundg (gk - 1)
              case measure => omega
              case rel => exact ⟨false, d + 1, by omega, by omega, by rfl, by go_num, (fun h => by cases h), fun _ => hv, rfl⟩
            · have hq : (n % (d : Int) != 0) = true := by simp [hm]
              have HM := Lib.hid hm
              clear hm
              go_wp2_with fail
              go_roundg (gk - 1)
              case measure => omega
              case rel =>
                refine ⟨true, d + 1, by omega, by omega, by rfl, by go_num, fun _ => ⟨h2, h3, fun e he hlt => ?_⟩, (fun h => by cases h), rfl⟩
                rcases Nat.lt_or_ge e d with h | h
                · exact (HT.out (by trivial)).2.2 e he h
                · obtain rfl : e = d := by omega
                  exact HM.out
          · have hv : Valid n := Valid.none h2 h3 (d := d) (by have : 300 * 300 ≤ d * d := Nat.mul_le_mul (by omega) (by omega); rw [← Int.natCast_mul]; omega) (HT.out (by trivial)).2.2
            go_wp2_with fail
            refine (chkY hv _).mono ?_
            rintro e w2 ⟨rfl, hb2⟩
            go_wp2_with fail
            go_ret
            exact ⟨rfl, hb1.trans (hb2.mono hb1.size)⟩
        · have hv : Valid n := valid_below h2 h3 (d := d) (by omega) (HT.out (by trivial)).2.2
          go_wp2_with fail
          refine (chkY hv _).mono ?_
          rintro e w2 ⟨rfl, hb2⟩
          go_wp2_with fail
          go_ret
          exact ⟨rfl, hb1.trans (hb2.mono hb1.size)⟩
      | false =>
        have hv := HF.out (by trivial)
        by_cases hlt : (d : Int) < n
        · by_cases hlt3 : d < 300
          · go_wp2_with fail
            refine (chkN hv _).mono ?_
            rintro e w2 ⟨rfl, hb2⟩
            go_wp2_with fail
            go_ret
            exact ⟨rfl, hb1.trans (hb2.mono hb1.size)⟩
          · go_wp2_with fail
            refine (chkN hv _).mono ?_
            rintro e w2 ⟨rfl, hb2⟩
            go_wp2_with fail
            go_ret
            exact ⟨rfl, hb1.trans (hb2.mono hb1.size)⟩
        · go_wp2_with fail
          refine (chkN hv _).mono ?_
          rintro e w2 ⟨rfl, hb2⟩
          go_wp2_with fail
          go_ret
          exact ⟨rfl, hb1.trans (hb2.mono hb1.size)⟩
  · have hv : ¬ Valid n := fun h => h0 ⟨h.1, h.2.1⟩
    have hstart : ∀ (w1 : World), NRel n w1 300 (.bool false) (.int .i64 (2 : Nat)) w1 := fun w1 => ⟨false, 2, rfl, by decide, rfl, rfl, (fun h => by cases h), fun _ => hv, rfl⟩
    have HS := Lib.hid hstart
    clear hstart
    by_cases h2 : n < 2
    · go_enter Try.func3, Try.ntmps3
      go_wp2_with fail
      refine (sane_any _).mono ?_
      rintro e w1 ⟨rfl, hb1⟩
      go_wp2_with fail
      go_loopg [4, 5] 300 (fun gk v4 v5 wr => NRel n w1 gk v4 v5 wr ∧ v4 = .bool false)
      case atStart => exact ⟨HS.out w1, rfl⟩
      case round =>
        obtain ⟨⟨b, d, hg, hd, hbb, rfl, ht, hf, rfl⟩, rfl⟩ := hrel
        clear hbb ht hf
        by_cases hlt : (d : Int) < n
        · exact absurd hlt (by omega)
        · go_wp2_with fail
          refine (chkN hv _).mono ?_
          rintro e w2 ⟨rfl, hb2⟩
          go_wp2_with fail
          go_ret
          exact ⟨rfl, hb1.trans (hb2.mono hb1.size)⟩
    · have h3 : 65521 < n := by omega
      have hle : decide (n ≤ 65521) = false := decide_eq_false (by omega)
      go_enter Try.func3, Try.ntmps3
      go_wp2_with fail
      refine (sane_any _).mono ?_
      rintro e w1 ⟨rfl, hb1⟩
      go_wp2_with fail
      go_loopg [4, 5] 300 (fun gk v4 v5 wr => NRel n w1 gk v4 v5 wr ∧ v4 = .bool false)
      case atStart => exact ⟨HS.out w1, rfl⟩
      case round =>
        obtain ⟨⟨b, d, hg, hd, hbb, rfl, ht, hf, rfl⟩, rfl⟩ := hrel
        clear hbb ht hf
        by_cases hlt : (d : Int) < n
        · by_cases hlt3 : d < 300
          · go_wp2_with fail
            refine (chkN hv _).mono ?_
            rintro e w2 ⟨rfl, hb2⟩
            go_wp2_with fail
            go_ret
            exact ⟨rfl, hb1.trans (hb2.mono hb1.size)⟩
          · go_wp2_with fail
            refine (chkN hv _).mono ?_
            rintro e w2 ⟨rfl, hb2⟩
            go_wp2_with fail
            go_ret
            exact ⟨rfl, hb1.trans (hb2.mono hb1.size)⟩
        · exact absurd (show (d : Int) < n by omega) hlt
end Go.Proofs.Ytihhncejiahdcac.Field
