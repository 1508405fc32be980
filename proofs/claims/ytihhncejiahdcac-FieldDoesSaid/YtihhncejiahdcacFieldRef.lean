/- The reference's functions of chapter 3. -/
import Derived.Test.YtihhncejiahdcacFieldLawsW
namespace Go.Proofs.Ytihhncejiahdcac.Field
open Go Go.RowKit
set_option linter.unusedVariables false

theorem rCheck_any (P : Int) (w : World) : Calls Try.prog 21 #[.agg #[.int .i64 P]] w fun e w' => e = .returned (.int .i64 (chk P)) ∧ Below w.heap.size w w' := by
  by_cases h2 : P < 2
  · rw [chk_no (fun h => by have := h.1; omega)]
    go_enter Try.func21, Try.ntmps21
    go_wp2_with fail
    go_ret
    exact ⟨rfl, (Below.refl _ _).alloc (Nat.le_refl _) _⟩
  · by_cases h3 : 65521 < P
    · rw [chk_no (fun h => by have := h.2.1; omega)]
      go_enter Try.func21, Try.ntmps21
      go_wp2_with fail
      go_ret
      exact ⟨rfl, (Below.refl _ _).alloc (Nat.le_refl _) _⟩
    · have hd1 : decide (P < 2) = false := by simp; omega
      have hd2 : decide ((65521 : Int) < P) = false := by simp; omega
      have hP0 : 2 ≤ P := by omega
      have hP1 : P ≤ 65521 := by omega
      clear h2 h3
      go_enter Try.func21, Try.ntmps21
      go_wp2_with fail
      go_loopg [3] 255 (fun gk i wr => DRel P (w.alloc (.cells #[.int .i64 P] 27)) gk i wr)
      case atStart => exact ⟨2, rfl, by decide, rfl, fun e h1 h2 => by omega, rfl⟩
      case round =>
        obtain ⟨d, hg, hd2', rfl, hall, rfl⟩ := hrel
        have hsq := sq_bound (d := d) (by omega)
        obtain ⟨hs1, hs2⟩ := hsq
        have Hall := Lib.hid hall
        clear hall
        by_cases hlt : (d : Int) * d ≤ P
        · have hd255 := sq_small hlt hP1
          by_cases hm : P % (d : Int) = 0
          · have hq : (P % (d : Int) == 0) = true := by simp [hm]
            have hv := Valid.found hd2' hlt hm
            clear hm
            go_wp2_with fail
            go_ret
            exact ⟨by rw [chk_no hv]; rfl, (Below.refl _ _).alloc (Nat.le_refl _) _⟩
          · have hq : (P % (d : Int) == 0) = false := by simp [hm]
            have Hm := Lib.hid hm
            clear hm
            go_wp2_with fail
            go_roundg (gk - 1)
            case measure => omega
            case rel => exact ⟨d + 1, by omega, by omega, by go_num, fun e h1 h2 => by
                  rcases Nat.lt_or_ge e d with h | h
                  · exact Hall.out e h1 h
                  · obtain rfl : e = d := by omega
                    exact Hm.out, rfl⟩
        · have hv := Valid.none hP0 hP1 (by omega) Hall.out
          go_wp2_with fail
          go_ret
          exact ⟨by rw [chk_yes hv]; rfl, (Below.refl _ _).alloc (Nat.le_refl _) _⟩

theorem rCheck_yes {P : Int} (h : Valid P) (w : World) : Calls Try.prog 21 #[.agg #[.int .i64 P]] w fun e w' => e = .returned (.int .i64 0) ∧ Below w.heap.size w w' := by
  have := rCheck_any P w; rwa [chk_yes h] at this
theorem rCheck_no {P : Int} (h : ¬ Valid P) (w : World) : Calls Try.prog 21 #[.agg #[.int .i64 P]] w fun e w' => e = .returned (.int .i64 9) ∧ Below w.heap.size w w' := by
  have := rCheck_any P w; rwa [chk_no h] at this

theorem rReduce_any (P n : Int) (w : World) (n0 : -9223372036854775808 ≤ n) (n1 : n ≤ 9223372036854775807) :
    Calls Try.prog 30 #[.agg #[.int .i64 P], .int .i64 n] w fun e w' => e = .returned (.tuple #[.int .i64 (redR P n).1, .int .i64 (redR P n).2]) ∧ Below w.heap.size w w' := by
  have hb := (Below.refl w.heap.size w).alloc (Nat.le_refl _) (.cells #[.int .i64 P] 27)
  by_cases h : Valid P
  · rw [show redR P n = (n % P, 0) from if_pos h]
    have hP := h.1
    have hP2 := h.2.1
    have h1 := tmod_range n (show 0 < P by omega)
    have h3 : (n.tmod P + P).tmod P = n % P := by rw [Int.tmod_eq_emod_of_nonneg (by omega), tmod_fix n (by omega)]
    have h3a := h1.1
    have h3b := h1.2
    have hz1 : (P == 0) = false := beq_eq_false_iff_ne.2 (by omega)
    have hz2 : ¬ P = 0 := by omega
    have hw1 : IntKind.i64.wrap (n.tmod P + P) = n.tmod P + P := IntWalk.i64_in _ (by omega)
    have HC := Lib.hid (fun W => rCheck_yes h W)
    clear h h1
    go_enter Try.func30, Try.ntmps30
    go_wp2_with fail
    refine (HC.out _).mono ?_
    rintro e w' ⟨rfl, hb'⟩
    have hc : w'.cell? ⟨w.heap.size, 0, none⟩ = some (.int .i64 P) := by rw [hb'.cell (p := ⟨w.heap.size, 0, none⟩) (by simp)]; simp
    have HB := Lib.hid (hb.trans (hb'.mono hb.size))
    clear hb'
    go_wp2_with fail
    go_quiet (fail)
    go_wp2_with fail
    go_ret2
    exact ⟨rfl, below_drewN HB.out _⟩
  · rw [show redR P n = (0, 9) from if_neg h]
    go_enter Try.func30, Try.ntmps30
    go_wp2_with fail
    refine (rCheck_no h _).mono ?_
    rintro e w' ⟨rfl, hb'⟩
    go_wp2_with fail
    go_ret2
    exact ⟨rfl, hb.trans (hb'.mono hb.size)⟩

def RInRel (P : Int) (l : List Int) (w : World) (gk : Nat) (v : Value) (wr : World) : Prop :=
  ∃ i : Nat, gk + i = l.length ∧ v = .int .i64 i ∧ (∀ j (h : j < l.length), j < i → hasB P l[j] = true) ∧ wr = w

theorem rIn_any (P : Int) (l : List Int) (a : Option Addr) (c : Nat) (B : Nat) (w : World) (hr : Rd w B 1 (.slice a l.length c) l.length (l.map (Value.int .i64))) (hl : l.length ≤ 4611686018427387904) (hB : B ≤ w.heap.size) :
    Calls Try.prog 23 #[.agg #[.int .i64 P], .slice a l.length c] w fun e w' => e = .returned (.bool (inB P l)) ∧ Below w.heap.size w w' := by
  have hb := (Below.refl w.heap.size w).alloc (Nat.le_refl _) (.cells #[.int .i64 P] 27)
  by_cases h : Valid P
  · rw [show inB P l = allB P l from if_pos h]
    have HC := Lib.hid (fun W => rCheck_yes h W)
    have HR := Lib.hid hr
    clear hr
    go_enter Try.func23, Try.ntmps23
    go_wp2_with fail
    refine (HC.out _).mono ?_
    rintro e w' ⟨rfl, hb'⟩
    have hc : w'.cell? ⟨w.heap.size, 0, none⟩ = some (.int .i64 P) := by rw [hb'.cell (p := ⟨w.heap.size, 0, none⟩) (by simp)]; simp
    have hb2 := hb.trans (hb'.mono hb.size)
    have HR2 := Lib.hid (HR.out.below hb2 hB)
    have HB := Lib.hid hb2
    clear hb' hb2
    go_wp2_with fail
    go_loopg [12] l.length (fun gk v wr => RInRel P l w' gk v wr)
    case atStart => exact ⟨0, rfl, rfl, (fun j _ h => by omega), rfl⟩
    case round =>
      obtain ⟨i, hg, rfl, hall, rfl⟩ := hrel
      have HA := Lib.hid hall
      clear hall
      by_cases hlt : i < l.length
      · obtain ⟨gb, off, rfl, hgb, hat⟩ : ∃ gb off, a = some ⟨gb, off, none⟩ ∧ gb < B ∧ wr.rangeAt gb off (l.map (Value.int .i64)) := by
          rcases HR2.out.addr with h0 | h0
          · omega
          · exact h0
        have hck : wr.cell? ⟨gb, off + i, none⟩ = some (.int .i64 l[i]) := hat i _ (by simp [hlt])
        have hx0 : ∃ x, x = l[i] := ⟨_, rfl⟩
        obtain ⟨x, hx⟩ := hx0
        rw [← hx] at hck
        have HX := Lib.hid hx
        have HAT := Lib.hid hat
        clear hx hat
        by_cases h1 : x < 0
        · have hq : decide (x < 0) = true := decide_eq_true h1
          have hall : allB P l = false := by
            unfold allB
            rw [List.all_eq_false]
            exact ⟨l[i], List.getElem_mem hlt, by rw [← HX.out]; unfold hasB; simp; omega⟩
          have HALL := Lib.hid hall
          clear hall
          go_wp2_with fail
          go_ret
          exact ⟨by rw [HALL.out]; rfl, HB.out⟩
        · have hq : decide (x < 0) = false := decide_eq_false h1
          by_cases h2 : P ≤ x
          · have hq2 : decide (P ≤ x) = true := decide_eq_true h2
            have hall : allB P l = false := by
              unfold allB
              rw [List.all_eq_false]
              exact ⟨l[i], List.getElem_mem hlt, by rw [← HX.out]; unfold hasB; simp; omega⟩
            have HALL := Lib.hid hall
            clear hall
            go_wp2_with fail
            go_ret
            exact ⟨by rw [HALL.out]; rfl, HB.out⟩
          · have hq2 : decide (P ≤ x) = false := decide_eq_false h2
            have hyes : hasB P x = true := by unfold hasB; simp; omega
            have HY := Lib.hid hyes
            clear hyes
            go_wp2_with fail
            go_roundg (gk - 1)
            case measure => omega
            case rel =>
              refine ⟨i + 1, by omega, by go_num, fun j hj hji => ?_, rfl⟩
              rcases Nat.lt_or_ge j i with h | h
              · exact HA.out j hj h
              · obtain rfl : j = i := by omega
                rw [← HX.out]; exact HY.out
      · have hall : allB P l = true := by
          unfold allB
          rw [List.all_eq_true]
          intro y hy
          obtain ⟨j, hj, rfl⟩ := List.getElem_of_mem hy
          exact HA.out j hj (by omega)
        have HALL := Lib.hid hall
        clear hall
        go_wp2_with fail
        go_ret
        exact ⟨by rw [HALL.out]; rfl, HB.out⟩
  · rw [show inB P l = false from if_neg h]
    go_enter Try.func23, Try.ntmps23
    go_wp2_with fail
    refine (rCheck_no h _).mono ?_
    rintro e w' ⟨rfl, hb'⟩
    go_wp2_with fail
    go_ret
    exact ⟨rfl, hb.trans (hb'.mono hb.size)⟩

theorem rd_one (w : World) (t : TypeId) (a : Int) : Rd (w.alloc (.cells #[.int .i64 a] t)) (w.heap.size + 1) 1 (.slice (some ⟨w.heap.size, 0, none⟩) 1 1) 1 ([a].map (Value.int .i64)) := by
  refine ⟨rfl, _, _, rfl, Nat.le_refl _, by decide, fun _ => ⟨w.heap.size, 0, rfl, Nat.lt_succ_self _, fun j u hu => ?_⟩⟩
  rw [Nat.zero_add, World.cell?_alloc_new]
  match j, hu with
  | 0, hu => exact hu
theorem rIn_two (P a b : Int) (w : World) : Calls Try.prog 23 #[.agg #[.int .i64 P], .slice (some ⟨w.heap.size, 0, none⟩) 2 2] (w.alloc (.cells #[.int .i64 a, .int .i64 b] 3)) fun e w' => e = .returned (.bool (inB P [a, b])) ∧ Below w.heap.size w w' :=
  (rIn_any P [a, b] (some ⟨w.heap.size, 0, none⟩) 2 (w.heap.size + 1) _ (rd_two w 3 a b) (by simp) (by simp)).mono fun e w' ⟨he, hb⟩ => ⟨he, ((Below.refl w.heap.size w).alloc (Nat.le_refl _) _).trans (hb.mono (by simp))⟩
theorem rIn_one (P a : Int) (w : World) : Calls Try.prog 23 #[.agg #[.int .i64 P], .slice (some ⟨w.heap.size, 0, none⟩) 1 1] (w.alloc (.cells #[.int .i64 a] 3)) fun e w' => e = .returned (.bool (inB P [a])) ∧ Below w.heap.size w w' :=
  (rIn_any P [a] (some ⟨w.heap.size, 0, none⟩) 1 (w.heap.size + 1) _ (rd_one w 3 a) (by simp) (by simp)).mono fun e w' ⟨he, hb⟩ => ⟨he, ((Below.refl w.heap.size w).alloc (Nat.le_refl _) _).trans (hb.mono (by simp))⟩
theorem inB_two {P a b : Int} : inB P [a, b] = true ↔ Valid P ∧ hasB P a = true ∧ hasB P b = true := by
  unfold inB
  by_cases h : Valid P
  · rw [if_pos h]; simp [allB, h]
  · rw [if_neg h]; simp [h]

end Go.Proofs.Ytihhncejiahdcac.Field
