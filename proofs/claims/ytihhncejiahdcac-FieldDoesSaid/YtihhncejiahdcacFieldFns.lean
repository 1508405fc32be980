/- The functions of package field. -/
import Derived.Test.YtihhncejiahdcacFieldAll
namespace Go.Proofs.Ytihhncejiahdcac.Field
open Go Go.RowKit
set_option linter.unusedVariables false

theorem of_yes {P : Int} (h : Valid P) (w : World) : Calls Try.prog 31 #[.agg #[.int .i64 P]] w fun e w' => e = .returned (.tuple #[.int .i64 P, .bool true]) ∧ Below w.heap.size w w' :=
  (of_any P w).mono fun e w' ⟨q, b, he, hc, hb⟩ => by
    rcases hc with ⟨rfl, rfl, _⟩ | ⟨_, _, hn⟩
    · exact ⟨he, hb⟩
    · exact absurd h hn
theorem of_no {P : Int} (h : ¬ Valid P) (w : World) : Calls Try.prog 31 #[.agg #[.int .i64 P]] w fun e w' => e = .returned (.tuple #[.int .i64 0, .bool false]) ∧ Below w.heap.size w w' :=
  (of_any P w).mono fun e w' ⟨q, b, he, hc, hb⟩ => by
    rcases hc with ⟨_, _, hv⟩ | ⟨rfl, rfl, _⟩
    · exact absurd hv h
    · exact ⟨he, hb⟩

open Classical in
noncomputable def chk (P : Int) : Int := if Valid P then 0 else 9
theorem chk_yes {P : Int} (h : Valid P) : chk P = 0 := if_pos h
theorem chk_no {P : Int} (h : ¬ Valid P) : chk P = 9 := if_neg h

theorem fCheck_any (P : Int) (w : World) : Calls Try.prog 9 #[.agg #[.int .i64 P]] w fun e w' => e = .returned (.int .i64 (chk P)) ∧ Below w.heap.size w w' := by
  have hb := (Below.refl w.heap.size w).alloc (Nat.le_refl _) (.cells #[.int .i64 P] 27)
  by_cases h : Valid P
  · rw [chk_yes h]
    go_enter Try.func9, Try.ntmps9
    go_wp2_with fail
    refine (of_yes h _).mono ?_
    rintro e w' ⟨rfl, hb'⟩
    go_wp2_with fail
    go_ret
    exact ⟨rfl, hb.trans (hb'.mono hb.size)⟩
  · rw [chk_no h]
    go_enter Try.func9, Try.ntmps9
    go_wp2_with fail
    refine (of_no h _).mono ?_
    rintro e w' ⟨rfl, hb'⟩
    go_wp2_with fail
    go_ret
    exact ⟨rfl, hb.trans (hb'.mono hb.size)⟩

open Classical in
noncomputable def inB (P : Int) (l : List Int) : Bool := if Valid P then allB P l else false
theorem fIn_any (P : Int) (l : List Int) (a : Option Addr) (c : Nat) (B : Nat) (w : World) (hr : Rd w B 1 (.slice a l.length c) l.length (l.map (Value.int .i64))) (hl : l.length ≤ 4611686018427387904) (hB : B ≤ w.heap.size) :
    Calls Try.prog 22 #[.agg #[.int .i64 P], .slice a l.length c] w fun e w' => e = .returned (.bool (inB P l)) ∧ Below w.heap.size w w' := by
  have hb := (Below.refl w.heap.size w).alloc (Nat.le_refl _) (.cells #[.int .i64 P] 27)
  by_cases h : Valid P
  · rw [show inB P l = allB P l from if_pos h]
    go_enter Try.func22, Try.ntmps22
    go_wp2_with fail
    refine (of_yes h _).mono ?_
    rintro e w' ⟨rfl, hb'⟩
    have hb2 := hb.trans (hb'.mono hb.size)
    go_wp2_with fail
    refine (pAll_any P l a c B w' (hr.below hb2 hB) hl (Nat.le_trans hB hb2.size)).mono ?_
    rintro e w2 ⟨rfl, hb3⟩
    go_wp2_with fail
    go_ret
    exact ⟨rfl, hb2.trans (hb3.mono hb2.size)⟩
  · rw [show inB P l = false from if_neg h]
    go_enter Try.func22, Try.ntmps22
    go_wp2_with fail
    refine (of_no h _).mono ?_
    rintro e w' ⟨rfl, hb'⟩
    go_wp2_with fail
    go_ret
    exact ⟨rfl, hb.trans (hb'.mono hb.size)⟩


open Classical in
noncomputable def addR (P a b : Int) : Int × Int := if Valid P ∧ hasB P a = true ∧ hasB P b = true then ((a + b) % P, 0) else (0, 9)
theorem fAdd_any (P a b : Int) (w : World) : Calls Try.prog 17 #[.agg #[.int .i64 P], .int .i64 a, .int .i64 b] w fun e w' => e = .returned (.tuple #[.int .i64 (addR P a b).1, .int .i64 (addR P a b).2]) ∧ Below w.heap.size w w' := by
  have hb := (Below.refl w.heap.size w).alloc (Nat.le_refl _) (.cells #[.int .i64 P] 27)
  by_cases h : Valid P
  · cases ha : hasB P a with
    | false =>
      rw [show addR P a b = (0, 9) from if_neg (by rw [ha]; simp)]
      have HA := Lib.hid ha
      clear ha
      go_enter Try.func17, Try.ntmps17
      go_wp2_with fail
      refine (of_yes h _).mono ?_
      rintro e w' ⟨rfl, hb'⟩
      have hb2 := hb.trans (hb'.mono hb.size)
      go_wp2_with fail
      refine (pHas_any P a w').mono ?_
      rw [HA.out]
      rintro e w2 ⟨rfl, rfl⟩
      go_wp2_with fail
      go_ret2
      exact ⟨rfl, hb2⟩
    | true =>
      cases hbb : hasB P b with
      | false =>
        rw [show addR P a b = (0, 9) from if_neg (by rw [hbb]; simp)]
        have HA := Lib.hid ha
        have HB := Lib.hid hbb
        clear ha hbb
        go_enter Try.func17, Try.ntmps17
        go_wp2_with fail
        refine (of_yes h _).mono ?_
        rintro e w' ⟨rfl, hb'⟩
        have hb2 := hb.trans (hb'.mono hb.size)
        go_wp2_with fail
        refine (pHas_any P a w').mono ?_
        rw [HA.out]
        rintro e w2 ⟨rfl, rfl⟩
        go_wp2_with fail
        refine (pHas_any P b w').mono ?_
        rw [HB.out]
        rintro e w2 ⟨rfl, rfl⟩
        go_wp2_with fail
        go_ret2
        exact ⟨rfl, hb2⟩
      | true =>
        rw [show addR P a b = ((a + b) % P, 0) from if_pos ⟨h, ha, hbb⟩]
        have ha' : 0 ≤ a ∧ a < P := by simpa [hasB] using ha
        have hb' : 0 ≤ b ∧ b < P := by simpa [hasB] using hbb
        have h1 := h.1
        have h2 := h.2.1
        have HA := Lib.hid ha
        have HB := Lib.hid hbb
        clear ha hbb
        go_enter Try.func17, Try.ntmps17
        go_wp2_with fail
        refine (of_yes h _).mono ?_
        rintro e w' ⟨rfl, hb1⟩
        have hb2 := hb.trans (hb1.mono hb.size)
        go_wp2_with fail
        refine (pHas_any P a w').mono ?_
        rw [HA.out]
        rintro e w2 ⟨rfl, rfl⟩
        go_wp2_with fail
        refine (pHas_any P b w').mono ?_
        rw [HB.out]
        rintro e w2 ⟨rfl, rfl⟩
        go_wp2_with fail
        refine (pAdd_any P a b w' (by omega) h2 ha'.1 ha'.2 hb'.1 hb'.2).mono ?_
        rintro e w2 ⟨rfl, rfl⟩
        go_wp2_with fail
        go_ret2
        exact ⟨rfl, hb2⟩
  · rw [show addR P a b = (0, 9) from if_neg (fun hh => h hh.1)]
    go_enter Try.func17, Try.ntmps17
    go_wp2_with fail
    refine (of_no h _).mono ?_
    rintro e w' ⟨rfl, hb'⟩
    go_wp2_with fail
    go_ret2
    exact ⟨rfl, hb.trans (hb'.mono hb.size)⟩

open Classical in
noncomputable def subR (P a b : Int) : Int × Int := if Valid P ∧ hasB P a = true ∧ hasB P b = true then ((a - b) % P, 0) else (0, 9)
theorem fSub_any (P a b : Int) (w : World) : Calls Try.prog 18 #[.agg #[.int .i64 P], .int .i64 a, .int .i64 b] w fun e w' => e = .returned (.tuple #[.int .i64 (subR P a b).1, .int .i64 (subR P a b).2]) ∧ Below w.heap.size w w' := by
  have hb := (Below.refl w.heap.size w).alloc (Nat.le_refl _) (.cells #[.int .i64 P] 27)
  by_cases h : Valid P
  · cases ha : hasB P a with
    | false =>
      rw [show subR P a b = (0, 9) from if_neg (by rw [ha]; simp)]
      have HA := Lib.hid ha
      clear ha
      go_enter Try.func18, Try.ntmps18
      go_wp2_with fail
      refine (of_yes h _).mono ?_
      rintro e w' ⟨rfl, hb'⟩
      have hb2 := hb.trans (hb'.mono hb.size)
      go_wp2_with fail
      refine (pHas_any P a w').mono ?_
      rw [HA.out]
      rintro e w2 ⟨rfl, rfl⟩
      go_wp2_with fail
      go_ret2
      exact ⟨rfl, hb2⟩
    | true =>
      cases hbb : hasB P b with
      | false =>
        rw [show subR P a b = (0, 9) from if_neg (by rw [hbb]; simp)]
        have HA := Lib.hid ha
        have HB := Lib.hid hbb
        clear ha hbb
        go_enter Try.func18, Try.ntmps18
        go_wp2_with fail
        refine (of_yes h _).mono ?_
        rintro e w' ⟨rfl, hb'⟩
        have hb2 := hb.trans (hb'.mono hb.size)
        go_wp2_with fail
        refine (pHas_any P a w').mono ?_
        rw [HA.out]
        rintro e w2 ⟨rfl, rfl⟩
        go_wp2_with fail
        refine (pHas_any P b w').mono ?_
        rw [HB.out]
        rintro e w2 ⟨rfl, rfl⟩
        go_wp2_with fail
        go_ret2
        exact ⟨rfl, hb2⟩
      | true =>
        rw [show subR P a b = ((a - b) % P, 0) from if_pos ⟨h, ha, hbb⟩]
        have ha' : 0 ≤ a ∧ a < P := by simpa [hasB] using ha
        have hb' : 0 ≤ b ∧ b < P := by simpa [hasB] using hbb
        have h1 := h.1
        have h2 := h.2.1
        have HA := Lib.hid ha
        have HB := Lib.hid hbb
        clear ha hbb
        go_enter Try.func18, Try.ntmps18
        go_wp2_with fail
        refine (of_yes h _).mono ?_
        rintro e w' ⟨rfl, hb1⟩
        have hb2 := hb.trans (hb1.mono hb.size)
        go_wp2_with fail
        refine (pHas_any P a w').mono ?_
        rw [HA.out]
        rintro e w2 ⟨rfl, rfl⟩
        go_wp2_with fail
        refine (pHas_any P b w').mono ?_
        rw [HB.out]
        rintro e w2 ⟨rfl, rfl⟩
        go_wp2_with fail
        refine (pSub_any P a b w' (by omega) h2 ha'.1 ha'.2 hb'.1 hb'.2).mono ?_
        rintro e w2 ⟨rfl, rfl⟩
        go_wp2_with fail
        go_ret2
        exact ⟨rfl, hb2⟩
  · rw [show subR P a b = (0, 9) from if_neg (fun hh => h hh.1)]
    go_enter Try.func18, Try.ntmps18
    go_wp2_with fail
    refine (of_no h _).mono ?_
    rintro e w' ⟨rfl, hb'⟩
    go_wp2_with fail
    go_ret2
    exact ⟨rfl, hb.trans (hb'.mono hb.size)⟩

open Classical in
noncomputable def mulR (P a b : Int) : Int × Int := if Valid P ∧ hasB P a = true ∧ hasB P b = true then (a * b % P, 0) else (0, 9)
theorem fMul_any (P a b : Int) (w : World) : Calls Try.prog 15 #[.agg #[.int .i64 P], .int .i64 a, .int .i64 b] w fun e w' => e = .returned (.tuple #[.int .i64 (mulR P a b).1, .int .i64 (mulR P a b).2]) ∧ Below w.heap.size w w' := by
  have hb := (Below.refl w.heap.size w).alloc (Nat.le_refl _) (.cells #[.int .i64 P] 27)
  by_cases h : Valid P
  · cases ha : hasB P a with
    | false =>
      rw [show mulR P a b = (0, 9) from if_neg (by rw [ha]; simp)]
      have HA := Lib.hid ha
      clear ha
      go_enter Try.func15, Try.ntmps15
      go_wp2_with fail
      refine (of_yes h _).mono ?_
      rintro e w' ⟨rfl, hb'⟩
      have hb2 := hb.trans (hb'.mono hb.size)
      go_wp2_with fail
      refine (pHas_any P a w').mono ?_
      rw [HA.out]
      rintro e w2 ⟨rfl, rfl⟩
      go_wp2_with fail
      go_ret2
      exact ⟨rfl, hb2⟩
    | true =>
      cases hbb : hasB P b with
      | false =>
        rw [show mulR P a b = (0, 9) from if_neg (by rw [hbb]; simp)]
        have HA := Lib.hid ha
        have HB := Lib.hid hbb
        clear ha hbb
        go_enter Try.func15, Try.ntmps15
        go_wp2_with fail
        refine (of_yes h _).mono ?_
        rintro e w' ⟨rfl, hb'⟩
        have hb2 := hb.trans (hb'.mono hb.size)
        go_wp2_with fail
        refine (pHas_any P a w').mono ?_
        rw [HA.out]
        rintro e w2 ⟨rfl, rfl⟩
        go_wp2_with fail
        refine (pHas_any P b w').mono ?_
        rw [HB.out]
        rintro e w2 ⟨rfl, rfl⟩
        go_wp2_with fail
        go_ret2
        exact ⟨rfl, hb2⟩
      | true =>
        rw [show mulR P a b = (a * b % P, 0) from if_pos ⟨h, ha, hbb⟩]
        have ha' : 0 ≤ a ∧ a < P := by simpa [hasB] using ha
        have hb' : 0 ≤ b ∧ b < P := by simpa [hasB] using hbb
        have h1 := h.1
        have h2 := h.2.1
        have HA := Lib.hid ha
        have HB := Lib.hid hbb
        clear ha hbb
        go_enter Try.func15, Try.ntmps15
        go_wp2_with fail
        refine (of_yes h _).mono ?_
        rintro e w' ⟨rfl, hb1⟩
        have hb2 := hb.trans (hb1.mono hb.size)
        go_wp2_with fail
        refine (pHas_any P a w').mono ?_
        rw [HA.out]
        rintro e w2 ⟨rfl, rfl⟩
        go_wp2_with fail
        refine (pHas_any P b w').mono ?_
        rw [HB.out]
        rintro e w2 ⟨rfl, rfl⟩
        go_wp2_with fail
        refine (pMul_any P a b w' (by omega) h2 ha'.1 ha'.2 hb'.1 hb'.2).mono ?_
        rintro e w2 ⟨rfl, rfl⟩
        go_wp2_with fail
        go_ret2
        exact ⟨rfl, hb2⟩
  · rw [show mulR P a b = (0, 9) from if_neg (fun hh => h hh.1)]
    go_enter Try.func15, Try.ntmps15
    go_wp2_with fail
    refine (of_no h _).mono ?_
    rintro e w' ⟨rfl, hb'⟩
    go_wp2_with fail
    go_ret2
    exact ⟨rfl, hb.trans (hb'.mono hb.size)⟩

/-- The exponent that a negative number stands for. -/
def negE (P n : Int) : Nat := (-(n.tmod (P - 1))).toNat
open Classical in
noncomputable def powR (P a n : Int) : Int × Int :=
  if Valid P ∧ hasB P a = true then
    if 0 ≤ n then (((a.toNat ^ n.toNat % P.toNat : Nat) : Int), 0)
    else if a = 0 then (0, 10)
    else ((((a.toNat ^ (P.toNat - 2) % P.toNat) ^ negE P n % P.toNat : Nat) : Int), 0)
  else (0, 9)
theorem fPower_any (P a n : Int) (w : World) (n0 : -9223372036854775808 ≤ n) (n1 : n ≤ 9223372036854775807) :
    Calls Try.prog 14 #[.agg #[.int .i64 P], .int .i64 a, .int .i64 n] w fun e w' => e = .returned (.tuple #[.int .i64 (powR P a n).1, .int .i64 (powR P a n).2]) ∧ Below w.heap.size w w' := by
  have hb := (Below.refl w.heap.size w).alloc (Nat.le_refl _) (.cells #[.int .i64 P] 27)
  by_cases h : Valid P
  · cases ha : hasB P a with
    | false =>
      rw [show powR P a n = (0, 9) from if_neg (by rw [ha]; simp)]
      have HA := Lib.hid ha
      clear ha
      go_enter Try.func14, Try.ntmps14
      go_wp2_with fail
      refine (of_yes h _).mono ?_
      rintro e w' ⟨rfl, hb'⟩
      have hb2 := hb.trans (hb'.mono hb.size)
      go_wp2_with fail
      refine (pHas_any P a w').mono ?_
      rw [HA.out]
      rintro e w2 ⟨rfl, rfl⟩
      go_wp2_with fail
      go_ret2
      exact ⟨rfl, hb2⟩
    | true =>
      have ha' : 0 ≤ a ∧ a < P := by simpa [hasB] using ha
      obtain ⟨p, rfl⟩ := Int.eq_ofNat_of_zero_le (show 0 ≤ P by omega)
      obtain ⟨q, rfl⟩ := Int.eq_ofNat_of_zero_le ha'.1
      have h1 := h.1
      have h2 := h.2.1
      have hpp : isP p := by simpa using h.2.2
      by_cases hn : 0 ≤ n
      · obtain ⟨m, rfl⟩ := Int.eq_ofNat_of_zero_le hn
        have hR : powR p q m = (((q ^ m % p : Nat) : Int), 0) := by unfold powR; rw [if_pos ⟨h, ha⟩, if_pos hn]; simp
        rw [hR]
        have HA := Lib.hid ha
        clear ha hR
        go_enter Try.func14, Try.ntmps14
        go_wp2_with fail
        refine (of_yes h _).mono ?_
        rintro e w' ⟨rfl, hb1⟩
        have hb2 := hb.trans (hb1.mono hb.size)
        go_wp2_with fail
        refine (pHas_any p q w').mono ?_
        rw [HA.out]
        rintro e w2 ⟨rfl, rfl⟩
        go_wp2_with fail
        refine (pPower_any p q m w' (by omega) (by omega) (by omega) (by omega)).mono ?_
        rintro e w2 ⟨rfl, rfl⟩
        go_wp2_with fail
        go_ret2
        exact ⟨rfl, hb2⟩
      · by_cases hz : q = 0
        · subst hz
          have hR : powR p (0 : Nat) n = (0, 10) := by unfold powR; rw [if_pos ⟨h, ha⟩, if_neg hn]; simp
          rw [hR]
          have HA := Lib.hid ha
          clear ha hR
          go_enter Try.func14, Try.ntmps14
          go_wp2_with fail
          refine (of_yes h _).mono ?_
          rintro e w' ⟨rfl, hb1⟩
          have hb2 := hb.trans (hb1.mono hb.size)
          go_wp2_with fail
          refine (pHas_any p (0 : Nat) w').mono ?_
          rw [HA.out]
          rintro e w2 ⟨rfl, rfl⟩
          go_wp2_with fail
          go_ret2
          exact ⟨rfl, hb2⟩
        · have hR : powR p q n = ((((q ^ (p - 2) % p) ^ negE p n % p : Nat) : Int), 0) := by unfold powR; rw [if_pos ⟨h, ha⟩, if_neg hn, if_neg (by omega)]; simp
          rw [hR]
          have hzq : ((q : Int) == 0) = false := by simp [hz]
          have hq0 : 0 < q := by omega
          have HA := Lib.hid ha
          clear ha hR hz
          by_cases h3 : 2 < p
          · have hlo := tmod_range n (p := (p : Int) - 1) (by omega)
            have hneg : n.tmod ((p : Int) - 1) ≤ 0 := by
              have := Int.tmod_nonneg (a := -n) ((p : Int) - 1) (by omega)
              rw [Int.neg_tmod] at this
              omega
            obtain ⟨ex, hex⟩ := Int.eq_ofNat_of_zero_le (show 0 ≤ -(n.tmod ((p : Int) - 1)) by omega)
            have hE : negE p n = ex := by unfold negE; rw [hex, Int.toNat_natCast]
            rw [hE]
            have het : n.tmod ((p : Int) - 1) = -(ex : Int) := by omega
            have hexb : ex ≤ 65521 := by omega
            have hwx : IntKind.i64.wrap (ex : Int) = ex := IntWalk.i64_in _ (by omega)
            have hz1 : ((p : Int) - 1 == 0) = false := beq_eq_false_iff_ne.2 (by omega)
            have hz2 : ¬ ((p : Int) - 1 = 0) := by omega
            have hinv := fun W => pInverse_any p q W hpp (by omega) hq0 (by omega)
            have hpow := fun W => pPower_any p (q ^ (p - 2) % p) ex W (by omega) (by omega) (Nat.mod_lt _ (by omega)) (by omega)
            have HI := Lib.hid hinv
            have HW := Lib.hid hpow
            clear hinv hpow hE hlo hneg hex
            go_enter Try.func14, Try.ntmps14
            go_wp2_with fail
            refine (of_yes h _).mono ?_
            rintro e w' ⟨rfl, hb1⟩
            have hb2 := hb.trans (hb1.mono hb.size)
            have hc3 : w'.cell? ⟨w.heap.size, 0, none⟩ = some (.int .i64 p) := by rw [hb1.cell (p := ⟨w.heap.size, 0, none⟩) (by simp)]; simp
            go_wp2_with fail
            refine (pHas_any p q w').mono ?_
            rw [HA.out]
            rintro e w2 ⟨rfl, rfl⟩
            go_wp2_with fail
            go_quiet ((first | (go_at_call 34; first | exact quiet_left (HI.out _) | exact quiet_add_left (HI.out _)) | (go_at_call 33; first | exact quiet_left (HW.out _) | exact quiet_add_left (HW.out _))))
            go_wp2_with fail
            go_ret2
            exact ⟨rfl, below_drewN hb2 _⟩
          · obtain rfl : p = 2 := by omega
            obtain rfl : q = 1 := by omega
            have hE : negE (2 : Nat) n = 0 := by unfold negE; simp
            rw [hE]
            have het : n.tmod 1 = 0 := by simp
            have hinv : ∀ W, Calls Try.prog 34 #[.int .i64 2, .int .i64 1] W fun e w' => e = .returned (.int .i64 1) ∧ W = w' := fun W => pInverse_any 2 1 W hpp (by omega) hq0 (by omega)
            have hpow : ∀ W, Calls Try.prog 33 #[.int .i64 2, .int .i64 1, .int .i64 0] W fun e w' => e = .returned (.int .i64 1) ∧ W = w' := fun W => pPower_any 2 1 0 W (by omega) (by omega) (by omega) (by omega)
            have HI := Lib.hid hinv
            have HW := Lib.hid hpow
            have HA' : hasB 2 1 = true := rfl
            have h' : Valid 2 := h
            have hw0 : IntKind.i64.wrap 0 = 0 := rfl
            have hwn : IntKind.i64.wrap (-0) = 0 := rfl
            clear hinv hpow hE HA
            have HA := Lib.hid HA'
            clear HA'
            show Calls Try.prog 14 #[.agg #[.int .i64 2], .int .i64 1, .int .i64 n] w _
            replace hb : Below w.heap.size w (w.alloc (.cells #[.int .i64 2] 27)) := hb
            go_enter Try.func14, Try.ntmps14
            go_wp2_with fail
            refine (of_yes h' _).mono ?_
            rintro e w' ⟨rfl, hb1⟩
            have hb2 := hb.trans (hb1.mono hb.size)
            have hc3 : w'.cell? ⟨w.heap.size, 0, none⟩ = some (.int .i64 2) := by rw [hb1.cell (p := ⟨w.heap.size, 0, none⟩) (by simp)]; simp
            go_wp2_with fail
            refine (pHas_any 2 1 w').mono ?_
            rw [HA.out]
            rintro e w2 ⟨rfl, rfl⟩
            go_wp2_with fail
            go_quiet ((first | (go_at_call 34; first | exact quiet_left (HI.out _) | exact quiet_add_left (HI.out _)) | (go_at_call 33; first | exact quiet_left (HW.out _) | exact quiet_add_left (HW.out _))))
            go_wp2_with fail
            go_ret2
            exact ⟨rfl, below_drewN hb2 _⟩
  · rw [show powR P a n = (0, 9) from if_neg (fun hh => h hh.1)]
    go_enter Try.func14, Try.ntmps14
    go_wp2_with fail
    refine (of_no h _).mono ?_
    rintro e w' ⟨rfl, hb'⟩
    go_wp2_with fail
    go_ret2
    exact ⟨rfl, hb.trans (hb'.mono hb.size)⟩
theorem fInverse_any (P a : Int) (w : World) :
    Calls Try.prog 19 #[.agg #[.int .i64 P], .int .i64 a] w fun e w' => e = .returned (.tuple #[.int .i64 (powR P a (-1)).1, .int .i64 (powR P a (-1)).2]) ∧ Below w.heap.size w w' := by
  have hb := (Below.refl w.heap.size w).alloc (Nat.le_refl _) (.cells #[.int .i64 P] 27)
  go_enter Try.func19, Try.ntmps19
  go_wp2_with fail
  refine (fPower_any P a (-1) _ (by omega) (by omega)).mono ?_
  rintro e w' ⟨rfl, hb'⟩
  go_wp2_with fail
  go_ret2
  exact ⟨rfl, hb.trans (hb'.mono hb.size)⟩

open Classical in
noncomputable def redR (P n : Int) : Int × Int := if Valid P then (n % P, 0) else (0, 9)
theorem fReduce_any (P n : Int) (w : World) (n0 : -9223372036854775808 ≤ n) (n1 : n ≤ 9223372036854775807) :
    Calls Try.prog 29 #[.agg #[.int .i64 P], .int .i64 n] w fun e w' => e = .returned (.tuple #[.int .i64 (redR P n).1, .int .i64 (redR P n).2]) ∧ Below w.heap.size w w' := by
  have hb := (Below.refl w.heap.size w).alloc (Nat.le_refl _) (.cells #[.int .i64 P] 27)
  by_cases h : Valid P
  · rw [show redR P n = (n % P, 0) from if_pos h]
    have h1 := h.1
    have h2 := h.2.1
    have ht := tmod_fix n (p := P) (by omega)
    obtain ⟨r1, r2⟩ := tmod_range n (p := P) (by omega)
    have hz1 : (P == 0) = false := beq_eq_false_iff_ne.2 (by omega)
    have hz2 : ¬ P = 0 := by omega
    have hw1 : IntKind.i64.wrap (n.tmod P + P) = n.tmod P + P := IntWalk.i64_in _ (by omega)
    have het : (n.tmod P + P).tmod P = n % P := by rw [Int.tmod_eq_emod_of_nonneg (by omega), ht]
    clear ht
    go_enter Try.func29, Try.ntmps29
    go_wp2_with fail
    refine (of_yes h _).mono ?_
    rintro e w' ⟨rfl, hb'⟩
    have hb2 := hb.trans (hb'.mono hb.size)
    have hc3 : w'.cell? ⟨w.heap.size, 0, none⟩ = some (.int .i64 P) := by rw [hb'.cell (p := ⟨w.heap.size, 0, none⟩) (by simp)]; simp
    go_wp2_with fail
    go_quiet (fail)
    go_wp2_with fail
    go_ret2
    exact ⟨rfl, below_drewN hb2 _⟩
  · rw [show redR P n = (0, 9) from if_neg h]
    go_enter Try.func29, Try.ntmps29
    go_wp2_with fail
    refine (of_no h _).mono ?_
    rintro e w' ⟨rfl, hb'⟩
    go_wp2_with fail
    go_ret2
    exact ⟨rfl, hb.trans (hb'.mono hb.size)⟩
end Go.Proofs.Ytihhncejiahdcac.Field
