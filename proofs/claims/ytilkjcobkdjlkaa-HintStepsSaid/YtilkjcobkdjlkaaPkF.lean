/- The reference's powers and inverses. -/
import Derived.Laws.Concat
import Derived.Test.YtilkjcobkdjlkaaBase
import Derived.Test.YtilkjcobkdjlkaaRows
import Derived.Laws.BitsAllLaws
section
namespace Go.Proofs.Ytilkjcobkdjlkaa.Field
set_option linter.unusedVariables false

/-- A prime, by all divisors. -/
def isP (p : Nat) : Prop := 2 ≤ p ∧ ∀ d, 2 ≤ d → d < p → p % d ≠ 0

/-- Divisors up to the root are enough. -/
theorem isP_of_root {p : Nat} (h2 : 2 ≤ p) (h : ∀ d, 2 ≤ d → d * d ≤ p → p % d ≠ 0) : isP p := by
  refine ⟨h2, fun d hd hlt hm => ?_⟩
  obtain ⟨k, hk⟩ := Nat.dvd_of_mod_eq_zero hm
  by_cases hs : d * d ≤ p
  · exact h d hd hs hm
  · have hkd : k < d := by
      rcases Nat.lt_or_ge k d with h' | h'
      · exact h'
      · have := Nat.mul_le_mul_left d h'
        omega
    have hk2 : 2 ≤ k := by
      rcases Nat.lt_or_ge k 2 with h' | h'
      · have : k = 0 ∨ k = 1 := by omega
        rcases this with rfl | rfl <;> omega
      · exact h'
    refine h k hk2 ?_ (Nat.mod_eq_zero_of_dvd ⟨d, by rw [hk, Nat.mul_comm]⟩)
    have := Nat.mul_le_mul_right k (Nat.le_of_lt hkd)
    omega

variable {p : Nat}

theorem isP.coprime (hp : isP p) {a : Nat} (h : ¬ p ∣ a) : Nat.Coprime p a := by
  have hg : p.gcd a ∣ p := Nat.gcd_dvd_left _ _
  have hga : p.gcd a ∣ a := Nat.gcd_dvd_right _ _
  have h0 : 0 < p.gcd a := Nat.gcd_pos_of_pos_left _ (by have := hp.1; omega)
  have hle := Nat.le_of_dvd (by have := hp.1; omega) hg
  rcases Nat.lt_or_ge (p.gcd a) 2 with h1 | h1
  · show p.gcd a = 1; omega
  · rcases Nat.lt_or_ge (p.gcd a) p with h2 | h2
    · exact absurd (Nat.mod_eq_zero_of_dvd hg) (hp.2 _ h1 h2)
    · have : p.gcd a = p := by omega
      rw [this] at hga
      exact absurd hga h
/-- Euclid's lemma. -/
theorem isP.mul (hp : isP p) {a b : Nat} (h : p ∣ a * b) : p ∣ a ∨ p ∣ b := by
  by_cases ha : p ∣ a
  · exact .inl ha
  · exact .inr ((hp.coprime ha).dvd_of_dvd_mul_left h)

def prod : List Nat → Nat
  | [] => 1
  | x :: l => x * prod l
theorem prod_perm {l m : List Nat} (h : l.Perm m) : prod l = prod m := by
  induction h with
  | nil => rfl
  | cons x _ ih => rw [prod, prod, ih]
  | swap x y l => simp only [prod]; rw [← Nat.mul_assoc, ← Nat.mul_assoc, Nat.mul_comm y x]
  | trans _ _ h1 h2 => exact h1.trans h2
theorem prod_map (a p : Nat) : ∀ l : List Nat, prod (l.map fun x => a * x % p) % p = a ^ l.length * prod l % p
  | [] => by simp [prod]
  | x :: l => by
    have ih := prod_map a p l
    simp only [List.map_cons, prod, List.length_cons]
    rw [Nat.mul_mod, ih, Nat.mod_mod, ← Nat.mul_mod, Nat.pow_succ]
    congr 1
    rw [Nat.mul_mul_mul_comm, Nat.mul_comm (a ^ l.length) a]
theorem prod_unit (hp : isP p) : ∀ l : List Nat, (∀ x ∈ l, 1 ≤ x ∧ x < p) → ¬ p ∣ prod l
  | [], _ => by
    intro h
    have h1 : p ≤ 1 := Nat.le_of_dvd (by decide) h
    have := hp.1
    omega
  | x :: l, h => by
    intro hd
    rcases hp.mul hd with h1 | h1
    · have := Nat.le_of_dvd (by have := (h x (by simp)).1; omega) h1
      have := (h x (by simp)).2
      omega
    · exact prod_unit hp l (fun y hy => h y (by simp [hy])) h1

/-- Fermat's theorem. -/
theorem fermat (hp : isP p) {a : Nat} (ha : ¬ p ∣ a) : a ^ (p - 1) % p = 1 := by
  have h2 := hp.1
  let L := List.range' 1 (p - 1)
  let M := L.map fun x => a * x % p
  have hL : ∀ x, x ∈ L ↔ 1 ≤ x ∧ x < p := fun x => by simp only [L, List.mem_range'_1]; omega
  have hinj : ∀ x ∈ L, ∀ y ∈ L, a * x % p = a * y % p → x = y := by
    intro x hx y hy h
    have hx' := (hL x).1 hx
    have hy' := (hL y).1 hy
    rcases Nat.le_total x y with hxy | hxy
    · have hd : p ∣ a * (y - x) := by
        rw [Nat.mul_sub]
        exact Nat.dvd_of_mod_eq_zero (Nat.sub_mod_eq_zero_of_mod_eq h.symm)
      rcases hp.mul hd with h1 | h1
      · exact absurd h1 ha
      · rcases Nat.eq_zero_or_pos (y - x) with h0 | h0
        · omega
        · have := Nat.le_of_dvd h0 h1; omega
    · have hd : p ∣ a * (x - y) := by
        rw [Nat.mul_sub]
        exact Nat.dvd_of_mod_eq_zero (Nat.sub_mod_eq_zero_of_mod_eq h)
      rcases hp.mul hd with h1 | h1
      · exact absurd h1 ha
      · rcases Nat.eq_zero_or_pos (x - y) with h0 | h0
        · omega
        · have := Nat.le_of_dvd h0 h1; omega
  have hsub : ∀ x ∈ M, x ∈ L := by
    intro x hx
    obtain ⟨y, hy, rfl⟩ := List.mem_map.1 hx
    have hy' := (hL y).1 hy
    refine (hL _).2 ⟨?_, Nat.mod_lt _ (by omega)⟩
    rcases Nat.eq_zero_or_pos (a * y % p) with h0 | h0
    · rcases hp.mul (Nat.dvd_of_mod_eq_zero h0) with h1 | h1
      · exact absurd h1 ha
      · have := Nat.le_of_dvd (by omega) h1; omega
    · exact h0
  have hLn : L.Nodup := List.nodup_range'
  have hMn : M.Nodup := by
    refine List.pairwise_map.2 (List.Pairwise.imp_of_mem ?_ hLn)
    intro x y hx hy hne he
    exact hne (hinj x hx y hy he)
  have hlen : M.length = L.length := by simp [M]
  have hsup : ∀ x ∈ L, x ∈ M := by
    intro x hx
    rcases Classical.em (x ∈ M) with h | h
    · exact h
    · have := List.Nodup.length_le_of_subset (l₁ := x :: M) (l₂ := L) (List.nodup_cons.2 ⟨h, hMn⟩) (fun y hy => by
        rcases List.mem_cons.1 hy with rfl | hy
        · exact hx
        · exact hsub y hy)
      simp only [List.length_cons] at this
      omega
  have hperm : M.Perm L := (List.perm_ext_iff_of_nodup hMn hLn).2 fun x => ⟨hsub x, hsup x⟩
  have h1 : a ^ (p - 1) * prod L % p = prod L % p := by
    have := prod_map a p L
    rw [show L.map (fun x => a * x % p) = M from rfl, prod_perm hperm] at this
    rw [this]
    simp [L]
  have hu := prod_unit hp L (fun x hx => (hL x).1 hx)
  have hpos : 1 ≤ a ^ (p - 1) := by
    rcases Nat.eq_zero_or_pos a with h | h
    · subst h; exact absurd (Nat.dvd_zero p) ha
    · exact Nat.pow_pos h
  have hd : p ∣ (a ^ (p - 1) - 1) * prod L := by
    rw [Nat.sub_mul, Nat.one_mul]
    exact Nat.dvd_of_mod_eq_zero (Nat.sub_mod_eq_zero_of_mod_eq h1)
  rcases hp.mul hd with h3 | h3
  · obtain ⟨k, hk⟩ := h3
    have : a ^ (p - 1) = p * k + 1 := by omega
    rw [this, Nat.mul_add_mod, Nat.mod_eq_of_lt (by omega)]
  · exact absurd h3 hu

theorem pow_step_even {p x a m : Nat} (h : m % 2 = 0) : x * (a * a % p) ^ (m / 2) % p = x * a ^ m % p := by
  have e : a ^ m = (a * a) ^ (m / 2) := by
    rw [← Nat.pow_two, ← Nat.pow_mul]
    congr 1
    omega
  rw [e, Nat.mul_mod, ← Nat.pow_mod, ← Nat.mul_mod]
theorem pow_step_odd {p x a m : Nat} (h : m % 2 = 1) : x * a % p * (a * a % p) ^ (m / 2) % p = x * a ^ m % p := by
  have e : a ^ m = a * (a * a) ^ (m / 2) := by
    rw [← Nat.pow_two, ← Nat.pow_mul, ← Nat.pow_succ']
    congr 1
    omega
  rw [e, Nat.mul_mod, Nat.mod_mod, ← Nat.pow_mod, ← Nat.mul_mod, Nat.mul_assoc]

/-- Powers depend on the exponent modulo p - 1 alone. -/
theorem pow_mod_order {p a : Nat} (hp : isP p) (ha : ¬ p ∣ a) (n : Nat) : a ^ n % p = a ^ (n % (p - 1)) % p := by
  have h : a ^ n = (a ^ (p - 1)) ^ (n / (p - 1)) * a ^ (n % (p - 1)) := by
    rw [← Nat.pow_mul, ← Nat.pow_add, Nat.div_add_mod]
  have h2 := hp.1
  rw [h, Nat.mul_mod, Nat.pow_mod, fermat hp ha, Nat.one_pow, Nat.mod_eq_of_lt (by omega : 1 < p), Nat.one_mul, Nat.mod_mod]
theorem not_dvd {p a : Nat} (h0 : 0 < a) (h1 : a < p) : ¬ p ∣ a := fun h => by have := Nat.le_of_dvd h0 h; omega
/-- An inverse is a power. -/
theorem inv_unique {p a b : Nat} (hp : isP p) (h0 : 0 < a) (h1 : a < p) (hb : b < p) (h : a * b % p = 1) : b = a ^ (p - 2) % p := by
  have h2 := hp.1
  have hf := fermat hp (not_dvd h0 h1)
  have e : a ^ (p - 1) = a ^ (p - 2) * a := by rw [← Nat.pow_succ]; congr 1; omega
  have e2 : a ^ (p - 2) * (a * b) % p = b % p := by
    rw [← Nat.mul_assoc, ← e, Nat.mul_mod, hf, Nat.one_mul, Nat.mod_mod]
  rw [Nat.mul_mod, h, Nat.mul_one, Nat.mod_mod, Nat.mod_eq_of_lt hb] at e2
  exact e2.symm
theorem inv_pow {p a : Nat} (hp : isP p) (h0 : 0 < a) (h1 : a < p) : a * (a ^ (p - 2) % p) % p = 1 := by
  have h2 := hp.1
  have hf := fermat hp (not_dvd h0 h1)
  rw [Nat.mul_mod_mod, Nat.mul_comm, ← Nat.pow_succ, show (p - 2).succ = p - 1 by omega]
  exact hf

/-- The state of Euclid's algorithm: x * a is r, y * a is s, up to multiples of p. -/
structure Eu (p a r s : Nat) (x y : Int) : Prop where
  hx : ∃ u : Int, x * a = r + u * p
  hy : ∃ v : Int, y * a = s + v * p
  sign : (x ≤ 0 ∧ 0 ≤ y) ∨ (0 ≤ x ∧ y ≤ 0)
  sum : x.natAbs * s + y.natAbs * r = p
  gcd : r.gcd s = 1
  lt : s < r
  xb : x.natAbs ≤ p
  rb : r ≤ p
theorem Eu.start {p a : Nat} (hp : isP p) (h0 : 0 < a) (h1 : a < p) : Eu p a p a 0 1 :=
  ⟨⟨-1, by omega⟩, ⟨0, by omega⟩, .inl ⟨by omega, by omega⟩, by simp, hp.coprime (not_dvd h0 h1), h1, by simp, Nat.le_refl _⟩
theorem Eu.yb {p a r s : Nat} {x y : Int} (h : Eu p a r s x y) : y.natAbs ≤ p ∧ y.natAbs * r ≤ p := by
  have h1 := h.sum
  have h2 : y.natAbs * 1 ≤ y.natAbs * r := Nat.mul_le_mul_left _ (by have := h.lt; omega)
  omega
theorem Eu.step {p a r s : Nat} {x y : Int} (h : Eu p a r s x y) (hs : 0 < s) : Eu p a s (r % s) y (x - ((r / s : Nat) : Int) * y) := by
  obtain ⟨u, hu⟩ := h.hx
  obtain ⟨v, hv⟩ := h.hy
  have hd : r = r / s * s + r % s := by have := Nat.div_add_mod r s; rw [Nat.mul_comm] at this; omega
  have hlt := Nat.mod_lt r hs
  have hg : s.gcd (r % s) = 1 := by rw [Nat.gcd_comm, ← Nat.gcd_rec, Nat.gcd_comm]; exact h.gcd
  have hyb := h.yb.1
  have hrb := h.rb
  have hltr := h.lt
  have hsum := h.sum
  have hsign := h.sign
  have hyy := h.hy
  clear h
  generalize r / s = q at *
  generalize r % s = t at *
  subst hd
  refine ⟨hyy, ⟨u - (q : Int) * v, ?_⟩, ?_, ?_, hg, hlt, hyb, by omega⟩
  · rw [Int.natCast_add, Int.natCast_mul] at hu
    rw [Int.sub_mul, hu, Int.mul_assoc, hv, Int.mul_add, Int.sub_mul, Int.mul_assoc]
    omega
  · have hq : 0 ≤ (q : Int) := by omega
    rcases hsign with ⟨h1, h2⟩ | ⟨h1, h2⟩
    · exact .inr ⟨h2, by have := Int.mul_nonneg hq h2; omega⟩
    · refine .inl ⟨h2, ?_⟩
      have := Int.mul_nonneg hq (show 0 ≤ -y by omega)
      rw [Int.mul_neg] at this
      omega
  · have hq : 0 ≤ (q : Int) := by omega
    have habs : (x - (q : Int) * y).natAbs = x.natAbs + q * y.natAbs := by
      have hm : ((q : Int) * y).natAbs = q * y.natAbs := by rw [Int.natAbs_mul, Int.natAbs_natCast]
      rcases hsign with ⟨h1, h2⟩ | ⟨h1, h2⟩
      · have := Int.mul_nonneg hq h2; omega
      · have := Int.mul_nonneg hq (show 0 ≤ -y by omega)
        rw [Int.mul_neg] at this
        omega
    rw [habs, Nat.add_mul, ← hsum, Nat.mul_add, Nat.mul_comm q y.natAbs, Nat.mul_assoc]
    omega
theorem Eu.qb {p a r s : Nat} {x y : Int} (h : Eu p a r s x y) : r / s * y.natAbs ≤ p := by
  have h1 := h.yb.2
  have h2 : r / s * y.natAbs ≤ r * y.natAbs := Nat.mul_le_mul_right _ (Nat.div_le_self r s)
  rw [Nat.mul_comm r] at h2
  omega
/-- At the end the coefficient is the inverse. -/
theorem Eu.done {p a r : Nat} {x y : Int} (hp : isP p) (h0 : 0 < a) (h1 : a < p) (h : Eu p a r 0 x y) : (x % (p : Int)) = ((a ^ (p - 2) % p : Nat) : Int) := by
  have h2 := hp.1
  have hr : r = 1 := by have := h.gcd; rwa [Nat.gcd_zero_right] at this
  subst hr
  obtain ⟨u, hu⟩ := h.hx
  have hn := Int.emod_nonneg x (show (p : Int) ≠ 0 by omega)
  have hl := Int.emod_lt_of_pos x (show (0 : Int) < p by omega)
  obtain ⟨b, hb⟩ := Int.eq_ofNat_of_zero_le hn
  rw [hb]
  congr 1
  refine inv_unique hp h0 h1 (by omega) ?_
  have e : ((a * b % p : Nat) : Int) = 1 := by
    rw [Int.natCast_emod, Int.natCast_mul, ← hb, Int.mul_emod, Int.emod_emod, ← Int.mul_emod, Int.mul_comm, hu, Int.natCast_one, Int.add_mul_emod_self_right]
    exact Int.emod_eq_of_lt (by decide) (by omega)
  omega
theorem tmod_fix (x : Int) {p : Int} (hp : 0 < p) : (x.tmod p + p) % p = x % p := by
  rw [Int.add_emod_right, Int.tmod_def, Int.sub_mul_emod_self_left]
theorem tmod_range (x : Int) {p : Int} (hp : 0 < p) : -p < x.tmod p ∧ x.tmod p < p := by
  have h1 := Int.lt_tmod_of_pos x hp
  have h2 := Int.tmod_lt_of_pos x hp
  exact ⟨h1, h2⟩
end Go.Proofs.Ytilkjcobkdjlkaa.Field
end
section
namespace Go.Proofs.Ytilkjcobkdjlkaa.Field
open Go Go.RowKit
set_option linter.unusedVariables false

/-- A field is valid. -/
def Valid (P : Int) : Prop := 2 ≤ P ∧ P ≤ 65521 ∧ isP P.toNat

theorem Valid.found {P : Int} {d : Nat} (h2 : 2 ≤ d) (hd : (d : Int) * d ≤ P) (hm : P % (d : Int) = 0) : ¬ Valid P := by
  rintro ⟨h0, h1, _, h⟩
  obtain ⟨p, rfl⟩ := Int.eq_ofNat_of_zero_le (show 0 ≤ P by omega)
  rw [Int.toNat_natCast] at h
  have hd' : d * d ≤ p := by rw [← Int.natCast_mul] at hd; omega
  have : d < p := by have := Nat.mul_le_mul_right d h2; omega
  exact h d h2 this (by have := hm; rw [← Int.natCast_emod] at this; omega)
theorem Valid.none {P : Int} {d : Nat} (h0 : 2 ≤ P) (h1 : P ≤ 65521) (hd : P < (d : Int) * d) (h : ∀ e : Nat, 2 ≤ e → e < d → P % (e : Int) ≠ 0) : Valid P := by
  refine ⟨h0, h1, ?_⟩
  obtain ⟨p, rfl⟩ := Int.eq_ofNat_of_zero_le (show 0 ≤ P by omega)
  rw [Int.toNat_natCast]
  refine isP_of_root (by omega) fun e he hee hm => ?_
  have hd' : p < d * d := by rw [← Int.natCast_mul] at hd; omega
  have : e < d := by
    rcases Nat.lt_or_ge e d with h' | h'
    · exact h'
    · have := Nat.mul_le_mul h' h'; omega
  exact h e he this (by rw [← Int.natCast_emod, hm]; rfl)

/-- What Of answers. -/
def OfPost (P : Int) (w : World) (e : Ending) (w' : World) : Prop :=
  ∃ (q : Int) (b : Bool), e = .returned (.tuple #[.int .i64 q, .bool b]) ∧ ((b = true ∧ q = P ∧ Valid P) ∨ (b = false ∧ q = 0 ∧ ¬ Valid P)) ∧ Below w.heap.size w w'
/-- Between two divisors. -/
def DRel (P : Int) (w : World) (gk : Nat) (i : Value) (wr : World) : Prop :=
  ∃ d : Nat, gk + d = 257 ∧ 2 ≤ d ∧ i = .int .i64 d ∧ (∀ e : Nat, 2 ≤ e → e < d → P % (e : Int) ≠ 0) ∧ wr = w

theorem sq_bound {d : Nat} (h : d ≤ 257) : (d : Int) * d ≤ 70000 ∧ 0 ≤ (d : Int) * d := by
  have h1 : d * d ≤ 257 * 257 := Nat.mul_le_mul h h
  rw [← Int.natCast_mul]
  omega
theorem sq_small {d : Nat} {P : Int} (h : (d : Int) * d ≤ P) (hP : P ≤ 65521) : d ≤ 255 := by
  rcases Nat.lt_or_ge d 256 with h' | h'
  · omega
  · have h1 : 256 * 256 ≤ d * d := Nat.mul_le_mul h' h'
    rw [← Int.natCast_mul] at h
    omega

theorem of_any (P : Int) (w : World) : Calls Try.prog 94 #[.agg #[.int .i64 P]] w (OfPost P w) := by
  by_cases h2 : P < 2
  · go_enter Try.func94, Try.ntmps94
    go_wp2_with fail
    go_ret2
    exact ⟨0, false, rfl, .inr ⟨rfl, rfl, fun h => by have := h.1; omega⟩, (Below.refl _ _).alloc (Nat.le_refl _) _⟩
  · by_cases h3 : 65521 < P
    · go_enter Try.func94, Try.ntmps94
      go_wp2_with fail
      go_ret2
      exact ⟨0, false, rfl, .inr ⟨rfl, rfl, fun h => by have := h.2.1; omega⟩, (Below.refl _ _).alloc (Nat.le_refl _) _⟩
    · have hd1 : decide (P < 2) = false := by simp; omega
      have hd2 : decide ((65521 : Int) < P) = false := by simp; omega
      have hP0 : 2 ≤ P := by omega
      have hP1 : P ≤ 65521 := by omega
      clear h2 h3
      go_enter Try.func94, Try.ntmps94
      go_wp2_with fail
      go_loopg [4] 255 (fun gk i wr => DRel P (w.alloc (.cells #[.int .i64 P] 27)) gk i wr)
      case atStart => exact ⟨2, rfl, by decide, rfl, fun e h1 h2 => by omega, rfl⟩
      case round =>
        obtain ⟨d, hg, hd2', rfl, hall, rfl⟩ := hrel
        have hsq := sq_bound (d := d) (by omega)
        obtain ⟨hs1, hs2⟩ := hsq
        have Hall := Lib.hid hall
        clear hall
        by_cases hlt : (d : Int) * d ≤ P
        · have hd255 := sq_small hlt hP1
          by_cases hm : P % (d : Int) = 0
          · have hq : (P % (d : Int) == 0) = true := by simp [hm]
            have hv := Valid.found hd2' hlt hm
            clear hm
            go_wp2_with fail
            go_ret2
            exact ⟨0, false, rfl, .inr ⟨rfl, rfl, hv⟩, (Below.refl _ _).alloc (Nat.le_refl _) _⟩
          · have hq : (P % (d : Int) == 0) = false := by simp [hm]
            have Hm := Lib.hid hm
            clear hm
            go_wp2_with fail
            go_roundg (gk - 1)
            case measure => omega
            case rel => exact ⟨d + 1, by omega, by omega, by go_num, fun e h1 h2 => by
                  rcases Nat.lt_or_ge e d with h | h
                  · exact Hall.out e h1 h
                  · obtain rfl : e = d := by omega
                    exact Hm.out, rfl⟩
        · have hv := Valid.none hP0 hP1 (by omega) Hall.out
          go_wp2_with fail
          go_ret2
          exact ⟨P, true, rfl, .inl ⟨rfl, rfl, hv⟩, (Below.refl _ _).alloc (Nat.le_refl _) _⟩
end Go.Proofs.Ytilkjcobkdjlkaa.Field
end
section
namespace Go.Proofs.Ytilkjcobkdjlkaa.Field
open Go Go.RowKit
set_option linter.unusedVariables false

def hasB (p a : Int) : Bool := decide (0 ≤ a ∧ a < p)

theorem pHas_any (p a : Int) (w : World) : Calls Try.prog 98 #[.int .i64 p, .int .i64 a] w fun e w' => e = .returned (.bool (hasB p a)) ∧ w = w' := by
  by_cases h0 : 0 ≤ a
  · by_cases h1 : a < p
    · have hb : hasB p a = true := by unfold hasB; simp [h0, h1]
      rw [hb]
      clear hb
      go_enter Try.func98, Try.ntmps98
      go_wp2_with fail
      go_ret
      exact ⟨rfl, rfl⟩
    · have hb : hasB p a = false := by unfold hasB; simp [h1]
      rw [hb]
      clear hb
      go_enter Try.func98, Try.ntmps98
      go_wp2_with fail
      go_ret
      exact ⟨rfl, rfl⟩
  · have hb : hasB p a = false := by unfold hasB; simp [h0]
    rw [hb]
    clear hb
    go_enter Try.func98, Try.ntmps98
    go_wp2_with fail
    go_ret
    exact ⟨rfl, rfl⟩

theorem pAdd_any (p a b : Int) (w : World) (hp : 1 ≤ p) (hp1 : p ≤ 65521) (a0 : 0 ≤ a) (a1 : a < p) (b0 : 0 ≤ b) (b1 : b < p) :
    Calls Try.prog 114 #[.int .i64 p, .int .i64 a, .int .i64 b] w fun e w' => e = .returned (.int .i64 ((a + b) % p)) ∧ w = w' := by
  go_enter Try.func114, Try.ntmps114
  go_wp2_with fail
  go_ret
  exact ⟨rfl, rfl⟩
theorem pSub_any (p a b : Int) (w : World) (hp : 1 ≤ p) (hp1 : p ≤ 65521) (a0 : 0 ≤ a) (a1 : a < p) (b0 : 0 ≤ b) (b1 : b < p) :
    Calls Try.prog 99 #[.int .i64 p, .int .i64 a, .int .i64 b] w fun e w' => e = .returned (.int .i64 ((a - b + p) % p)) ∧ w = w' := by
  go_enter Try.func99, Try.ntmps99
  go_wp2_with fail
  go_ret
  exact ⟨rfl, rfl⟩
theorem mul_bound {p a b : Int} (hp1 : p ≤ 65521) (a0 : 0 ≤ a) (a1 : a < p) (b0 : 0 ≤ b) (b1 : b < p) : 0 ≤ a * b ∧ a * b ≤ 4293001441 := by
  have h1 : a * b ≤ 65521 * 65521 := Int.mul_le_mul (by omega) (by omega) b0 (by decide)
  exact ⟨Int.mul_nonneg a0 b0, by omega⟩
theorem pMul_any (p a b : Int) (w : World) (hp : 1 ≤ p) (hp1 : p ≤ 65521) (a0 : 0 ≤ a) (a1 : a < p) (b0 : 0 ≤ b) (b1 : b < p) :
    Calls Try.prog 100 #[.int .i64 p, .int .i64 a, .int .i64 b] w fun e w' => e = .returned (.int .i64 (a * b % p)) ∧ w = w' := by
  obtain ⟨h1, h2⟩ := mul_bound hp1 a0 a1 b0 b1
  go_enter Try.func100, Try.ntmps100
  go_wp2_with fail
  go_ret
  exact ⟨rfl, rfl⟩

theorem and1_i64 (a : Nat) (ha : a < 9223372036854775808) : bits .and .i64 (a : Int) 1 = ((a % 2 : Nat) : Int) := by
  have hx : (BitVec.ofInt 64 (a : Int)).toNat = a := by rw [BitVec.ofInt_natCast, BitVec.toNat_ofNat]; exact Nat.mod_eq_of_lt (by omega)
  show IntKind.i64.wrap ((BitVec.ofInt 64 (a : Int) &&& BitVec.ofInt 64 1).toNat : Int) = _
  rw [BitVec.toNat_and, hx, show (BitVec.ofInt 64 1).toNat = 1 by decide, nat_mask1, IntKind.wrap_i64]
  omega

def PRel (p a n : Nat) (w : World) (gk : Nat) (v1 v2 v7 : Value) (wr : World) : Prop :=
  ∃ x b : Nat, v7 = .int .i64 x ∧ v1 = .int .i64 b ∧ v2 = .int .i64 gk ∧ x < p ∧ b < p ∧ gk < 9223372036854775808 ∧ x * b ^ gk % p = a ^ n % p ∧ wr = w

theorem pPower_any (p a n : Nat) (w : World) (hp : 2 ≤ p) (hp1 : p ≤ 65521) (ha : a < p) (hn : n < 9223372036854775808) :
    Calls Try.prog 115 #[.int .i64 p, .int .i64 a, .int .i64 n] w fun e w' => e = .returned (.int .i64 ((a ^ n % p : Nat) : Int)) ∧ w = w' := by
  go_enter Try.func115, Try.ntmps115
  go_wp2_with fail
  go_loopg [1, 2, 7] n (fun gk v1 v2 v7 wr => PRel p a n w gk v1 v2 v7 wr)
  case atStart => exact ⟨1, a, rfl, rfl, rfl, by omega, ha, hn, by rw [Nat.one_mul], rfl⟩
  case round =>
    obtain ⟨x, b, rfl, rfl, rfl, hx, hb, hg, he, rfl⟩ := hrel
    have He := Lib.hid he
    clear he
    have ha1 := and1_i64 gk hg
    by_cases h0 : 0 < gk
    · by_cases h1 : gk % 2 = 1
      · have hq : (bits .and .i64 (gk : Int) 1 == 1) = true := by rw [ha1, h1]; rfl
        have ho := pow_step_odd (p := p) (x := x) (a := b) h1
        have Ho := Lib.hid ho
        clear ha1 h1 ho
        go_wp2_with fail
        refine (pMul_any _ _ _ _ (by omega) (by omega) (by omega) (by omega) (by omega) (by omega)).mono ?_
        rintro e w' ⟨rfl, rfl⟩
        go_wp2_with fail
        refine (pMul_any _ _ _ _ (by omega) (by omega) (by omega) (by omega) (by omega) (by omega)).mono ?_
        rintro e w' ⟨rfl, rfl⟩
        go_wp2_with fail
        go_roundg (gk / 2)
        case measure => omega
        case rel => exact ⟨x * b % p, b * b % p, by simp, by simp, by simp, Nat.mod_lt _ (by omega), Nat.mod_lt _ (by omega), by omega, by rw [Ho.out, He.out], rfl⟩
      · have hq : (bits .and .i64 (gk : Int) 1 == 1) = false := by rw [ha1, show gk % 2 = 0 by omega]; rfl
        have ho := pow_step_even (p := p) (x := x) (a := b) (m := gk) (by omega)
        have Ho := Lib.hid ho
        clear ha1 h1 ho
        go_wp2_with fail
        refine (pMul_any _ _ _ _ (by omega) (by omega) (by omega) (by omega) (by omega) (by omega)).mono ?_
        rintro e w' ⟨rfl, rfl⟩
        go_wp2_with fail
        go_roundg (gk / 2)
        case measure => omega
        case rel => exact ⟨x, b * b % p, by simp, by simp, by simp, hx, Nat.mod_lt _ (by omega), by omega, by rw [Ho.out, He.out], rfl⟩
    · clear ha1
      obtain rfl : gk = 0 := by omega
      go_wp2_with fail
      go_ret
      have h := He.out
      rw [Nat.pow_zero, Nat.mul_one, Nat.mod_eq_of_lt hx] at h
      exact ⟨by rw [← h]; rfl, rfl⟩

def ERel (p a : Nat) (w : World) (gk : Nat) (v5 v6 v7 v8 : Value) (wr : World) : Prop :=
  ∃ (r : Nat) (x y : Int), v5 = .int .i64 r ∧ v6 = .int .i64 gk ∧ v7 = .int .i64 x ∧ v8 = .int .i64 y ∧ Eu p a r gk x y ∧ wr = w

theorem pInverse_any (p a : Nat) (w : World) (hp : isP p) (hp1 : p ≤ 65521) (h0 : 0 < a) (h1 : a < p) :
    Calls Try.prog 116 #[.int .i64 p, .int .i64 a] w fun e w' => e = .returned (.int .i64 ((a ^ (p - 2) % p : Nat) : Int)) ∧ w = w' := by
  have hp2 := hp.1
  have HP := Lib.hid hp
  clear hp
  go_enter Try.func116, Try.ntmps116
  go_wp2_with fail
  go_loopg [5, 6, 7, 8] a (fun gk v5 v6 v7 v8 wr => ERel p a w gk v5 v6 v7 v8 wr)
  case atStart => exact ⟨p, 0, 1, rfl, rfl, rfl, rfl, Eu.start HP.out h0 h1, rfl⟩
  case round =>
    obtain ⟨r, x, y, rfl, rfl, rfl, rfl, he, rfl⟩ := hrel
    have hyb := he.yb.1
    have hxb := he.xb
    have hrb := he.rb
    have hlt := he.lt
    have hqb := he.qb
    by_cases hs : 0 < gk
    · have hst := he.step hs
      have hd : (r : Int) - ((r / gk : Nat) : Int) * gk = ((r % gk : Nat) : Int) := by
        have := Nat.div_add_mod r gk
        rw [Nat.mul_comm] at this
        have e : (r : Int) = ((r / gk : Nat) : Int) * gk + ((r % gk : Nat) : Int) := by exact_mod_cast this.symm
        omega
      have hml := Nat.mod_lt r hs
      have hyy := hst.yb.1
      have hq1 : (((r / gk : Nat) : Int) * y).natAbs ≤ p := by rw [Int.natAbs_mul, Int.natAbs_natCast]; exact hqb
      have hq2 : -65521 ≤ ((r / gk : Nat) : Int) * y ∧ ((r / gk : Nat) : Int) * y ≤ 65521 := by
        generalize ((r / gk : Nat) : Int) * y = z at *
        omega
      have HQ := Lib.hid hq2
      clear hq1 hq2
      have HD := Lib.hid hd
      have HST := Lib.hid hst
      clear hd hst he hqb
      have hq0 : ((gk : Int) != 0) = true := by simp; omega
      go_wp2_with fail
      have e1 : wrap64 ((r : Int) / (gk : Int)) = ((r / gk : Nat) : Int) := by
        rw [← Int.natCast_ediv]
        have hdl := Nat.div_le_self r gk
        generalize r / gk = q at hdl ⊢
        exact IntWalk.wrap64_in _ (by omega)
      have e2 : wrap64 (((r / gk : Nat) : Int) * (gk : Int)) = ((r / gk : Nat) : Int) * (gk : Int) := IntWalk.wrap64_in _ (by have := HD.out; omega)
      have e3 : wrap64 ((r : Int) - ((r / gk : Nat) : Int) * (gk : Int)) = ((r % gk : Nat) : Int) := by rw [HD.out]; exact IntWalk.wrap64_in _ (by omega)
      have hq2 := HQ.out
      have hdd := HD.out
      have e4 : wrap64 (((r / gk : Nat) : Int) * y) = ((r / gk : Nat) : Int) * y := IntWalk.wrap64_in _ (by omega)
      have e5 : wrap64 (x - ((r / gk : Nat) : Int) * y) = x - ((r / gk : Nat) : Int) * y := IntWalk.wrap64_in _ (by omega)
      go_roundg (r % gk)
      case measure => exact hml
      case rel => exact ⟨gk, y, x - ((r / gk : Nat) : Int) * y, rfl, by rw [e1, e2, e3], rfl, by rw [e1, e4, e5], HST.out, rfl⟩
    · obtain rfl : gk = 0 := by omega
      have hdone := he.done HP.out h0 h1
      have ht := tmod_fix x (p := (p : Int)) (by omega)
      have hr := tmod_range x (p := (p : Int)) (by omega)
      obtain ⟨hr1, hr2⟩ := hr
      have HT := Lib.hid ht
      clear he ht
      go_wp2_with fail
      go_ret
      exact ⟨by rw [← hdone, ← HT.out]; rfl, rfl⟩
end Go.Proofs.Ytilkjcobkdjlkaa.Field
end
section
namespace Go.Proofs.Ytilkjcobkdjlkaa.Field
open Go Go.RowKit
set_option linter.unusedVariables false

def allB (p : Int) (l : List Int) : Bool := l.all (hasB p)
def notHas (p a : Int) : Bool := !hasB p a

theorem pAll1_any (p a : Int) (b : Nat) (w : World) (hc : w.cell? ⟨b, 0, none⟩ = some (.int .i64 p)) :
    Calls Try.prog 113 #[.int .i64 a, .pointer (some ⟨b, 0, none⟩)] w fun e w' => e = .returned (.bool (notHas p a)) ∧ w = w' := by
  go_enter Try.func113, Try.ntmps113
  go_wp2_with fail
  refine (pHas_any p a w).mono ?_
  rintro e w' ⟨rfl, rfl⟩
  go_wp2_with fail
  go_ret
  exact ⟨rfl, rfl⟩

def IPost (p : Int) (l : List Int) (w : World) (e : Ending) (w' : World) : Prop :=
  ∃ r : Int, e = .returned (.int .i64 r) ∧ ((r = -1 ∧ allB p l = true) ∨ (0 ≤ r ∧ allB p l = false)) ∧ w = w'
def IRel (p : Int) (l : List Int) (w : World) (gk : Nat) (v : Value) (wr : World) : Prop :=
  ∃ k : Nat, gk + k = l.length ∧ v = .int .i64 k ∧ (l.take k).all (hasB p) = true ∧ wr = w
theorem all_snoc {p : Int} {l : List Int} {k : Nat} (h : (l.take k).all (hasB p) = true) (hlt : k < l.length) (hb : notHas p l[k] = false) : (l.take (k + 1)).all (hasB p) = true := by
  have hb' : hasB p l[k] = true := by simpa [notHas] using hb
  rw [List.take_succ_eq_append_getElem hlt, List.all_append, h]
  simp [hb']
theorem all_bad {p : Int} {l : List Int} {k : Nat} (hlt : k < l.length) (hb : notHas p l[k] = true) : allB p l = false := by
  have hb' : hasB p l[k] = false := by simpa [notHas] using hb
  unfold allB
  rw [List.all_eq_false]
  exact ⟨l[k], List.getElem_mem _, by simp [hb']⟩

theorem indexF_any (p : Int) (l : List Int) (a : Option Addr) (c : Nat) (B b : Nat) (w : World) (hr : Rd w B 1 (.slice a l.length c) l.length (l.map (Value.int .i64))) (hl : l.length ≤ 4611686018427387904) (hc : w.cell? ⟨b, 0, none⟩ = some (.int .i64 p)) :
    Calls Try.prog 121 #[.slice a l.length c, .func (.func 113) #[] #[.pointer (some ⟨b, 0, none⟩)]] w (IPost p l w) := by
  rcases hr.addr with h0 | ⟨g, off, rfl, hg, hat⟩
  · have hx : l = [] := List.eq_nil_of_length_eq_zero h0
    subst hx
    go_enter Try.func121, Try.ntmps121
    go_wp2_with fail
    go_loopg [8] 0 (fun gk v wr => IRel p [] w gk v wr)
    case atStart => exact ⟨0, rfl, rfl, rfl, rfl⟩
    case round =>
      obtain ⟨k, hk, rfl, _, rfl⟩ := hrel
      obtain rfl : k = 0 := by simp at hk; omega
      go_wp2_with fail
      go_ret
      exact ⟨-1, rfl, .inl ⟨rfl, rfl⟩, rfl⟩
  · go_enter Try.func121, Try.ntmps121
    go_wp2_with fail
    go_loopg [8] l.length (fun gk v wr => IRel p l w gk v wr)
    case atStart => exact ⟨0, rfl, rfl, by simp, rfl⟩
    case round =>
      obtain ⟨k, hk, rfl, hall, rfl⟩ := hrel
      have HA := Lib.hid hall
      clear hall
      by_cases hlt : k < l.length
      · have hck : wr.cell? ⟨g, off + k, none⟩ = some (.int .i64 l[k]) := hat k _ (by simp [hlt])
        cases hb : notHas p l[k] with
        | false =>
          have HB := Lib.hid hb
          clear hb
          go_wp2_with fail
          refine (pAll1_any p l[k] b wr hc).mono ?_
          rw [HB.out]
          rintro e w' ⟨rfl, rfl⟩
          go_wp2_with fail
          go_roundg (gk - 1)
          case measure => omega
          case rel => exact ⟨k + 1, by omega, by go_num, all_snoc HA.out hlt HB.out, rfl⟩
        | true =>
          have HB := Lib.hid hb
          clear hb
          go_wp2_with fail
          refine (pAll1_any p l[k] b wr hc).mono ?_
          rw [HB.out]
          rintro e w' ⟨rfl, rfl⟩
          go_wp2_with fail
          go_ret
          exact ⟨k, rfl, .inr ⟨by omega, all_bad hlt HB.out⟩, rfl⟩
      · go_wp2_with fail
        go_ret
        have h := HA.out
        rw [List.take_of_length_le (by omega)] at h
        exact ⟨-1, rfl, .inl ⟨rfl, h⟩, rfl⟩

def notAll (p : Int) (l : List Int) : Bool := !allB p l
theorem contF_any (p : Int) (l : List Int) (a : Option Addr) (c : Nat) (B b : Nat) (w : World) (hr : Rd w B 1 (.slice a l.length c) l.length (l.map (Value.int .i64))) (hl : l.length ≤ 4611686018427387904) (hc : w.cell? ⟨b, 0, none⟩ = some (.int .i64 p)) :
    Calls Try.prog 112 #[.slice a l.length c, .func (.func 113) #[] #[.pointer (some ⟨b, 0, none⟩)]] w fun e w' => e = .returned (.bool (notAll p l)) ∧ w = w' := by
  have hi := indexF_any p l a c B b w hr hl hc
  have HI := Lib.hid hi
  clear hi hc
  go_enter Try.func112, Try.ntmps112
  go_wp2_with fail
  refine (HI.out).mono ?_
  rintro e w' ⟨r, rfl, hr', rfl⟩
  rcases hr' with ⟨rfl, h⟩ | ⟨h0, h⟩
  · go_wp2_with fail
    go_ret
    exact ⟨by rw [show notAll p l = false by unfold notAll; rw [h]; rfl]; rfl, rfl⟩
  · have hd : decide (0 ≤ r) = true := by simp [h0]
    clear h0
    have HH := Lib.hid h
    clear h
    go_wp2_with fail
    go_ret
    exact ⟨by rw [show notAll p l = true by unfold notAll; rw [HH.out]; rfl]; rfl, rfl⟩

theorem pAll_any (p : Int) (l : List Int) (a : Option Addr) (c : Nat) (B : Nat) (w : World) (hr : Rd w B 1 (.slice a l.length c) l.length (l.map (Value.int .i64))) (hl : l.length ≤ 4611686018427387904) (hB : B ≤ w.heap.size) :
    Calls Try.prog 95 #[.int .i64 p, .slice a l.length c] w fun e w' => e = .returned (.bool (allB p l)) ∧ Below w.heap.size w w' := by
  have hb := (Below.refl w.heap.size w).alloc (Nat.le_refl _) (.cells #[.int .i64 p] 119)
  go_enter Try.func95, Try.ntmps95
  go_wp2_with fail
  refine (contF_any p l a c B w.heap.size _ (hr.below hb hB) hl (by simp)).mono ?_
  rintro e w' ⟨rfl, rfl⟩
  go_wp2_with fail
  go_ret
  exact ⟨by simp [notAll], hb⟩
end Go.Proofs.Ytilkjcobkdjlkaa.Field
end
section
namespace Go.Proofs.Ytilkjcobkdjlkaa.Field
open Go Go.RowKit
set_option linter.unusedVariables false

theorem of_yes {P : Int} (h : Valid P) (w : World) : Calls Try.prog 94 #[.agg #[.int .i64 P]] w fun e w' => e = .returned (.tuple #[.int .i64 P, .bool true]) ∧ Below w.heap.size w w' :=
  (of_any P w).mono fun e w' ⟨q, b, he, hc, hb⟩ => by
    rcases hc with ⟨rfl, rfl, _⟩ | ⟨_, _, hn⟩
    · exact ⟨he, hb⟩
    · exact absurd h hn
theorem of_no {P : Int} (h : ¬ Valid P) (w : World) : Calls Try.prog 94 #[.agg #[.int .i64 P]] w fun e w' => e = .returned (.tuple #[.int .i64 0, .bool false]) ∧ Below w.heap.size w w' :=
  (of_any P w).mono fun e w' ⟨q, b, he, hc, hb⟩ => by
    rcases hc with ⟨_, _, hv⟩ | ⟨rfl, rfl, _⟩
    · exact absurd hv h
    · exact ⟨he, hb⟩

open Classical in
noncomputable def chk (P : Int) : Int := if Valid P then 0 else 9
theorem chk_yes {P : Int} (h : Valid P) : chk P = 0 := if_pos h
theorem chk_no {P : Int} (h : ¬ Valid P) : chk P = 9 := if_neg h

open Classical in
noncomputable def inB (P : Int) (l : List Int) : Bool := if Valid P then allB P l else false
theorem fIn_any (P : Int) (l : List Int) (a : Option Addr) (c : Nat) (B : Nat) (w : World) (hr : Rd w B 1 (.slice a l.length c) l.length (l.map (Value.int .i64))) (hl : l.length ≤ 4611686018427387904) (hB : B ≤ w.heap.size) :
    Calls Try.prog 62 #[.agg #[.int .i64 P], .slice a l.length c] w fun e w' => e = .returned (.bool (inB P l)) ∧ Below w.heap.size w w' := by
  have hb := (Below.refl w.heap.size w).alloc (Nat.le_refl _) (.cells #[.int .i64 P] 27)
  by_cases h : Valid P
  · rw [show inB P l = allB P l from if_pos h]
    go_enter Try.func62, Try.ntmps62
    go_wp2_with fail
    refine (of_yes h _).mono ?_
    rintro e w' ⟨rfl, hb'⟩
    have hb2 := hb.trans (hb'.mono hb.size)
    go_wp2_with fail
    refine (pAll_any P l a c B w' (hr.below hb2 hB) hl (Nat.le_trans hB hb2.size)).mono ?_
    rintro e w2 ⟨rfl, hb3⟩
    go_wp2_with fail
    go_ret
    exact ⟨rfl, hb2.trans (hb3.mono hb2.size)⟩
  · rw [show inB P l = false from if_neg h]
    go_enter Try.func62, Try.ntmps62
    go_wp2_with fail
    refine (of_no h _).mono ?_
    rintro e w' ⟨rfl, hb'⟩
    go_wp2_with fail
    go_ret
    exact ⟨rfl, hb.trans (hb'.mono hb.size)⟩


open Classical in
noncomputable def addR (P a b : Int) : Int × Int := if Valid P ∧ hasB P a = true ∧ hasB P b = true then ((a + b) % P, 0) else (0, 9)
open Classical in
noncomputable def subR (P a b : Int) : Int × Int := if Valid P ∧ hasB P a = true ∧ hasB P b = true then ((a - b) % P, 0) else (0, 9)
theorem fSub_any (P a b : Int) (w : World) : Calls Try.prog 69 #[.agg #[.int .i64 P], .int .i64 a, .int .i64 b] w fun e w' => e = .returned (.tuple #[.int .i64 (subR P a b).1, .int .i64 (subR P a b).2]) ∧ Below w.heap.size w w' := by
  have hb := (Below.refl w.heap.size w).alloc (Nat.le_refl _) (.cells #[.int .i64 P] 27)
  by_cases h : Valid P
  · cases ha : hasB P a with
    | false =>
      rw [show subR P a b = (0, 9) from if_neg (by rw [ha]; simp)]
      have HA := Lib.hid ha
      clear ha
      go_enter Try.func69, Try.ntmps69
      go_wp2_with fail
      refine (of_yes h _).mono ?_
      rintro e w' ⟨rfl, hb'⟩
      have hb2 := hb.trans (hb'.mono hb.size)
      go_wp2_with fail
      refine (pHas_any P a w').mono ?_
      rw [HA.out]
      rintro e w2 ⟨rfl, rfl⟩
      go_wp2_with fail
      go_ret2
      exact ⟨rfl, hb2⟩
    | true =>
      cases hbb : hasB P b with
      | false =>
        rw [show subR P a b = (0, 9) from if_neg (by rw [hbb]; simp)]
        have HA := Lib.hid ha
        have HB := Lib.hid hbb
        clear ha hbb
        go_enter Try.func69, Try.ntmps69
        go_wp2_with fail
        refine (of_yes h _).mono ?_
        rintro e w' ⟨rfl, hb'⟩
        have hb2 := hb.trans (hb'.mono hb.size)
        go_wp2_with fail
        refine (pHas_any P a w').mono ?_
        rw [HA.out]
        rintro e w2 ⟨rfl, rfl⟩
        go_wp2_with fail
        refine (pHas_any P b w').mono ?_
        rw [HB.out]
        rintro e w2 ⟨rfl, rfl⟩
        go_wp2_with fail
        go_ret2
        exact ⟨rfl, hb2⟩
      | true =>
        rw [show subR P a b = ((a - b) % P, 0) from if_pos ⟨h, ha, hbb⟩]
        have ha' : 0 ≤ a ∧ a < P := by simpa [hasB] using ha
        have hb' : 0 ≤ b ∧ b < P := by simpa [hasB] using hbb
        have h1 := h.1
        have h2 := h.2.1
        have HA := Lib.hid ha
        have HB := Lib.hid hbb
        clear ha hbb
        go_enter Try.func69, Try.ntmps69
        go_wp2_with fail
        refine (of_yes h _).mono ?_
        rintro e w' ⟨rfl, hb1⟩
        have hb2 := hb.trans (hb1.mono hb.size)
        go_wp2_with fail
        refine (pHas_any P a w').mono ?_
        rw [HA.out]
        rintro e w2 ⟨rfl, rfl⟩
        go_wp2_with fail
        refine (pHas_any P b w').mono ?_
        rw [HB.out]
        rintro e w2 ⟨rfl, rfl⟩
        go_wp2_with fail
        refine (pSub_any P a b w' (by omega) h2 ha'.1 ha'.2 hb'.1 hb'.2).mono ?_
        rintro e w2 ⟨rfl, rfl⟩
        go_wp2_with fail
        go_ret2
        exact ⟨rfl, hb2⟩
  · rw [show subR P a b = (0, 9) from if_neg (fun hh => h hh.1)]
    go_enter Try.func69, Try.ntmps69
    go_wp2_with fail
    refine (of_no h _).mono ?_
    rintro e w' ⟨rfl, hb'⟩
    go_wp2_with fail
    go_ret2
    exact ⟨rfl, hb.trans (hb'.mono hb.size)⟩

open Classical in
noncomputable def mulR (P a b : Int) : Int × Int := if Valid P ∧ hasB P a = true ∧ hasB P b = true then (a * b % P, 0) else (0, 9)
theorem fMul_any (P a b : Int) (w : World) : Calls Try.prog 70 #[.agg #[.int .i64 P], .int .i64 a, .int .i64 b] w fun e w' => e = .returned (.tuple #[.int .i64 (mulR P a b).1, .int .i64 (mulR P a b).2]) ∧ Below w.heap.size w w' := by
  have hb := (Below.refl w.heap.size w).alloc (Nat.le_refl _) (.cells #[.int .i64 P] 27)
  by_cases h : Valid P
  · cases ha : hasB P a with
    | false =>
      rw [show mulR P a b = (0, 9) from if_neg (by rw [ha]; simp)]
      have HA := Lib.hid ha
      clear ha
      go_enter Try.func70, Try.ntmps70
      go_wp2_with fail
      refine (of_yes h _).mono ?_
      rintro e w' ⟨rfl, hb'⟩
      have hb2 := hb.trans (hb'.mono hb.size)
      go_wp2_with fail
      refine (pHas_any P a w').mono ?_
      rw [HA.out]
      rintro e w2 ⟨rfl, rfl⟩
      go_wp2_with fail
      go_ret2
      exact ⟨rfl, hb2⟩
    | true =>
      cases hbb : hasB P b with
      | false =>
        rw [show mulR P a b = (0, 9) from if_neg (by rw [hbb]; simp)]
        have HA := Lib.hid ha
        have HB := Lib.hid hbb
        clear ha hbb
        go_enter Try.func70, Try.ntmps70
        go_wp2_with fail
        refine (of_yes h _).mono ?_
        rintro e w' ⟨rfl, hb'⟩
        have hb2 := hb.trans (hb'.mono hb.size)
        go_wp2_with fail
        refine (pHas_any P a w').mono ?_
        rw [HA.out]
        rintro e w2 ⟨rfl, rfl⟩
        go_wp2_with fail
        refine (pHas_any P b w').mono ?_
        rw [HB.out]
        rintro e w2 ⟨rfl, rfl⟩
        go_wp2_with fail
        go_ret2
        exact ⟨rfl, hb2⟩
      | true =>
        rw [show mulR P a b = (a * b % P, 0) from if_pos ⟨h, ha, hbb⟩]
        have ha' : 0 ≤ a ∧ a < P := by simpa [hasB] using ha
        have hb' : 0 ≤ b ∧ b < P := by simpa [hasB] using hbb
        have h1 := h.1
        have h2 := h.2.1
        have HA := Lib.hid ha
        have HB := Lib.hid hbb
        clear ha hbb
        go_enter Try.func70, Try.ntmps70
        go_wp2_with fail
        refine (of_yes h _).mono ?_
        rintro e w' ⟨rfl, hb1⟩
        have hb2 := hb.trans (hb1.mono hb.size)
        go_wp2_with fail
        refine (pHas_any P a w').mono ?_
        rw [HA.out]
        rintro e w2 ⟨rfl, rfl⟩
        go_wp2_with fail
        refine (pHas_any P b w').mono ?_
        rw [HB.out]
        rintro e w2 ⟨rfl, rfl⟩
        go_wp2_with fail
        refine (pMul_any P a b w' (by omega) h2 ha'.1 ha'.2 hb'.1 hb'.2).mono ?_
        rintro e w2 ⟨rfl, rfl⟩
        go_wp2_with fail
        go_ret2
        exact ⟨rfl, hb2⟩
  · rw [show mulR P a b = (0, 9) from if_neg (fun hh => h hh.1)]
    go_enter Try.func70, Try.ntmps70
    go_wp2_with fail
    refine (of_no h _).mono ?_
    rintro e w' ⟨rfl, hb'⟩
    go_wp2_with fail
    go_ret2
    exact ⟨rfl, hb.trans (hb'.mono hb.size)⟩

/-- The exponent that a negative number stands for. -/
def negE (P n : Int) : Nat := (-(n.tmod (P - 1))).toNat
open Classical in
noncomputable def powR (P a n : Int) : Int × Int :=
  if Valid P ∧ hasB P a = true then
    if 0 ≤ n then (((a.toNat ^ n.toNat % P.toNat : Nat) : Int), 0)
    else if a = 0 then (0, 10)
    else ((((a.toNat ^ (P.toNat - 2) % P.toNat) ^ negE P n % P.toNat : Nat) : Int), 0)
  else (0, 9)
theorem fPower_any (P a n : Int) (w : World) (n0 : -9223372036854775808 ≤ n) (n1 : n ≤ 9223372036854775807) :
    Calls Try.prog 97 #[.agg #[.int .i64 P], .int .i64 a, .int .i64 n] w fun e w' => e = .returned (.tuple #[.int .i64 (powR P a n).1, .int .i64 (powR P a n).2]) ∧ Below w.heap.size w w' := by
  have hb := (Below.refl w.heap.size w).alloc (Nat.le_refl _) (.cells #[.int .i64 P] 27)
  by_cases h : Valid P
  · cases ha : hasB P a with
    | false =>
      rw [show powR P a n = (0, 9) from if_neg (by rw [ha]; simp)]
      have HA := Lib.hid ha
      clear ha
      go_enter Try.func97, Try.ntmps97
      go_wp2_with fail
      refine (of_yes h _).mono ?_
      rintro e w' ⟨rfl, hb'⟩
      have hb2 := hb.trans (hb'.mono hb.size)
      go_wp2_with fail
      refine (pHas_any P a w').mono ?_
      rw [HA.out]
      rintro e w2 ⟨rfl, rfl⟩
      go_wp2_with fail
      go_ret2
      exact ⟨rfl, hb2⟩
    | true =>
      have ha' : 0 ≤ a ∧ a < P := by simpa [hasB] using ha
      obtain ⟨p, rfl⟩ := Int.eq_ofNat_of_zero_le (show 0 ≤ P by omega)
      obtain ⟨q, rfl⟩ := Int.eq_ofNat_of_zero_le ha'.1
      have h1 := h.1
      have h2 := h.2.1
      have hpp : isP p := by simpa using h.2.2
      by_cases hn : 0 ≤ n
      · obtain ⟨m, rfl⟩ := Int.eq_ofNat_of_zero_le hn
        have hR : powR p q m = (((q ^ m % p : Nat) : Int), 0) := by unfold powR; rw [if_pos ⟨h, ha⟩, if_pos hn]; simp
        rw [hR]
        have HA := Lib.hid ha
        clear ha hR
        go_enter Try.func97, Try.ntmps97
        go_wp2_with fail
        refine (of_yes h _).mono ?_
        rintro e w' ⟨rfl, hb1⟩
        have hb2 := hb.trans (hb1.mono hb.size)
        go_wp2_with fail
        refine (pHas_any p q w').mono ?_
        rw [HA.out]
        rintro e w2 ⟨rfl, rfl⟩
        go_wp2_with fail
        refine (pPower_any p q m w' (by omega) (by omega) (by omega) (by omega)).mono ?_
        rintro e w2 ⟨rfl, rfl⟩
        go_wp2_with fail
        go_ret2
        exact ⟨rfl, hb2⟩
      · by_cases hz : q = 0
        · subst hz
          have hR : powR p (0 : Nat) n = (0, 10) := by unfold powR; rw [if_pos ⟨h, ha⟩, if_neg hn]; simp
          rw [hR]
          have HA := Lib.hid ha
          clear ha hR
          go_enter Try.func97, Try.ntmps97
          go_wp2_with fail
          refine (of_yes h _).mono ?_
          rintro e w' ⟨rfl, hb1⟩
          have hb2 := hb.trans (hb1.mono hb.size)
          go_wp2_with fail
          refine (pHas_any p (0 : Nat) w').mono ?_
          rw [HA.out]
          rintro e w2 ⟨rfl, rfl⟩
          go_wp2_with fail
          go_ret2
          exact ⟨rfl, hb2⟩
        · have hR : powR p q n = ((((q ^ (p - 2) % p) ^ negE p n % p : Nat) : Int), 0) := by unfold powR; rw [if_pos ⟨h, ha⟩, if_neg hn, if_neg (by omega)]; simp
          rw [hR]
          have hzq : ((q : Int) == 0) = false := by simp [hz]
          have hq0 : 0 < q := by omega
          have HA := Lib.hid ha
          clear ha hR hz
          by_cases h3 : 2 < p
          · have hlo := tmod_range n (p := (p : Int) - 1) (by omega)
            have hneg : n.tmod ((p : Int) - 1) ≤ 0 := by
              have := Int.tmod_nonneg (a := -n) ((p : Int) - 1) (by omega)
              rw [Int.neg_tmod] at this
              omega
            obtain ⟨ex, hex⟩ := Int.eq_ofNat_of_zero_le (show 0 ≤ -(n.tmod ((p : Int) - 1)) by omega)
            have hE : negE p n = ex := by unfold negE; rw [hex, Int.toNat_natCast]
            rw [hE]
            have het : n.tmod ((p : Int) - 1) = -(ex : Int) := by omega
            have hexb : ex ≤ 65521 := by omega
            have hwx : IntKind.i64.wrap (ex : Int) = ex := IntWalk.i64_in _ (by omega)
            have hz1 : ((p : Int) - 1 == 0) = false := beq_eq_false_iff_ne.2 (by omega)
            have hz2 : ¬ ((p : Int) - 1 = 0) := by omega
            have hinv := fun W => pInverse_any p q W hpp (by omega) hq0 (by omega)
            have hpow := fun W => pPower_any p (q ^ (p - 2) % p) ex W (by omega) (by omega) (Nat.mod_lt _ (by omega)) (by omega)
            have HI := Lib.hid hinv
            have HW := Lib.hid hpow
            clear hinv hpow hE hlo hneg hex
            go_enter Try.func97, Try.ntmps97
            go_wp2_with fail
            refine (of_yes h _).mono ?_
            rintro e w' ⟨rfl, hb1⟩
            have hb2 := hb.trans (hb1.mono hb.size)
            have hc3 : w'.cell? ⟨w.heap.size, 0, none⟩ = some (.int .i64 p) := by rw [hb1.cell (p := ⟨w.heap.size, 0, none⟩) (by simp)]; simp
            go_wp2_with fail
            refine (pHas_any p q w').mono ?_
            rw [HA.out]
            rintro e w2 ⟨rfl, rfl⟩
            go_wp2_with fail
            go_quiet ((first | (go_at_call 116; first | exact quiet_left (HI.out _) | exact quiet_add_left (HI.out _)) | (go_at_call 115; first | exact quiet_left (HW.out _) | exact quiet_add_left (HW.out _))))
            go_wp2_with fail
            go_ret2
            exact ⟨rfl, below_drewN hb2 _⟩
          · obtain rfl : p = 2 := by omega
            obtain rfl : q = 1 := by omega
            have hE : negE (2 : Nat) n = 0 := by unfold negE; simp
            rw [hE]
            have het : n.tmod 1 = 0 := by simp
            have hinv : ∀ W, Calls Try.prog 116 #[.int .i64 2, .int .i64 1] W fun e w' => e = .returned (.int .i64 1) ∧ W = w' := fun W => pInverse_any 2 1 W hpp (by omega) hq0 (by omega)
            have hpow : ∀ W, Calls Try.prog 115 #[.int .i64 2, .int .i64 1, .int .i64 0] W fun e w' => e = .returned (.int .i64 1) ∧ W = w' := fun W => pPower_any 2 1 0 W (by omega) (by omega) (by omega) (by omega)
            have HI := Lib.hid hinv
            have HW := Lib.hid hpow
            have HA' : hasB 2 1 = true := rfl
            have h' : Valid 2 := h
            have hw0 : IntKind.i64.wrap 0 = 0 := rfl
            have hwn : IntKind.i64.wrap (-0) = 0 := rfl
            clear hinv hpow hE HA
            have HA := Lib.hid HA'
            clear HA'
            show Calls Try.prog 97 #[.agg #[.int .i64 2], .int .i64 1, .int .i64 n] w _
            replace hb : Below w.heap.size w (w.alloc (.cells #[.int .i64 2] 27)) := hb
            go_enter Try.func97, Try.ntmps97
            go_wp2_with fail
            refine (of_yes h' _).mono ?_
            rintro e w' ⟨rfl, hb1⟩
            have hb2 := hb.trans (hb1.mono hb.size)
            have hc3 : w'.cell? ⟨w.heap.size, 0, none⟩ = some (.int .i64 2) := by rw [hb1.cell (p := ⟨w.heap.size, 0, none⟩) (by simp)]; simp
            go_wp2_with fail
            refine (pHas_any 2 1 w').mono ?_
            rw [HA.out]
            rintro e w2 ⟨rfl, rfl⟩
            go_wp2_with fail
            go_quiet ((first | (go_at_call 116; first | exact quiet_left (HI.out _) | exact quiet_add_left (HI.out _)) | (go_at_call 115; first | exact quiet_left (HW.out _) | exact quiet_add_left (HW.out _))))
            go_wp2_with fail
            go_ret2
            exact ⟨rfl, below_drewN hb2 _⟩
  · rw [show powR P a n = (0, 9) from if_neg (fun hh => h hh.1)]
    go_enter Try.func97, Try.ntmps97
    go_wp2_with fail
    refine (of_no h _).mono ?_
    rintro e w' ⟨rfl, hb'⟩
    go_wp2_with fail
    go_ret2
    exact ⟨rfl, hb.trans (hb'.mono hb.size)⟩
theorem fInverse_any (P a : Int) (w : World) :
    Calls Try.prog 68 #[.agg #[.int .i64 P], .int .i64 a] w fun e w' => e = .returned (.tuple #[.int .i64 (powR P a (-1)).1, .int .i64 (powR P a (-1)).2]) ∧ Below w.heap.size w w' := by
  have hb := (Below.refl w.heap.size w).alloc (Nat.le_refl _) (.cells #[.int .i64 P] 27)
  go_enter Try.func68, Try.ntmps68
  go_wp2_with fail
  refine (fPower_any P a (-1) _ (by omega) (by omega)).mono ?_
  rintro e w' ⟨rfl, hb'⟩
  go_wp2_with fail
  go_ret2
  exact ⟨rfl, hb.trans (hb'.mono hb.size)⟩

open Classical in
noncomputable def redR (P n : Int) : Int × Int := if Valid P then (n % P, 0) else (0, 9)
end Go.Proofs.Ytilkjcobkdjlkaa.Field
end
section
namespace Go.Proofs.Ytilkjcobkdjlkaa.Field
open Go Go.RowKit
set_option linter.unusedVariables false

theorem valid_list {p : Int} {d : Nat} (h2 : 2 ≤ p) (h3 : p ≤ 65521) (hd : p < (d : Int) * d) (h : ∀ e, e < d → 2 ≤ e → p % ((e : Nat) : Int) ≠ 0 ∨ p ≤ (e : Int)) : Valid p := by
  refine ⟨h2, h3, ?_⟩
  obtain ⟨q, rfl⟩ := Int.eq_ofNat_of_zero_le (show 0 ≤ p by omega)
  rw [Int.toNat_natCast]
  refine isP_of_root (by omega) fun e he hee hm => ?_
  have hed : e < d := by
    rcases Nat.lt_or_ge e d with h | h
    · exact h
    · have : d * d ≤ e * e := Nat.mul_le_mul h h
      have hd' : q < d * d := by rw [← Int.natCast_mul] at hd; omega
      omega
  rcases h e hed he with h | h
  · exact h (by rw [← Int.natCast_emod, hm]; rfl)
  · have : 2 * e ≤ e * e := Nat.mul_le_mul_right e he
    omega

theorem valid_made {p : Int} (h : p = 2 ∨ p = 3 ∨ p = 5 ∨ p = 7 ∨ p = 11 ∨ p = 13 ∨ p = 17 ∨ p = 257 ∨ p = 65521) : Valid p := by
  rcases h with rfl | rfl | rfl | rfl | rfl | rfl | rfl | rfl | rfl
  · exact valid_list (d := 2) (by decide) (by decide) (by decide) (by decide +kernel)
  · exact valid_list (d := 2) (by decide) (by decide) (by decide) (by decide +kernel)
  · exact valid_list (d := 3) (by decide) (by decide) (by decide) (by decide +kernel)
  · exact valid_list (d := 3) (by decide) (by decide) (by decide) (by decide +kernel)
  · exact valid_list (d := 4) (by decide) (by decide) (by decide) (by decide +kernel)
  · exact valid_list (d := 4) (by decide) (by decide) (by decide) (by decide +kernel)
  · exact valid_list (d := 5) (by decide) (by decide) (by decide) (by decide +kernel)
  · exact valid_list (d := 17) (by decide) (by decide) (by decide) (by decide +kernel)
  · exact valid_list (d := 256) (by decide) (by decide) (by decide) (by decide +kernel)

/-- A power of an element that is not 0. -/
def pw (P a n : Int) : Int := ((a.toNat ^ (n % (P - 1)).toNat % P.toNat : Nat) : Int)

theorem powR_unit {P a : Int} (hv : Valid P) (h0 : 1 ≤ a) (h1 : a < P) (n : Int) : powR P a n = (pw P a n, 0) := by
  have hh : hasB P a = true := by unfold hasB; simp; omega
  have hp := hv.2.2
  have hP2 := hv.1
  have hnd : ¬ P.toNat ∣ a.toNat := not_dvd (by omega) (by omega)
  have hP1 : ((P.toNat - 1 : Nat) : Int) = P - 1 := by omega
  unfold powR
  rw [if_pos ⟨hv, hh⟩]
  by_cases hn : 0 ≤ n
  · rw [if_pos hn, pow_mod_order hp hnd]
    unfold pw
    congr 5
    obtain ⟨m, rfl⟩ := Int.eq_ofNat_of_zero_le hn
    rw [← hP1, Int.toNat_natCast, ← Int.natCast_emod, Int.toNat_natCast]
  · rw [if_neg hn, if_neg (by omega)]
    unfold pw
    rw [← Nat.pow_mod, ← Nat.pow_mul, pow_mod_order hp hnd]
    congr 5
    have hneg : ((negE P n : Nat) : Int) = -(n.tmod (P - 1)) := by
      unfold negE
      have : n.tmod (P - 1) ≤ 0 := by
        have := Int.tmod_nonneg (P - 1) (show 0 ≤ -n by omega)
        rw [Int.neg_tmod] at this
        omega
      omega
    have hz : (((P.toNat - 2) * negE P n % (P.toNat - 1) : Nat) : Int) = n % (P - 1) := by
      rw [Int.natCast_emod, hP1, Int.natCast_mul, hneg, show ((P.toNat - 2 : Nat) : Int) = (P - 1) - 1 by omega]
      rw [Int.tmod_def]
      have e : (P - 1 - 1) * -(n - (P - 1) * n.tdiv (P - 1)) = n + (P - 1) * (-(n - (P - 1) * n.tdiv (P - 1)) - n.tdiv (P - 1)) := by
        generalize n.tdiv (P - 1) = q
        generalize P - 1 = r
        simp only [Int.mul_sub, Int.sub_mul, Int.mul_neg, Int.one_mul]
        omega
      rw [e, Int.add_mul_emod_self_left]
    omega

theorem pw_range {P a n : Int} (hv : Valid P) : 0 ≤ pw P a n ∧ pw P a n < P := by
  have := hv.1
  unfold pw
  have := Nat.mod_lt (a.toNat ^ (n % (P - 1)).toNat) (show 0 < P.toNat by omega)
  omega
theorem pw_add {P a : Int} (hv : Valid P) (h0 : 1 ≤ a) (h1 : a < P) (m n : Int) : pw P a m * pw P a n % P = pw P a (m + n) := by
  have hp := hv.2.2
  have hP2 := hv.1
  have hnd : ¬ P.toNat ∣ a.toNat := not_dvd (by omega) (by omega)
  have hP1 : ((P.toNat - 1 : Nat) : Int) = P - 1 := by omega
  have hm := Int.emod_nonneg m (show P - 1 ≠ 0 by omega)
  have hn := Int.emod_nonneg n (show P - 1 ≠ 0 by omega)
  have hs : ((((m % (P - 1)).toNat + (n % (P - 1)).toNat) % (P.toNat - 1) : Nat) : Int) = (m + n) % (P - 1) := by
    rw [Int.natCast_emod, hP1, Int.natCast_add, Int.toNat_of_nonneg hm, Int.toNat_of_nonneg hn, ← Int.add_emod]
  have hx : ∀ x y : Nat, ((x : Int) * (y : Int)) % P = ((x * y % P.toNat : Nat) : Int) := fun x y => by
    rw [Int.natCast_emod, Int.natCast_mul, Int.toNat_of_nonneg (show 0 ≤ P by omega)]
  unfold pw
  rw [← hs, Int.toNat_natCast, ← pow_mod_order hp hnd, Nat.pow_add, hx, ← Nat.mul_mod]
theorem pw_per {P a : Int} (m k : Int) : pw P a (m + (P - 1) * k) = pw P a m := by
  unfold pw
  rw [Int.add_mul_emod_self_left]
theorem pw_one {P a : Int} (hv : Valid P) : pw P a (P - 1) = 1 := by
  have := hv.1
  unfold pw
  rw [Int.emod_self, Int.toNat_zero, Nat.pow_zero, Nat.mod_eq_of_lt (by omega)]; rfl
theorem mulR_ok {P a b : Int} (hv : Valid P) (ha : 0 ≤ a ∧ a < P) (hb : 0 ≤ b ∧ b < P) : mulR P a b = (a * b % P, 0) := if_pos ⟨hv, by unfold hasB; simp; omega, by unfold hasB; simp; omega⟩
theorem addR_ok {P a b : Int} (hv : Valid P) (ha : 0 ≤ a ∧ a < P) (hb : 0 ≤ b ∧ b < P) : addR P a b = ((a + b) % P, 0) := if_pos ⟨hv, by unfold hasB; simp; omega, by unfold hasB; simp; omega⟩
theorem subR_ok {P a b : Int} (hv : Valid P) (ha : 0 ≤ a ∧ a < P) (hb : 0 ≤ b ∧ b < P) : subR P a b = ((a - b) % P, 0) := if_pos ⟨hv, by unfold hasB; simp; omega, by unfold hasB; simp; omega⟩
end Go.Proofs.Ytilkjcobkdjlkaa.Field
end
section
namespace Go.Proofs.Ytilkjcobkdjlkaa.Field
open Go Go.RowKit
set_option linter.unusedVariables false

theorem rCheck_any (P : Int) (w : World) : Calls Try.prog 66 #[.agg #[.int .i64 P]] w fun e w' => e = .returned (.int .i64 (chk P)) ∧ Below w.heap.size w w' := by
  by_cases h2 : P < 2
  · rw [chk_no (fun h => by have := h.1; omega)]
    go_enter Try.func66, Try.ntmps66
    go_wp2_with fail
    go_ret
    exact ⟨rfl, (Below.refl _ _).alloc (Nat.le_refl _) _⟩
  · by_cases h3 : 65521 < P
    · rw [chk_no (fun h => by have := h.2.1; omega)]
      go_enter Try.func66, Try.ntmps66
      go_wp2_with fail
      go_ret
      exact ⟨rfl, (Below.refl _ _).alloc (Nat.le_refl _) _⟩
    · have hd1 : decide (P < 2) = false := by simp; omega
      have hd2 : decide ((65521 : Int) < P) = false := by simp; omega
      have hP0 : 2 ≤ P := by omega
      have hP1 : P ≤ 65521 := by omega
      clear h2 h3
      go_enter Try.func66, Try.ntmps66
      go_wp2_with fail
      go_loopg [3] 255 (fun gk i wr => DRel P (w.alloc (.cells #[.int .i64 P] 27)) gk i wr)
      case atStart => exact ⟨2, rfl, by decide, rfl, fun e h1 h2 => by omega, rfl⟩
      case round =>
        obtain ⟨d, hg, hd2', rfl, hall, rfl⟩ := hrel
        have hsq := sq_bound (d := d) (by omega)
        obtain ⟨hs1, hs2⟩ := hsq
        have Hall := Lib.hid hall
        clear hall
        by_cases hlt : (d : Int) * d ≤ P
        · have hd255 := sq_small hlt hP1
          by_cases hm : P % (d : Int) = 0
          · have hq : (P % (d : Int) == 0) = true := by simp [hm]
            have hv := Valid.found hd2' hlt hm
            clear hm
            go_wp2_with fail
            go_ret
            exact ⟨by rw [chk_no hv]; rfl, (Below.refl _ _).alloc (Nat.le_refl _) _⟩
          · have hq : (P % (d : Int) == 0) = false := by simp [hm]
            have Hm := Lib.hid hm
            clear hm
            go_wp2_with fail
            go_roundg (gk - 1)
            case measure => omega
            case rel => exact ⟨d + 1, by omega, by omega, by go_num, fun e h1 h2 => by
                  rcases Nat.lt_or_ge e d with h | h
                  · exact Hall.out e h1 h
                  · obtain rfl : e = d := by omega
                    exact Hm.out, rfl⟩
        · have hv := Valid.none hP0 hP1 (by omega) Hall.out
          go_wp2_with fail
          go_ret
          exact ⟨by rw [chk_yes hv]; rfl, (Below.refl _ _).alloc (Nat.le_refl _) _⟩

theorem rCheck_yes {P : Int} (h : Valid P) (w : World) : Calls Try.prog 66 #[.agg #[.int .i64 P]] w fun e w' => e = .returned (.int .i64 0) ∧ Below w.heap.size w w' := by
  have := rCheck_any P w; rwa [chk_yes h] at this
theorem rCheck_no {P : Int} (h : ¬ Valid P) (w : World) : Calls Try.prog 66 #[.agg #[.int .i64 P]] w fun e w' => e = .returned (.int .i64 9) ∧ Below w.heap.size w w' := by
  have := rCheck_any P w; rwa [chk_no h] at this

def RInRel (P : Int) (l : List Int) (w : World) (gk : Nat) (v : Value) (wr : World) : Prop :=
  ∃ i : Nat, gk + i = l.length ∧ v = .int .i64 i ∧ (∀ j (h : j < l.length), j < i → hasB P l[j] = true) ∧ wr = w

theorem rIn_any (P : Int) (l : List Int) (a : Option Addr) (c : Nat) (B : Nat) (w : World) (hr : Rd w B 1 (.slice a l.length c) l.length (l.map (Value.int .i64))) (hl : l.length ≤ 4611686018427387904) (hB : B ≤ w.heap.size) :
    Calls Try.prog 67 #[.agg #[.int .i64 P], .slice a l.length c] w fun e w' => e = .returned (.bool (inB P l)) ∧ Below w.heap.size w w' := by
  have hb := (Below.refl w.heap.size w).alloc (Nat.le_refl _) (.cells #[.int .i64 P] 27)
  by_cases h : Valid P
  · rw [show inB P l = allB P l from if_pos h]
    have HC := Lib.hid (fun W => rCheck_yes h W)
    have HR := Lib.hid hr
    clear hr
    go_enter Try.func67, Try.ntmps67
    go_wp2_with fail
    refine (HC.out _).mono ?_
    rintro e w' ⟨rfl, hb'⟩
    have hc : w'.cell? ⟨w.heap.size, 0, none⟩ = some (.int .i64 P) := by rw [hb'.cell (p := ⟨w.heap.size, 0, none⟩) (by simp)]; simp
    have hb2 := hb.trans (hb'.mono hb.size)
    have HR2 := Lib.hid (HR.out.below hb2 hB)
    have HB := Lib.hid hb2
    clear hb' hb2
    go_wp2_with fail
    go_loopg [12] l.length (fun gk v wr => RInRel P l w' gk v wr)
    case atStart => exact ⟨0, rfl, rfl, (fun j _ h => by omega), rfl⟩
    case round =>
      obtain ⟨i, hg, rfl, hall, rfl⟩ := hrel
      have HA := Lib.hid hall
      clear hall
      by_cases hlt : i < l.length
      · obtain ⟨gb, off, rfl, hgb, hat⟩ : ∃ gb off, a = some ⟨gb, off, none⟩ ∧ gb < B ∧ wr.rangeAt gb off (l.map (Value.int .i64)) := by
          rcases HR2.out.addr with h0 | h0
          · omega
          · exact h0
        have hck : wr.cell? ⟨gb, off + i, none⟩ = some (.int .i64 l[i]) := hat i _ (by simp [hlt])
        have hx0 : ∃ x, x = l[i] := ⟨_, rfl⟩
        obtain ⟨x, hx⟩ := hx0
        rw [← hx] at hck
        have HX := Lib.hid hx
        have HAT := Lib.hid hat
        clear hx hat
        by_cases h1 : x < 0
        · have hq : decide (x < 0) = true := decide_eq_true h1
          have hall : allB P l = false := by
            unfold allB
            rw [List.all_eq_false]
            exact ⟨l[i], List.getElem_mem hlt, by rw [← HX.out]; unfold hasB; simp; omega⟩
          have HALL := Lib.hid hall
          clear hall
          go_wp2_with fail
          go_ret
          exact ⟨by rw [HALL.out]; rfl, HB.out⟩
        · have hq : decide (x < 0) = false := decide_eq_false h1
          by_cases h2 : P ≤ x
          · have hq2 : decide (P ≤ x) = true := decide_eq_true h2
            have hall : allB P l = false := by
              unfold allB
              rw [List.all_eq_false]
              exact ⟨l[i], List.getElem_mem hlt, by rw [← HX.out]; unfold hasB; simp; omega⟩
            have HALL := Lib.hid hall
            clear hall
            go_wp2_with fail
            go_ret
            exact ⟨by rw [HALL.out]; rfl, HB.out⟩
          · have hq2 : decide (P ≤ x) = false := decide_eq_false h2
            have hyes : hasB P x = true := by unfold hasB; simp; omega
            have HY := Lib.hid hyes
            clear hyes
            go_wp2_with fail
            go_roundg (gk - 1)
            case measure => omega
            case rel =>
              refine ⟨i + 1, by omega, by go_num, fun j hj hji => ?_, rfl⟩
              rcases Nat.lt_or_ge j i with h | h
              · exact HA.out j hj h
              · obtain rfl : j = i := by omega
                rw [← HX.out]; exact HY.out
      · have hall : allB P l = true := by
          unfold allB
          rw [List.all_eq_true]
          intro y hy
          obtain ⟨j, hj, rfl⟩ := List.getElem_of_mem hy
          exact HA.out j hj (by omega)
        have HALL := Lib.hid hall
        clear hall
        go_wp2_with fail
        go_ret
        exact ⟨by rw [HALL.out]; rfl, HB.out⟩
  · rw [show inB P l = false from if_neg h]
    go_enter Try.func67, Try.ntmps67
    go_wp2_with fail
    refine (rCheck_no h _).mono ?_
    rintro e w' ⟨rfl, hb'⟩
    go_wp2_with fail
    go_ret
    exact ⟨rfl, hb.trans (hb'.mono hb.size)⟩

theorem rd_two (w : World) (t : TypeId) (a b : Int) : Rd (w.alloc (.cells #[.int .i64 a, .int .i64 b] t)) (w.heap.size + 1) 1 (.slice (some ⟨w.heap.size, 0, none⟩) 2 2) 2 ([a, b].map (Value.int .i64)) := by
  refine ⟨rfl, _, _, rfl, Nat.le_refl _, by decide, fun _ => ⟨w.heap.size, 0, rfl, Nat.lt_succ_self _, fun j u hu => ?_⟩⟩
  rw [Nat.zero_add, World.cell?_alloc_new]
  match j, hu with
  | 0, hu => exact hu
  | 1, hu => exact hu
theorem rd_one (w : World) (t : TypeId) (a : Int) : Rd (w.alloc (.cells #[.int .i64 a] t)) (w.heap.size + 1) 1 (.slice (some ⟨w.heap.size, 0, none⟩) 1 1) 1 ([a].map (Value.int .i64)) := by
  refine ⟨rfl, _, _, rfl, Nat.le_refl _, by decide, fun _ => ⟨w.heap.size, 0, rfl, Nat.lt_succ_self _, fun j u hu => ?_⟩⟩
  rw [Nat.zero_add, World.cell?_alloc_new]
  match j, hu with
  | 0, hu => exact hu
theorem rIn_two (P a b : Int) (w : World) : Calls Try.prog 67 #[.agg #[.int .i64 P], .slice (some ⟨w.heap.size, 0, none⟩) 2 2] (w.alloc (.cells #[.int .i64 a, .int .i64 b] 3)) fun e w' => e = .returned (.bool (inB P [a, b])) ∧ Below w.heap.size w w' :=
  (rIn_any P [a, b] (some ⟨w.heap.size, 0, none⟩) 2 (w.heap.size + 1) _ (rd_two w 3 a b) (by simp) (by simp)).mono fun e w' ⟨he, hb⟩ => ⟨he, ((Below.refl w.heap.size w).alloc (Nat.le_refl _) _).trans (hb.mono (by simp))⟩
theorem rIn_one (P a : Int) (w : World) : Calls Try.prog 67 #[.agg #[.int .i64 P], .slice (some ⟨w.heap.size, 0, none⟩) 1 1] (w.alloc (.cells #[.int .i64 a] 3)) fun e w' => e = .returned (.bool (inB P [a])) ∧ Below w.heap.size w w' :=
  (rIn_any P [a] (some ⟨w.heap.size, 0, none⟩) 1 (w.heap.size + 1) _ (rd_one w 3 a) (by simp) (by simp)).mono fun e w' ⟨he, hb⟩ => ⟨he, ((Below.refl w.heap.size w).alloc (Nat.le_refl _) _).trans (hb.mono (by simp))⟩
theorem inB_two {P a b : Int} : inB P [a, b] = true ↔ Valid P ∧ hasB P a = true ∧ hasB P b = true := by
  unfold inB
  by_cases h : Valid P
  · rw [if_pos h]; simp [allB, h]
  · rw [if_neg h]; simp [h]

end Go.Proofs.Ytilkjcobkdjlkaa.Field
end
section
namespace Go.Proofs.Ytilkjcobkdjlkaa.Field
open Go Go.RowKit
set_option linter.unusedVariables false

end Go.Proofs.Ytilkjcobkdjlkaa.Field
end
section
namespace Go.Proofs.Ytilkjcobkdjlkaa.Field
open Go Go.RowKit
set_option linter.unusedVariables false

theorem rPow_any (p a n : Nat) (w : World) (hp : 2 ≤ p) (hp1 : p ≤ 65521) (ha : a < p) (hn : n < 9223372036854775808) :
    Calls Try.prog 120 #[.agg #[.int .i64 p], .int .i64 a, .int .i64 n] w fun e w' => e = .returned (.int .i64 ((a ^ n % p : Nat) : Int)) ∧ Below w.heap.size w w' := by
  have hz1 : ((p : Int) == 0) = false := beq_eq_false_iff_ne.2 (by omega)
  have ht1 : (1 : Int).tmod p = 1 := Int.tmod_eq_of_lt (by omega) (by omega)
  go_enter Try.func120, Try.ntmps120
  go_wp2_with fail
  go_loopg [1, 2, 7] n (fun gk v1 v2 v7 wr => PRel p a n (w.alloc (.cells #[.int .i64 p] 27)) gk v1 v2 v7 wr)
  case atStart => exact ⟨1, a, rfl, rfl, rfl, by omega, ha, hn, by rw [Nat.one_mul], rfl⟩
  case round =>
    obtain ⟨x, b, rfl, rfl, rfl, hx, hb, hg, he, rfl⟩ := hrel
    have He := Lib.hid he
    clear he
    have ha1 := and1_i64 gk hg
    have hxb := mul_bound (p := (p : Int)) (a := x) (b := b) (by omega) (by omega) (by omega) (by omega) (by omega)
    have hbb := mul_bound (p := (p : Int)) (a := b) (b := b) (by omega) (by omega) (by omega) (by omega) (by omega)
    obtain ⟨hxb1, hxb2⟩ := hxb
    obtain ⟨hbb1, hbb2⟩ := hbb
    by_cases h0 : 0 < gk
    · by_cases h1 : gk % 2 = 1
      · have hq : (bits .and .i64 (gk : Int) 1 == 1) = true := by rw [ha1, h1]; rfl
        have ho := pow_step_odd (p := p) (x := x) (a := b) h1
        have Ho := Lib.hid ho
        clear ha1 h1 ho
        go_wp2_with fail
        go_roundg (gk / 2)
        case measure => omega
        case rel => exact ⟨x * b % p, b * b % p, by simp, by simp, by simp, Nat.mod_lt _ (by omega), Nat.mod_lt _ (by omega), by omega, by rw [Ho.out, He.out], rfl⟩
      · have hq : (bits .and .i64 (gk : Int) 1 == 1) = false := by rw [ha1, show gk % 2 = 0 by omega]; rfl
        have ho := pow_step_even (p := p) (x := x) (a := b) (m := gk) (by omega)
        have Ho := Lib.hid ho
        clear ha1 h1 ho
        go_wp2_with fail
        go_roundg (gk / 2)
        case measure => omega
        case rel => exact ⟨x, b * b % p, by simp, by simp, by simp, hx, Nat.mod_lt _ (by omega), by omega, by rw [Ho.out, He.out], rfl⟩
    · clear ha1
      obtain rfl : gk = 0 := by omega
      go_wp2_with fail
      go_ret
      have h := He.out
      rw [Nat.pow_zero, Nat.mul_one, Nat.mod_eq_of_lt hx] at h
      exact ⟨by rw [← h]; rfl, (Below.refl _ _).alloc (Nat.le_refl _) _⟩

theorem rInv_any (p a : Nat) (w : World) (hp : 2 ≤ p) (hp1 : p ≤ 65521) (ha : a < p) :
    Calls Try.prog 111 #[.agg #[.int .i64 p], .int .i64 a] w fun e w' => e = .returned (.int .i64 ((a ^ (p - 2) % p : Nat) : Int)) ∧ Below w.heap.size w w' := by
  have hb := (Below.refl w.heap.size w).alloc (Nat.le_refl _) (.cells #[.int .i64 p] 27)
  have hpp : ((p : Int) - 2) = ((p - 2 : Nat) : Int) := by omega
  have hP0 := fun W => rPow_any p a (p - 2) W hp hp1 ha (by omega)
  rw [← hpp] at hP0
  generalize a ^ (p - 2) % p = r at hP0 ⊢
  have hP := Lib.hid hP0
  clear hP0 hpp
  go_enter Try.func111, Try.ntmps111
  go_wp2_with fail
  refine (hP.out _).mono ?_
  rintro e w' ⟨rfl, hb'⟩
  go_wp2_with fail
  go_ret
  exact ⟨rfl, hb.trans (hb'.mono hb.size)⟩

theorem inv_zero {P : Int} (hv : Valid P) : powR P 0 (-1) = (0, 10) := by
  have := hv.1
  unfold powR
  rw [if_pos ⟨hv, by unfold hasB; simp; omega⟩, if_neg (by decide), if_pos rfl]
theorem inB_one {P a : Int} : inB P [a] = true ↔ Valid P ∧ hasB P a = true := by
  unfold inB
  by_cases h : Valid P
  · rw [if_pos h]; simp [allB, h]
  · rw [if_neg h]; simp [h]
theorem pw_neg1 {P a : Int} (hv : Valid P) : pw P a (-1) = ((a.toNat ^ (P.toNat - 2) % P.toNat : Nat) : Int) := by
  have := hv.1
  have h : (-1 : Int) % (P - 1) = P - 2 := by
    rw [show (-1 : Int) = P - 2 + (P - 1) * (-1) by omega, Int.add_mul_emod_self_left, Int.emod_eq_of_lt (by omega) (by omega)]
  unfold pw
  rw [h, show (P - 2).toNat = P.toNat - 2 by omega]

theorem rInverse_any (P a : Int) (w : World) : Calls Try.prog 93 #[.agg #[.int .i64 P], .int .i64 a] w fun e w' => e = .returned (.tuple #[.int .i64 (powR P a (-1)).1, .int .i64 (powR P a (-1)).2]) ∧ Below w.heap.size w w' := by
  have hb := (Below.refl w.heap.size w).alloc (Nat.le_refl _) (.cells #[.int .i64 P] 27)
  have hi := rIn_one P a (w.alloc (.cells #[.int .i64 P] 27))
  by_cases h : inB P [a] = true
  · rw [h] at hi
    simp only [World.size_alloc] at hi
    obtain ⟨hv, hha⟩ := inB_one.1 h
    have ha : 0 ≤ a ∧ a < P := by simpa [hasB] using hha
    have HI := Lib.hid hi
    have hP := hv.1
    have hP2 := hv.2.1
    by_cases h0 : a = 0
    · subst h0
      rw [inv_zero hv]
      clear hi h hv hha
      go_enter Try.func93, Try.ntmps93
      go_wp2_with fail
      refine (HI.out).mono ?_
      rintro e w' ⟨rfl, hb'⟩
      have HB := Lib.hid (hb.trans (hb'.mono (by simp)))
      clear hb'
      go_wp2_with fail
      go_ret2
      exact ⟨rfl, HB.out⟩
    · have hq : (a == 0) = false := by simpa using h0
      rw [powR_unit hv (by omega) ha.2, pw_neg1 hv]
      have hinv := fun W => rInv_any P.toNat a.toNat W (by omega) (by omega) (by omega)
      rw [Int.toNat_of_nonneg (show 0 ≤ P by omega), Int.toNat_of_nonneg ha.1] at hinv
      generalize a.toNat ^ (P.toNat - 2) % P.toNat = r at hinv ⊢
      have HV := Lib.hid hinv
      clear hi h hv hha hinv h0
      go_enter Try.func93, Try.ntmps93
      go_wp2_with fail
      refine (HI.out).mono ?_
      rintro e w' ⟨rfl, hb'⟩
      have hc : w'.cell? ⟨w.heap.size, 0, none⟩ = some (.int .i64 P) := by rw [hb'.cell (p := ⟨w.heap.size, 0, none⟩) (by simp)]; simp
      have hb2 := hb.trans (hb'.mono (by simp))
      have HB := Lib.hid hb2
      have hs2 := hb2.size
      clear hb' hb2
      go_wp2_with fail
      refine (HV.out _).mono ?_
      rintro e w2 ⟨rfl, hb3⟩
      go_wp2_with fail
      go_ret2
      exact ⟨rfl, HB.out.trans (hb3.mono hs2)⟩
  · have h' : inB P [a] = false := by simpa using h
    rw [h'] at hi
    rw [show powR P a (-1) = (0, 9) from if_neg (fun hh => h (inB_one.2 hh))]
    simp only [World.size_alloc] at hi
    have HI := Lib.hid hi
    clear hi h h'
    go_enter Try.func93, Try.ntmps93
    go_wp2_with fail
    refine (HI.out).mono ?_
    rintro e w' ⟨rfl, hb'⟩
    go_wp2_with fail
    go_ret2
    exact ⟨rfl, hb.trans (hb'.mono (by simp))⟩
end Go.Proofs.Ytilkjcobkdjlkaa.Field
end
