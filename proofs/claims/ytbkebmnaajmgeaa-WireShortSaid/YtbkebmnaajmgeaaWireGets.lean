/- count, Text, List of the program and of the reference: what any bytes mean. -/
import Derived.Test.YtbkebmnaajmgeaaWireGet
import Derived.Test.YtbkebmnaajmgeaaWireLaws
import Derived.Test.YtbkebmnaajmgeaaBytes
namespace Go.Proofs.Ytbkebmnaajmgeaa.Wire
open Go Go.RowKit
set_option linter.unusedVariables false
attribute [local go_sem] extract_list

/-- A number of elements: the number, the index behind it, the error. -/
def getC (l : List UInt8) (at_ most : Int) : Int × Int × Int :=
  if (getI l at_).2.2 ≠ 0 then (0, 0, (getI l at_).2.2) else if (getI l at_).1 < 0 then (0, 0, 2) else if most < (getI l at_).1 then (0, 0, 4) else getI l at_
/-- A text. -/
def getT (l : List UInt8) (at_ most : Int) : List UInt8 × Int × Int :=
  if (getC l at_ most).2.2 ≠ 0 then ([], 0, (getC l at_ most).2.2)
  else if (l.length : Int) - (getC l at_ most).2.1 < (getC l at_ most).1 then ([], 0, 3)
  else ((l.drop (getC l at_ most).2.1.toNat).take (getC l at_ most).1.toNat, (getC l at_ most).2.1 + (getC l at_ most).1, 0)

theorem getI_err {l : List UInt8} {a : Int} (h : (getI l a).2.2 ≠ 0) : getI l a = (0, 0, (getI l a).2.2) := by
  unfold getI at h ⊢
  split
  · rfl
  · rename_i hr
    rw [if_neg hr] at h
    rcases hrd : rd 0 0 (l.drop a.toNat) with ⟨x, k, e⟩
    rw [hrd] at h
    cases e with
    | zero => exact absurd rfl h
    | succ e => rfl
theorem getI_ok {l : List UInt8} {a : Int} (h : (getI l a).2.2 = 0) : ∃ (n : Nat) (j : Nat), a = n ∧ (getI l a).2.1 = n + j ∧ 1 ≤ j ∧ n + j ≤ l.length ∧ (l.drop n).take j = putB (getI l a).1 ∧ -9223372036854775808 ≤ (getI l a).1 ∧ (getI l a).1 ≤ 9223372036854775807 := by
  by_cases hr : a < 0 ∨ (l.length : Int) < a
  · unfold getI at h; rw [if_pos hr] at h; simp at h
  · obtain ⟨n, rfl⟩ := Int.eq_ofNat_of_zero_le (show 0 ≤ a by omega)
    rcases hg : getI l n with ⟨x, k, e⟩
    rw [hg] at h
    simp only at h
    subst h
    obtain ⟨j, h1, h2, _, h4, h5, h6, h7⟩ := getI_sound hg
    exact ⟨n, j, rfl, h1, h2, h4, h5, h6, h7⟩

def Post3 (w : World) (r : Int × Int × Int) (e : Ending) (w' : World) : Prop := e = .returned (.tuple #[.int .i64 r.1, .int .i64 r.2.1, .int .i64 r.2.2]) ∧ w = w'

theorem wCount_any (s : List UInt8) (a most : Int) (w : World) (hs : s.length ≤ 2 ^ 62) :
    Calls Try.prog 12 #[.string ⟨s.toArray⟩, .int .i64 a, .int .i64 most] w (Post3 w (getC s a most)) := by
  rcases hg : getI s a with ⟨x, k, er⟩
  have hgc : getC s a most = if er ≠ 0 then (0, 0, er) else if x < 0 then (0, 0, 2) else if most < x then (0, 0, 4) else (x, k, er) := by unfold getC; rw [hg]
  have hi := wInt_any s a w hs
  unfold IntPost at hi
  rw [hg] at hi
  rw [hgc]
  have HI := Lib.hid hi
  clear hi hg hgc
  by_cases he : er = 0
  · subst he
    by_cases h1 : x < 0
    · go_enter Try.func12, Try.ntmps12
      go_wp2_with fail
      refine (HI.out).mono ?_
      rintro e w' ⟨rfl, rfl⟩
      go_wp2_with fail
      go_ret3
      exact ⟨by simp, rfl⟩
    · by_cases h2 : most < x
      · go_enter Try.func12, Try.ntmps12
        go_wp2_with fail
        refine (HI.out).mono ?_
        rintro e w' ⟨rfl, rfl⟩
        go_wp2_with fail
        go_ret3
        exact ⟨by simp, rfl⟩
      · go_enter Try.func12, Try.ntmps12
        go_wp2_with fail
        refine (HI.out).mono ?_
        rintro e w' ⟨rfl, rfl⟩
        go_wp2_with fail
        go_ret3
        exact ⟨by simp, rfl⟩
  · have hq : (er != 0) = true := by simp [he]
    go_enter Try.func12, Try.ntmps12
    go_wp2_with fail
    refine (HI.out).mono ?_
    rintro e w' ⟨rfl, rfl⟩
    go_wp2_with fail
    go_ret3
    exact ⟨by simp, rfl⟩

def PostT (w : World) (r : List UInt8 × Int × Int) (e : Ending) (w' : World) : Prop := e = .returned (.tuple #[.string ⟨r.1.toArray⟩, .int .i64 r.2.1, .int .i64 r.2.2]) ∧ w = w'

theorem getC_ok {l : List UInt8} {a most : Int} (h : (getC l a most).2.2 = 0) : getC l a most = getI l a ∧ 0 ≤ (getI l a).1 ∧ (getI l a).1 ≤ most ∧ (getI l a).2.2 = 0 := by
  unfold getC at h ⊢
  split
  · rename_i h1; rw [if_pos h1] at h; exact absurd h h1
  · rename_i h1
    rw [if_neg h1] at h
    split
    · rename_i h2; rw [if_pos h2] at h; simp at h
    · rename_i h2
      rw [if_neg h2] at h
      split
      · rename_i h3; rw [if_pos h3] at h; simp at h
      · rename_i h3
        exact ⟨rfl, by omega, by omega, by simpa using h1⟩

theorem wText_any (s : List UInt8) (a most : Int) (w : World) (hs : s.length ≤ 2 ^ 62) :
    Calls Try.prog 9 #[.string ⟨s.toArray⟩, .int .i64 a, .int .i64 most] w (PostT w (getT s a most)) := by
  have hc := wCount_any s a most w hs
  by_cases he : (getC s a most).2.2 = 0
  · obtain ⟨h1, h2, h3, h4⟩ := getC_ok he
    obtain ⟨n, j, rfl, hk, hj, hle, _, hx0, hx1⟩ := getI_ok h4
    obtain ⟨m, hm⟩ := Int.eq_ofNat_of_zero_le h2
    rcases hg : getI s n with ⟨x, k, er⟩
    rw [hg] at h1 h2 h3 h4 hk hx0 hx1 hm
    simp only at h1 h2 h3 h4 hk hx0 hx1 hm
    subst h4
    subst hm
    obtain rfl : k = ((n + j : Nat) : Int) := by omega
    unfold Post3 at hc
    rw [h1] at hc
    have hgt : getT s n most = if (s.length : Int) - ((n + j : Nat) : Int) < m then ([], 0, 3) else ((s.drop (n + j)).take m, ((n + j : Nat) : Int) + m, 0) := by
      unfold getT; rw [h1]; simp only [ne_eq, not_true_eq_false, if_false, Int.toNat_natCast]
    rw [hgt]
    generalize n + j = q at *
    have HC := Lib.hid hc
    clear hc h1 hg hgt hk he
    by_cases hl : (s.length : Int) - (q : Int) < m
    · rw [if_pos hl]
      go_enter Try.func9, Try.ntmps9
      go_wp2_with fail
      refine (HC.out).mono ?_
      rintro e w' ⟨rfl, rfl⟩
      go_wp2_with fail
      go_ret3
      exact ⟨rfl, rfl⟩
    · have hb : q + m ≤ s.length := by omega
      rw [if_neg hl]
      go_enter Try.func9, Try.ntmps9
      go_wp2_with fail
      refine (HC.out).mono ?_
      rintro e w' ⟨rfl, rfl⟩
      go_wp2_with fail
      go_ret3
      exact ⟨by simp, rfl⟩
  · have hgt : getT s a most = ([], 0, (getC s a most).2.2) := by unfold getT; rw [if_pos he]
    rw [hgt]
    unfold Post3 at hc
    generalize getC s a most = r at *
    have HC := Lib.hid hc
    have hq : (r.2.2 != 0) = true := by simp [he]
    clear hc hgt he
    go_enter Try.func9, Try.ntmps9
    go_wp2_with fail
    refine (HC.out).mono ?_
    rintro e w' ⟨rfl, rfl⟩
    go_wp2_with fail
    go_ret3
    exact ⟨rfl, rfl⟩
/-- n numbers, one after the other: the numbers, the index behind them, the error. -/
def rdL : Nat → List UInt8 → Int → List Int → List Int × Int × Int
  | 0, _, a, acc => (acc, a, 0)
  | n + 1, l, a, acc => if (getI l a).2.2 ≠ 0 then ([], 0, (getI l a).2.2) else rdL n l (getI l a).2.1 (acc ++ [(getI l a).1])
/-- A list. -/
def getL (l : List UInt8) (at_ most : Int) : List Int × Int × Int :=
  if (getC l at_ most).2.2 ≠ 0 then ([], 0, (getC l at_ most).2.2) else rdL (getC l at_ most).1.toNat l (getC l at_ most).2.1 []

def PostL (w : World) (r : List Int × Int × Int) (e : Ending) (w' : World) : Prop :=
  ∃ ad c, e = .returned (.tuple #[.slice ad r.1.length c, .int .i64 r.2.1, .int .i64 r.2.2]) ∧ Own w' w.heap.size 1 (.slice ad r.1.length c) r.1.length (r.1.map (Value.int .i64)) ∧ Below w.heap.size w w'

theorem infoInt : (Try.prog.info? 3).map (fun i => (i.zero, i.size, i.bytes)) = some (some (.int .i64 0), 1, 8) := by kernel_rfl

/-- Between two numbers of a list. -/
def LRel (s : List UInt8) (w : World) (m q gk : Nat) (v1 v11 v27 : Value) (wr : World) : Prop :=
  ∃ (i : Nat) (a : Int) (acc : List Int) (ad : Option Addr) (c : Nat), gk + i = m ∧ v27 = .int .i64 i ∧ v1 = .int .i64 a ∧ v11 = .slice ad acc.length c ∧ Own wr w.heap.size 1 (.slice ad acc.length c) acc.length (acc.map (Value.int .i64)) ∧
    Below w.heap.size w wr ∧ rdL m s q [] = rdL gk s a acc ∧ (acc.length : Int) ≤ a ∧ a ≤ s.length

theorem wList_any (s : List UInt8) (a most : Int) (w : World) (hs : s.length ≤ 2 ^ 62) (hs' : (getC s a most).2.2 = 0 → s.length ≤ 2 ^ 40) :
    Calls Try.prog 10 #[.string ⟨s.toArray⟩, .int .i64 a, .int .i64 most] w (PostL w (getL s a most)) := by
  have hc := wCount_any s a most w (by omega)
  by_cases he : (getC s a most).2.2 = 0
  · have hs := hs' he
    clear hs'
    obtain ⟨h1, h2, h3, h4⟩ := getC_ok he
    obtain ⟨n, j, rfl, hk, hj, hle, _, hx0, hx1⟩ := getI_ok h4
    obtain ⟨m, hm⟩ := Int.eq_ofNat_of_zero_le h2
    rcases hg : getI s n with ⟨x, k, er⟩
    rw [hg] at h1 h2 h3 h4 hk hx0 hx1 hm
    simp only at h1 h2 h3 h4 hk hx0 hx1 hm
    subst h4
    subst hm
    obtain rfl : k = ((n + j : Nat) : Int) := by omega
    unfold Post3 at hc
    rw [h1] at hc
    have hgt : getL s n most = rdL m s ((n + j : Nat) : Int) [] := by unfold getL; rw [h1]; simp only [ne_eq, not_true_eq_false, if_false, Int.toNat_natCast]
    rw [hgt]
    generalize n + j = q at *
    have HC := Lib.hid hc
    clear hc h1 hg hgt hk he
    go_enter Try.func10, Try.ntmps10
    go_wp2_with fail
    refine (HC.out).mono ?_
    rintro e w' ⟨rfl, rfl⟩
    go_wp2_with fail
    obtain ⟨i0, hi, hz0, hz1, hz2⟩ := info_parts infoInt
    go_loopg [1, 11, 27] m (fun gk v1 v11 v27 wr => LRel s w m q gk v1 v11 v27 wr)
    case atStart => exact ⟨0, q, [], none, 0, rfl, rfl, rfl, rfl, Own.nil _ _ _, Below.refl _ _, rfl, by simp, by omega⟩
    case round =>
      obtain ⟨i, a, acc, ad, c, hgk, rfl, rfl, rfl, hown, hb, hrd, ha0, ha1⟩ := hrel
      have hsz := hb.size
      have Hrd := Lib.hid hrd
      clear hrd
      by_cases hlt : i < m
      · obtain ⟨g, rfl⟩ : ∃ g, gk = g + 1 := ⟨gk - 1, by omega⟩
        have hc := wInt_any s a wr (by omega)
        unfold IntPost at hc
        by_cases he : (getI s a).2.2 = 0
        · obtain ⟨n1, j1, rfl, hk1, hj1, hle1, _, hx0, hx1⟩ := getI_ok he
          have hstep : rdL (g + 1) s n1 acc = rdL g s (getI s n1).2.1 (acc ++ [(getI s n1).1]) := by rw [rdL, if_neg (by simpa using he)]
          rw [he] at hc
          rw [hstep] at Hrd
          generalize (getI s n1).1 = x at *
          generalize (getI s n1).2.1 = y at *
          have HC := Lib.hid hc
          clear hc he hstep
          have Hk := Lib.hid hk1
          clear hk1
          go_wp2_with fail
          refine (HC.out).mono ?_
          rintro e w' ⟨rfl, rfl⟩
          go_wp2_with (at_builtin; refine wpList_append_mine rfl _ _ 22 22 rfl 3 i0 _ 8 Try.underlying22 hi hz0 hz1 hz2 rfl rfl (hown.alloc _) (by simp; omega) _ rfl 1 [.int .i64 x] (Src.ofSlice _ Try.underlying22 ⟨wr.heap.size, 0, none⟩ 1 1 _ rfl (cell_one_new _ _ _) (by simp [Value.oneCell'])) (by simp only [maxLen]; omega) (by omega) ?_; intro ad2 c2 w2 ho2 hg2 hat2)
          go_roundg g
          case measure => omega
          case rel =>
            have e1 := Hk.out
            refine ⟨i + 1, y, acc ++ [x], ad2, c2, by omega, by go_num, rfl, by simp, by simpa using ho2, ?_, Hrd.out, by rw [List.length_append, List.length_singleton]; omega, by omega⟩
            exact (hb.alloc hsz _).grown hg2 (by simp; omega) (fun k hk => (hown.lt hk).2)
        · have hstep : rdL (g + 1) s a acc = ([], 0, (getI s a).2.2) := by rw [rdL, if_pos he]
          rw [hstep] at Hrd
          have hq : ((getI s a).2.2 != 0) = true := by simp [he]
          generalize getI s a = r at *
          have HC := Lib.hid hc
          clear hc he hstep
          go_wp2_with fail
          refine (HC.out).mono ?_
          rintro e w' ⟨rfl, rfl⟩
          go_wp2_with fail
          go_ret3
          exact ⟨none, 0, by rw [Hrd.out]; rfl, by rw [Hrd.out]; exact Own.nil _ _ _, hb⟩
      · obtain rfl : gk = 0 := by omega
        go_wp2_with fail
        go_ret3
        exact ⟨ad, c, by rw [Hrd.out]; rfl, by rw [Hrd.out]; exact hown, hb⟩
  · have hgt : getL s a most = ([], 0, (getC s a most).2.2) := by unfold getL; rw [if_pos he]
    rw [hgt]
    unfold Post3 at hc
    generalize getC s a most = r at *
    have HC := Lib.hid hc
    have hq : (r.2.2 != 0) = true := by simp [he]
    clear hc hgt he
    go_enter Try.func10, Try.ntmps10
    go_wp2_with fail
    refine (HC.out).mono ?_
    rintro e w' ⟨rfl, rfl⟩
    go_wp2_with fail
    go_ret3
    exact ⟨none, 0, rfl, Own.nil _ _ _, Below.refl _ _⟩
/-- Between two numbers of a list, in the reference. -/
def LRel2 (s : List UInt8) (w : World) (m q gk : Nat) (v1 v11 : Value) (wr : World) : Prop :=
  ∃ (a : Int) (acc : List Int) (ad : Option Addr) (c : Nat), gk + acc.length = m ∧ v1 = .int .i64 a ∧ v11 = .slice ad acc.length c ∧ Own wr w.heap.size 1 (.slice ad acc.length c) acc.length (acc.map (Value.int .i64)) ∧
    Below w.heap.size w wr ∧ rdL m s q [] = rdL gk s a acc ∧ (acc.length : Int) ≤ a ∧ a ≤ s.length

end Go.Proofs.Ytbkebmnaajmgeaa.Wire
