/- The bytes of views. -/
import Derived.Test.YtihjmnhjjpdenaaMWirePlain
import Derived.Test.YtihjmnhjjpdenaaRows
import Derived.WalkKit
import Derived.WalkSpells
import Derived.WalkLawsBesides
import Derived.Outline
import Derived.Deep.DeepFit
import Derived.OwnWalk
import Derived.Below
import Derived.Lib.Hide
import Derived.Laws.BytesArg
import Derived.Test.YtihjmnhjjpdenaaMWirePut
import Derived.Test.YtihjmnhjjpdenaaMVwP
section
namespace Go.Proofs.Ytihjmnhjjpdenaa.Wire
open Go Go.RowKit
set_option linter.unusedVariables false

/-- 'string([]byte{x})'. -/
theorem conv1 (x : Int) (w : World) : (convert 22 9 (.slice (some ⟨w.heap.size, 0, none⟩) 1 1)).run Try.prog (w.alloc (.cells #[.int .u8 x] 5)) = .ok (.string ⟨[UInt8.ofNat x.toNat].toArray⟩) (w.alloc (.cells #[.int .u8 x] 5)) := by
  have h := run_convert_bytes_arg (P := Try.prog) (w.alloc (.cells #[.int .u8 x] 5)) 22 5 Try.underlying22 Try.underlying5 w.heap.size 0 1 1 [x] rfl (fun i hi => by
    obtain rfl : i = 0 := by omega
    simp) 9 Try.underlying9
  rw [h]
  simp [strOfNums]

set_option maxHeartbeats 400000 in
theorem rPutInt_any (s : List UInt8) (n : Int) (w : World) (h0 : -9223372036854775808 ≤ n) (h1 : n ≤ 9223372036854775807) (hs : s.length ≤ 2 ^ 62) :
    Calls Try.prog 41 #[.string ⟨s.toArray⟩, .int .i64 n] w fun e w' => e = .returned (.string ⟨(s ++ putB n).toArray⟩) ∧ Below w.heap.size w w' := by
  have Z := zz_walk h0 h1
  have L := (putB_len h0 h1).1
  have hzz := zz_lt h0 h1
  have HZ := Lib.hid Z
  clear Z
  go_enter Try.func41, Try.ntmps41
  go_wp2
  go_loopw [0, 5] (fun v u wr => ∃ (pre : List UInt8) (k : Nat), v = .string ⟨(s ++ pre).toArray⟩ ∧ u = .int .u64 k ∧ k < 18446744073709551616 ∧ pre ++ vb k = putB n ∧ Below w.heap.size w wr) (fun _ u _ => (intOf u).toNat)
  case atStart => exact ⟨[], zz n, by simp, by simp only [IntKind.wrap_u64]; rw [HZ.out], hzz, rfl, Below.refl _ _⟩
  case round =>
    obtain ⟨pre, k, rfl, rfl, hk, he, hb⟩ := hrel
    have hpl : pre.length ≤ 10 := by rw [← he] at L; simp at L; omega
    have he' := Lib.hid he
    clear he
    have c1 := conv1
    have hsz := hb.size
    by_cases hlt : 127 < k
    · go_wp2
      refine ⟨⟨pre ++ [UInt8.ofNat (k % 128 + 128)], k / 128, ?_, by go_num, by omega, ?_, hb.alloc hsz _⟩, by simp [intOf]; omega⟩
      · rw [byteBig, ByteArray.mk_append_mk, List.append_assoc]
      · rw [← he'.out, vb_big hlt]; simp
    · go_wp2
      go_ret
      refine ⟨?_, hb.alloc hsz _⟩
      rw [← he'.out, vb_small hlt, ByteArray.mk_append_mk, List.append_assoc]
      rfl
end Go.Proofs.Ytihjmnhjjpdenaa.Wire
end
section
namespace Go.Proofs.Ytihjmnhjjpdenaa.Wire
open Go Go.RowKit
set_option linter.unusedVariables false

theorem toBytes (s : List UInt8) (w : World) : (convert 9 22 (.string ⟨s.toArray⟩)).run Try.prog w = .ok (.slice (some ⟨w.heap.size, 0, none⟩) s.length (grownCap w s.length 0 5)) (Lib.bytesWorld w 5 ⟨s.toArray⟩) := by
  have := Lib.run_convert_string_bytes (P := Try.prog) w 9 22 5 ⟨s.toArray⟩ Try.underlying9 Try.underlying22 Try.underlying5
  simpa [ByteArray.size] using this

theorem wPutInt_any (s : List UInt8) (n : Int) (w : World) (h0 : -9223372036854775808 ≤ n) (h1 : n ≤ 9223372036854775807) (hs : s.length + 10 ≤ 140737488355328) :
    Calls Try.prog 37 #[.string ⟨s.toArray⟩, .int .i64 n] w fun e w' => e = .returned (.string ⟨(s ++ putB n).toArray⟩) ∧ Below w.heap.size w w' := by
  have k1 := toBytes
  have ho := own_bytes (w := w) (e := 5) (s := s) (by unfold maxLen; omega)
  have hB := bytes_below w 5 ⟨s.toArray⟩ (Nat.le_refl _)
  have hsz := hB.size
  go_enter Try.func37, Try.ntmps37
  go_wp2_with (go_at_call 49; refine (put_any _ _ _ _ _ w.heap.size _ h0 h1 hsz ho (by omega)).mono ?_; rintro e w1 ⟨ad, c, rfl, ho1, hb1⟩; have k2 := run_bytes_str (P := Try.prog) (l := s ++ putB n) 22 5 9 Try.underlying22 Try.underlying5 Try.underlying9 (by simpa using ho1.rd))
  go_ret
  exact ⟨rfl, hB.trans hb1⟩

/-- The bytes of a list. -/
def putL (l : List Int) : List UInt8 := putB l.length ++ l.flatMap putB
def Int64 (l : List Int) : Prop := ∀ x ∈ l, -9223372036854775808 ≤ x ∧ x ≤ 9223372036854775807
theorem flat_len {l : List Int} (h : Int64 l) : (l.flatMap putB).length ≤ 10 * l.length := by
  induction l with
  | nil => simp
  | cons x l ih =>
    have h1 := (putB_len (h x (by simp)).1 (h x (by simp)).2).1
    have h2 := ih fun y hy => h y (by simp [hy])
    rw [List.flatMap_cons, List.length_append, List.length_cons]; omega


def PLRel (s : List UInt8) (l : List Int) (w : World) (gk : Nat) (v i : Value) (wr : World) : Prop :=
  ∃ k : Nat, gk + k = l.length ∧ v = .string ⟨(s ++ (putB l.length ++ (l.take k).flatMap putB)).toArray⟩ ∧ i = .int .i64 k ∧ Below w.heap.size w wr

theorem flat_snoc {l : List Int} {k : Nat} (h : k < l.length) : (l.take (k + 1)).flatMap putB = (l.take k).flatMap putB ++ putB l[k] := by
  rw [List.take_succ_eq_append_getElem h, List.flatMap_append]; simp

theorem rPutList_any (s : List UInt8) (l : List Int) (a : Option Addr) (c : Nat) (B : Nat) (w : World) (hl : Int64 l) (hr : Rd w B 1 (.slice a l.length c) l.length (l.map (Value.int .i64))) (hB : B ≤ w.heap.size) (hs : s.length + 10 * l.length + 20 ≤ 140737488355328) :
    Calls Try.prog 42 #[.string ⟨s.toArray⟩, .slice a l.length c] w fun e w' => e = .returned (.string ⟨(s ++ putL l).toArray⟩) ∧ Below w.heap.size w w' := by
  have L := (putB_len (n := (l.length : Int)) (by omega) (by omega)).1
  rcases hr.addr with h0 | ⟨g, off, rfl, hg, hat⟩
  · have hx : l = [] := List.eq_nil_of_length_eq_zero h0
    subst hx
    go_enter Try.func42, Try.ntmps42
    go_wp2_with (go_at_call 41; refine (rPutInt_any _ _ _ (by omega) (by omega) (by omega)).mono ?_; rintro e w1 ⟨rfl, hb1⟩)
    go_loopg [0, 13] 0 (fun gk v i wr => PLRel s [] w gk v i wr)
    case atStart => exact ⟨0, rfl, by simp, rfl, hb1⟩
    case round =>
      obtain ⟨k, hk, rfl, rfl, hb⟩ := hrel
      obtain rfl : k = 0 := by simp at hk; omega
      go_wp2
      go_ret
      exact ⟨by simp [putL], hb⟩
  · go_enter Try.func42, Try.ntmps42
    go_wp2_with (go_at_call 41; refine (rPutInt_any _ _ _ (by omega) (by omega) (by omega)).mono ?_; rintro e w1 ⟨rfl, hb1⟩)
    go_loopg [0, 13] l.length (fun gk v i wr => PLRel s l w gk v i wr)
    case atStart => exact ⟨0, rfl, by simp, rfl, hb1⟩
    case round =>
      obtain ⟨k, hk, rfl, rfl, hb⟩ := hrel
      have hfl := flat_len (l := l.take k) (fun x hx => hl x (List.mem_of_mem_take hx))
      simp only [List.length_take] at hfl
      by_cases hlt : k < l.length
      · have hc : wr.cell? ⟨g, off + k, none⟩ = some (.int .i64 l[k]) := (hb.cell (p := ⟨g, off + k, none⟩) (by show g < _; omega)).trans (hat k _ (by simp [hlt]))
        have hx := hl l[k] (List.getElem_mem _)
        go_wp2_with (go_at_call 41; refine (rPutInt_any _ _ _ hx.1 hx.2 (by simp only [List.length_append]; omega)).mono ?_; rintro e w2 ⟨rfl, hb2⟩)
        go_roundg (gk - 1)
        case measure => omega
        case rel => exact ⟨k + 1, by omega, by simp [flat_snoc hlt], by go_num, hb.trans (hb2.mono hb.size)⟩
      · go_wp2
        go_ret
        exact ⟨by rw [List.take_of_length_le (by omega)]; rfl, hb⟩

def PLBRel (s : List UInt8) (l : List Int) (w : World) (gk : Nat) (v i : Value) (wr : World) : Prop :=
  ∃ (k : Nat) (ad : Option Addr) (n c : Nat), gk + k = l.length ∧ v = .slice ad n c ∧ n = (s ++ (putB l.length ++ (l.take k).flatMap putB)).length ∧ Own wr w.heap.size 1 v n ((s ++ (putB l.length ++ (l.take k).flatMap putB)).map bv) ∧ i = .int .i64 k ∧ Below w.heap.size w wr

theorem wPutList_any (s : List UInt8) (l : List Int) (a : Option Addr) (c : Nat) (B : Nat) (w : World) (hl : Int64 l) (hr : Rd w B 1 (.slice a l.length c) l.length (l.map (Value.int .i64))) (hB : B ≤ w.heap.size) (hs : s.length + 10 * l.length + 20 ≤ 140737488355328) :
    Calls Try.prog 38 #[.string ⟨s.toArray⟩, .slice a l.length c] w fun e w' => e = .returned (.string ⟨(s ++ putL l).toArray⟩) ∧ Below w.heap.size w w' := by
  have k1 := toBytes
  have ho := own_bytes (w := w) (e := 5) (s := s) (by unfold maxLen; omega)
  have hBw := bytes_below w 5 ⟨s.toArray⟩ (Nat.le_refl _)
  have hsz := hBw.size
  have L := (putB_len (n := (l.length : Int)) (by omega) (by omega)).1
  rcases hr.addr with h0 | ⟨g, off, rfl, hg, hat⟩
  · have hx : l = [] := List.eq_nil_of_length_eq_zero h0
    subst hx
    go_enter Try.func38, Try.ntmps38
    go_wp2_with (go_at_call 49; refine (put_any _ _ _ _ _ w.heap.size _ (by omega) (by omega) hsz ho (by omega)).mono ?_; rintro e w1 ⟨ad, c1, rfl, ho1, hb1⟩)
    go_loopg [5, 15] 0 (fun gk v i wr => PLBRel s [] w gk v i wr)
    case atStart => exact ⟨0, ad, _, c1, rfl, rfl, by simp, by simpa using ho1, rfl, hBw.trans hb1⟩
    case round =>
      obtain ⟨k, ad, n, c, hk, rfl, hn, hown, rfl, hb⟩ := hrel
      obtain rfl : k = 0 := by simp at hk; omega
      have k2 := run_bytes_str (P := Try.prog) 22 5 9 Try.underlying22 Try.underlying5 Try.underlying9 hown.rd
      clear hn
      go_wp2
      go_ret
      exact ⟨by simp [putL], hb⟩
  · go_enter Try.func38, Try.ntmps38
    go_wp2_with (go_at_call 49; refine (put_any _ _ _ _ _ w.heap.size _ (by omega) (by omega) hsz ho (by omega)).mono ?_; rintro e w1 ⟨ad, c1, rfl, ho1, hb1⟩)
    go_loopg [5, 15] l.length (fun gk v i wr => PLBRel s l w gk v i wr)
    case atStart => exact ⟨0, ad, _, c1, rfl, rfl, by simp, by simpa using ho1, rfl, hBw.trans hb1⟩
    case round =>
      obtain ⟨k, ad, n, c, hk, rfl, hn, hown, rfl, hb⟩ := hrel
      have hfl := flat_len (l := l.take k) (fun x hx => hl x (List.mem_of_mem_take hx))
      simp only [List.length_take] at hfl
      have hn' : n ≤ s.length + 10 + 10 * k := by rw [hn]; simp only [List.length_append]; omega
      have Hn := Lib.hid hn
      clear hn
      have hw1 := hb.size
      by_cases hlt : k < l.length
      · have hc : wr.cell? ⟨g, off + k, none⟩ = some (.int .i64 l[k]) := (hb.cell (p := ⟨g, off + k, none⟩) (by show g < _; omega)).trans (hat k _ (by simp [hlt]))
        have hx := hl l[k] (List.getElem_mem _)
        go_wp2_with (go_at_call 49; refine (put_any _ _ _ _ _ w.heap.size _ hx.1 hx.2 hw1 hown (by omega)).mono ?_; rintro e w2 ⟨ad2, c2, rfl, ho2, hb2⟩)
        go_roundg (gk - 1)
        case measure => omega
        case rel =>
          refine ⟨k + 1, ad2, _, c2, by omega, rfl, ?_, ?_, by go_num, hb.trans hb2⟩
          · rw [Hn.out, flat_snoc hlt]; simp [Nat.add_assoc]
          · rw [flat_snoc hlt]; simpa using ho2
      · have k2 := run_bytes_str (P := Try.prog) 22 5 9 Try.underlying22 Try.underlying5 Try.underlying9 hown.rd
        go_wp2
        go_ret
        exact ⟨by rw [List.take_of_length_le (by omega)]; rfl, hb⟩
end Go.Proofs.Ytihjmnhjjpdenaa.Wire
end
section
namespace Go.Proofs.Ytihjmnhjjpdenaa.Sim
open Go Go.RowKit Go.Deep
set_option maxRecDepth 100000
set_option maxHeartbeats 4000000
set_option linter.unusedVariables false
set_option linter.unusedSimpArgs false
attribute [local irreducible] Go Mean
open Go.Proofs.Ytihjmnhjjpdenaa.Wire (putB putL putB_len wPutInt_any wPutList_any rPutInt_any rPutList_any flat_len Int64)
/-- A call that gives a value of one cell, and turns nothing. -/
theorem does_at {P : Program} {f : FuncId} {xs : List V} {r : Value} (hr : r.oneCell' = true) (h : ∀ (w : World) (m : M) (hd : H) (S : Nat → Prop) (us : List Value), (∀ b, S b → b < w.heap.size) → VRs m hd w S xs us → Calls P f us.toArray w fun e w' => e = .returned r ∧ Below w.heap.size w w') : Does P f xs [] (.d (.at r)) [] [] := by
  intro w hd S X us hm hv
  refine (h w _ hd S us hm.lt hv).mono ?_
  rintro e w' ⟨rfl, hb⟩
  refine ⟨_, hd, S, rfl, ⟨hb.os, hb.tape, hb.output, hb.size, fun k hk _ => hb.block k hk⟩, ⟨fun i o h => by simp [ups, fresh] at h, fun i j oi oj b _ h => by simp [ups, fresh] at h, fun b hb' => Nat.lt_of_lt_of_le (hm.lt b hb') hb.size, hb.size, hm.sX⟩, ?_, fun b h => .inl h, Le.refl _ _⟩
  simp only [VR, D.is]
  exact ⟨trivial, hr⟩
abbrev vS (l : List UInt8) : V := .d (.at (.string ⟨l.toArray⟩))
theorem str_one (l : List UInt8) : (Value.string ⟨l.toArray⟩).oneCell' = true := rfl
theorem wPutIntD (s : List UInt8) (n : Int) (hn : I64 n) (hs : s.length + 10 ≤ 140737488355328) : Does Try.prog 37 [vS s, I n] [] (vS (s ++ putB n)) [] [] := by
  refine does_at (str_one _) fun w m hd S us hS hv => ?_
  simp only [VRs, VR, I, D.is] at hv
  obtain ⟨u, r, rfl, ⟨rfl, -⟩, u2, r2, rfl, ⟨rfl, -⟩, rfl⟩ := hv
  exact wPutInt_any s n w hn.1 hn.2 hs
theorem rPutIntD (s : List UInt8) (n : Int) (hn : I64 n) (hs : s.length + 10 ≤ 140737488355328) : Does Try.prog 41 [vS s, I n] [] (vS (s ++ putB n)) [] [] := by
  refine does_at (str_one _) fun w m hd S us hS hv => ?_
  simp only [VRs, VR, I, D.is] at hv
  obtain ⟨u, r, rfl, ⟨rfl, -⟩, u2, r2, rfl, ⟨rfl, -⟩, rfl⟩ := hv
  exact rPutInt_any s n w hn.1 hn.2 (by omega)
theorem wPutListD (s : List UInt8) (l : List Int) (hl : ∀ x ∈ l, I64 x) (hs : s.length + 10 * l.length + 20 ≤ 140737488355328) : Does Try.prog 38 [vS s, .d (dInts l)] [] (vS (s ++ putL l)) [] [] := by
  refine does_at (str_one _) fun w m hd S us hS hv => ?_
  simp only [VRs, VR] at hv
  obtain ⟨u, r, rfl, h1, u2, r2, rfl, h2, rfl⟩ := hv
  simp only [D.is] at h1
  obtain ⟨rfl, -⟩ := h1
  have hq := (dints_lst hl h2).more (S' := Lo w.heap.size) (fun b hb => hS b hb)
  obtain ⟨a, c, rfl, -⟩ := hq.form
  exact wPutList_any s l a c w.heap.size w hl hq.rd (Nat.le_refl _) hs
theorem rPutListD (s : List UInt8) (l : List Int) (hl : ∀ x ∈ l, I64 x) (hs : s.length + 10 * l.length + 20 ≤ 140737488355328) : Does Try.prog 42 [vS s, .d (dInts l)] [] (vS (s ++ putL l)) [] [] := by
  refine does_at (str_one _) fun w m hd S us hS hv => ?_
  simp only [VRs, VR] at hv
  obtain ⟨u, r, rfl, h1, u2, r2, rfl, h2, rfl⟩ := hv
  simp only [D.is] at h1
  obtain ⟨rfl, -⟩ := h1
  have hq := (dints_lst hl h2).more (S' := Lo w.heap.size) (fun b hb => hS b hb)
  obtain ⟨a, c, rfl, -⟩ := hq.form
  exact rPutList_any s l a c w.heap.size w hl hq.rd (Nat.le_refl _) hs
/-- The bytes of the queries of a probe; of a view. -/
def txt1 (q : List (List Int)) : List UInt8 := putB q.length ++ q.flatMap putL
def txt (sv : List Int) (qs : List (List (List Int))) : List UInt8 := putL sv ++ (putB qs.length ++ qs.flatMap txt1)
theorem putL_len {l : List Int} (hl : ∀ x ∈ l, I64 x) (h : l.length ≤ 1000) : (putL l).length ≤ 11000 := by
  have h1 := flat_len (l := l) hl
  have h2 := (putB_len (n := (l.length : Int)) (by omega) (by omega)).1
  rw [putL, List.length_append]; omega
theorem flatMap_le {α : Type} {f : α → List UInt8} {m : Nat} : ∀ {l : List α}, (∀ x ∈ l, (f x).length ≤ m) → (l.flatMap f).length ≤ l.length * m
  | [], _ => by simp
  | x :: l, h => by
    have h1 := h x (by simp)
    have h2 := flatMap_le (f := f) (m := m) (l := l) fun y hy => h y (by simp [hy])
    rw [List.flatMap_cons, List.length_append, List.length_cons, Nat.add_mul, Nat.one_mul]; omega
theorem take_flatMap {α : Type} (f : α → List UInt8) (z : α) {l : List α} {k : Nat} (h : k < l.length) : (l.take (k + 1)).flatMap f = (l.take k).flatMap f ++ f (l.getD k z) := by
  rw [take_succ_getD z l k h, List.flatMap_append, List.flatMap_cons, List.flatMap_nil, List.append_nil]
theorem txt1_len {q : List (List Int)} (h : q.length ≤ 1000) (h1 : ∀ x ∈ q, x.length ≤ 1000) (h2 : ∀ x ∈ q, ∀ n ∈ x, I64 n) : (txt1 q).length ≤ 12000000 := by
  have e1 := flatMap_le (f := putL) (l := q) (m := 11000) fun x hx => putL_len (h2 x hx) (h1 x hx)
  have e2 := (putB_len (n := (q.length : Int)) (by omega) (by omega)).1
  have e3 : q.length * 11000 ≤ 1000 * 11000 := Nat.mul_le_mul_right _ h
  rw [txt1, List.length_append]; omega
theorem vText (sv : List Int) (qs : List (List (List Int))) (h1 : sv.length ≤ 1000) (hs : ∀ x ∈ sv, I64 x) (hq : smQ qs) (hi : inQ qs) : Does Try.prog 14 [vView sv qs] [] (vS (txt sv qs)) [] [] := by
  refine go_view_Text rfl BxOK.nil fun cx hm0 => go_in 5000 ?_
  unfold ac_view_Text rs_view_Text
  have hq1 := hq.1
  have e1 : Does Try.prog 38 [.d (.at (.string ⟨⟨[]⟩⟩)), .d (dInts sv)] [] (vS (putL sv)) [] [] := wPutListD [] sv hs (by simp only [List.length_nil]; omega)
  have l1 := putL_len hs h1
  have e2 := wPutIntD (putL sv) (qs.length : Int) ⟨by omega, by omega⟩ (by omega)
  have l2 := (putB_len (n := (qs.length : Int)) (by omega) (by omega)).1
  repeat' (first | simp (maxSteps := 9999999) only [↓GE, PL, PP, EE, QQ, seval, List.length_map] | (simp (disch := omega) only [IntWalk.i64_in]) | (refine go_brD (fun h => ?_) (fun h => ?_)) | (refine go_gsD (by ((try simp only [EE, QQ, seval]) <;> rfl)) (fun h => ?_) (fun h => ?_)) | (refine go_br (fun h => ?_) (fun h => ?_)) | (refine go_gs (by ((try simp only [EE, QQ, seval]) <;> rfl)) (fun h => ?_) (fun h => ?_)) | (apply go_call 5000 (e1) rfl rfl; iterate 4 (first | (exact CallForm.plain rfl) | ((try simp only [CC, LL, NM, EE, QQ, seval]) <;> (first | rfl | ((repeat constructor); done))))) | (apply go_call 5000 (e2) rfl rfl; iterate 4 (first | (exact CallForm.plain rfl) | ((try simp only [CC, LL, NM, EE, QQ, seval]) <;> (first | rfl | ((repeat constructor); done))))) | (with_reducible apply And.intro) | (with_reducible exact trivial) | omega | (simp only [List.length_map, List.length_cons, List.length_nil] at *; omega) | (show _ = true; first | rfl | kernel_rfl))
  refine go_loop 5000 hm0 (ι := {k : Nat // k ≤ qs.length}) (fun i => [(1, .bp 1 0 0), (3, vS (putL sv ++ (putB qs.length ++ (qs.take i.1).flatMap txt1))), (16, .d (dQs qs)), (17, I qs.length), (18, I i.1)]) (fun i => [(1, .box 0 [.d (dInts sv), .d (dQs qs)])]) (fun i => qs.length - i.1) [] ⟨0, Nat.zero_le _⟩ ?_ ?_
  · (simp only [GeS]; refine ⟨?_, ?_, ?_, ?_⟩; all_goals (repeat' (first | (with_reducible exact True.intro) | (with_reducible rfl) | simp only [CC, LL, EE, QQ, seval, List.contains_nil, Bool.false_eq_true, ↓reduceIte, Option.some.injEq, O.arr.injEq, true_and, and_true] | (with_reducible apply And.intro) | (refine ⟨_, rfl, ?_⟩) | (simp; done) | rfl | omega | trivial)))
  rintro ⟨k, hk⟩
  by_cases hkl : k < qs.length
  · have hs1 := getD_map eQ [] [] qs k hkl
    have hm := mem_getD [] qs k hkl
    have hpr := hq.2 _ hm
    have hpi := hi _ hm
    have htk := take_flatMap txt1 [] hkl
    have lk := flatMap_le (f := txt1) (l := qs.take k) (m := 12000000) fun q h => txt1_len (hq.2 q (List.mem_of_mem_take h)).1 (hq.2 q (List.mem_of_mem_take h)).2 (hi q (List.mem_of_mem_take h))
    have lk2 : (qs.take k).length * 12000000 ≤ 1000 * 12000000 := Nat.mul_le_mul_right _ (by rw [List.length_take]; omega)
    generalize qs.getD k [] = pr at *
    have hp1 := hpr.1
    have hT : (qs.take (k + 1)).flatMap txt1 = (qs.take k).flatMap txt1 ++ (putB pr.length ++ pr.flatMap putL) := htk
    generalize (qs.take k).flatMap txt1 = tk at *
    have ls : (putL sv ++ (putB qs.length ++ tk)).length ≤ 13000000000 := by simp only [List.length_append]; omega
    generalize hss : putL sv ++ (putB qs.length ++ tk) = ss at *
    have e3 := wPutIntD ss (pr.length : Int) ⟨by omega, by omega⟩ (by omega)
    have l3 := (putB_len (n := (pr.length : Int)) (by omega) (by omega)).1
    repeat' (first | simp (maxSteps := 9999999) only [↓GE, PL, PP, EE, QQ, seval, hs1, hkl, eQ, List.length_map] | (simp (disch := omega) only [IntWalk.i64_in]) | (refine go_brD (fun h => ?_) (fun h => ?_)) | (refine go_gsD (by ((try simp only [EE, QQ, seval]) <;> rfl)) (fun h => ?_) (fun h => ?_)) | (refine go_br (fun h => ?_) (fun h => ?_)) | (refine go_gs (by ((try simp only [EE, QQ, seval]) <;> rfl)) (fun h => ?_) (fun h => ?_)) | (apply go_call 5000 (e3) rfl rfl; iterate 4 (first | (exact CallForm.plain rfl) | ((try simp only [CC, LL, NM, EE, QQ, seval]) <;> (first | rfl | ((repeat constructor); done))))) | (with_reducible apply And.intro) | (with_reducible exact trivial) | omega | (simp only [List.length_map, List.length_cons, List.length_nil] at *; omega) | (show _ = true; first | rfl | kernel_rfl))
    refine go_loop 5000 hm0 (ι := {j : Nat // j ≤ pr.length}) (fun i => [(1, .bp 1 0 0), (3, vS (ss ++ (putB pr.length ++ (pr.take i.1).flatMap putL))), (16, .d (dQs qs)), (17, I qs.length), (18, I k), (26, .d (dRows pr)), (27, I pr.length), (28, I i.1)]) (fun i => [(1, .box 0 [.d (dInts sv), .d (dQs qs)])]) (fun i => pr.length - i.1) [] ⟨0, Nat.zero_le _⟩ ?_ ?_
    · (simp only [GeS]; refine ⟨?_, ?_, ?_, ?_⟩; all_goals (repeat' (first | (with_reducible exact True.intro) | (with_reducible rfl) | simp only [CC, LL, EE, QQ, seval, List.contains_nil, Bool.false_eq_true, ↓reduceIte, Option.some.injEq, O.arr.injEq, true_and, and_true] | (with_reducible apply And.intro) | (refine ⟨_, rfl, ?_⟩) | (simp; done) | rfl | omega | trivial)))
    rintro ⟨j, hj⟩
    by_cases hjl : j < pr.length
    · have hs2 := getD_map eR [] [] pr j hjl
      have hm2 := mem_getD [] pr j hjl
      have hr1 := hpr.2 _ hm2
      have hri := hpi _ hm2
      have htj := take_flatMap putL [] hjl
      have lj := flatMap_le (f := putL) (l := pr.take j) (m := 11000) fun x h => putL_len (hpi x (List.mem_of_mem_take h)) (hpr.2 x (List.mem_of_mem_take h))
      have lj2 : (pr.take j).length * 11000 ≤ 1000 * 11000 := Nat.mul_le_mul_right _ (by rw [List.length_take]; omega)
      generalize pr.getD j [] = r at *
      generalize (pr.take j).flatMap putL = tj at *
      have e4 := wPutListD (ss ++ (putB pr.length ++ tj)) r hri (by simp only [List.length_append]; omega)
      have hN : ss ++ (putB pr.length ++ (pr.take (j + 1)).flatMap putL) = ss ++ (putB pr.length ++ tj) ++ putL r := by rw [htj]; simp only [List.append_assoc]
      repeat' (first | simp (maxSteps := 9999999) only [↓GE, PL, PP, EE, QQ, seval, hs2, hjl, eR, List.length_map] | (simp (disch := omega) only [IntWalk.i64_in]) | (refine go_brD (fun h => ?_) (fun h => ?_)) | (refine go_gsD (by ((try simp only [EE, QQ, seval]) <;> rfl)) (fun h => ?_) (fun h => ?_)) | (refine go_br (fun h => ?_) (fun h => ?_)) | (refine go_gs (by ((try simp only [EE, QQ, seval]) <;> rfl)) (fun h => ?_) (fun h => ?_)) | (apply go_call 5000 (e4) rfl rfl; iterate 4 (first | (exact CallForm.plain rfl) | ((try simp only [CC, LL, NM, EE, QQ, seval]) <;> (first | rfl | ((repeat constructor); done))))) | (with_reducible apply And.intro) | (with_reducible exact trivial) | omega | (simp only [List.length_map, List.length_cons, List.length_nil] at *; omega) | (show _ = true; first | rfl | kernel_rfl))
      refine ⟨⟨j + 1, hjl⟩, ?_, by simp only; omega⟩
      (simp only [GeS]; refine ⟨?_, ?_, ?_, ?_⟩; all_goals (repeat' (first | (with_reducible exact True.intro) | (with_reducible rfl) | simp only [CC, LL, EE, QQ, seval, List.contains_nil, Bool.false_eq_true, ↓reduceIte, Option.some.injEq, O.arr.injEq, true_and, and_true] | (with_reducible apply And.intro) | (refine ⟨_, rfl, ?_⟩) | (simp [hN]; done) | rfl | omega | trivial)))
    · obtain rfl : j = pr.length := by omega
      have hN : putL sv ++ (putB qs.length ++ (qs.take (k + 1)).flatMap txt1) = ss ++ (putB pr.length ++ pr.flatMap putL) := by rw [hT, ← hss]; simp only [List.append_assoc]
      repeat' (first | simp (maxSteps := 9999999) only [↓GE, PL, PP, EE, QQ, seval, List.take_length, List.length_map] | (simp (disch := omega) only [IntWalk.i64_in]) | (refine go_brD (fun h => ?_) (fun h => ?_)) | (refine go_gsD (by ((try simp only [EE, QQ, seval]) <;> rfl)) (fun h => ?_) (fun h => ?_)) | (refine go_br (fun h => ?_) (fun h => ?_)) | (refine go_gs (by ((try simp only [EE, QQ, seval]) <;> rfl)) (fun h => ?_) (fun h => ?_)) | (with_reducible apply And.intro) | (with_reducible exact trivial) | omega | (simp only [List.length_map, List.length_cons, List.length_nil] at *; omega) | (show _ = true; first | rfl | kernel_rfl))
      refine ⟨⟨k + 1, hkl⟩, ?_, by simp only; omega⟩
      (simp only [GeS]; refine ⟨?_, ?_, ?_, ?_⟩; all_goals (repeat' (first | (with_reducible exact True.intro) | (with_reducible rfl) | simp only [CC, LL, EE, QQ, seval, List.contains_nil, Bool.false_eq_true, ↓reduceIte, Option.some.injEq, O.arr.injEq, true_and, and_true] | (with_reducible apply And.intro) | (refine ⟨_, rfl, ?_⟩) | (simp [hN]; done) | rfl | omega | trivial)))
  · obtain rfl : k = qs.length := by omega
    have hN : txt sv qs = putL sv ++ (putB qs.length ++ (qs.take qs.length).flatMap txt1) := by rw [List.take_length]; rfl
    repeat' (first | simp (maxSteps := 9999999) only [↓GE, PL, PP, EE, QQ, seval, List.length_map] | (simp (disch := omega) only [IntWalk.i64_in]) | (refine go_brD (fun h => ?_) (fun h => ?_)) | (refine go_gsD (by ((try simp only [EE, QQ, seval]) <;> rfl)) (fun h => ?_) (fun h => ?_)) | (refine go_br (fun h => ?_) (fun h => ?_)) | (refine go_gs (by ((try simp only [EE, QQ, seval]) <;> rfl)) (fun h => ?_) (fun h => ?_)) | (with_reducible apply And.intro) | (with_reducible exact trivial) | omega | (simp only [List.length_map, List.length_cons, List.length_nil] at *; omega) | (show _ = true; first | rfl | kernel_rfl))
    all_goals ((first | apply ret_mk [] | apply end_mk []); (· ((try simp only [CC, LL, EE, QQ, seval]) <;> rfl)); (· ((try simp only [CC, LL, EE, QQ, seval]) <;> repeat' (first | (with_reducible apply And.intro) | rfl | trivial | (exact ⟨_, rfl⟩) | (exact ⟨_, _, _, rfl⟩) | (simp [*, hN]; done) | (simp [*, hN]; omega) | (simp_all [hN]; done) | (simp_all [hN]; omega)))); all_goals (first | trivial | decide | ((try simp only [CC, LL, EE, QQ, seval]) <;> repeat' (first | (with_reducible apply And.intro) | (exact ⟨_, rfl, rfl, rfl⟩) | (exact ⟨_, _, _, rfl⟩) | (exact ⟨_, rfl⟩) | trivial | rfl | (simp; done)))))
end Go.Proofs.Ytihjmnhjjpdenaa.Sim
end
