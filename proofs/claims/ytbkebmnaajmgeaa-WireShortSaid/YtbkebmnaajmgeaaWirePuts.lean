/- PutInt, PutText, PutList of the program and of the reference: the bytes of numbers, texts and lists. -/
import Derived.Test.YtbkebmnaajmgeaaWirePut
import Derived.WalkSpells
import Derived.Deep.DeepFit
namespace Go.Proofs.Ytbkebmnaajmgeaa.Wire
open Go Go.RowKit
set_option linter.unusedVariables false

theorem toBytes (s : List UInt8) (w : World) : (convert 9 36 (.string ⟨s.toArray⟩)).run Try.prog w = .ok (.slice (some ⟨w.heap.size, 0, none⟩) s.length (grownCap w s.length 0 5)) (Lib.bytesWorld w 5 ⟨s.toArray⟩) := by
  have := Lib.run_convert_string_bytes (P := Try.prog) w 9 36 5 ⟨s.toArray⟩ Try.underlying9 Try.underlying36 Try.underlying5
  simpa [ByteArray.size] using this

theorem wPutInt_any (s : List UInt8) (n : Int) (w : World) (h0 : -9223372036854775808 ≤ n) (h1 : n ≤ 9223372036854775807) (hs : s.length + 10 ≤ 140737488355328) :
    Calls Try.prog 5 #[.string ⟨s.toArray⟩, .int .i64 n] w fun e w' => e = .returned (.string ⟨(s ++ putB n).toArray⟩) ∧ Below w.heap.size w w' := by
  have k1 := toBytes
  have ho := own_bytes (w := w) (e := 5) (s := s) (by unfold maxLen; omega)
  have hB := bytes_below w 5 ⟨s.toArray⟩ (Nat.le_refl _)
  have hsz := hB.size
  go_enter Try.func5, Try.ntmps5
  go_wp2_with (go_at_call 11; refine (put_any _ _ _ _ _ w.heap.size _ h0 h1 hsz ho (by omega)).mono ?_; rintro e w1 ⟨ad, c, rfl, ho1, hb1⟩; have k2 := run_bytes_str (P := Try.prog) (l := s ++ putB n) 36 5 9 Try.underlying36 Try.underlying5 Try.underlying9 (by simpa using ho1.rd))
  go_ret
  exact ⟨rfl, hB.trans hb1⟩

theorem wPutText_any (s t : List UInt8) (w : World) (hs : s.length + t.length + 10 ≤ 140737488355328) :
    Calls Try.prog 6 #[.string ⟨s.toArray⟩, .string ⟨t.toArray⟩] w fun e w' => e = .returned (.string ⟨(s ++ (putB t.length ++ t)).toArray⟩) ∧ Below w.heap.size w w' := by
  have L := (putB_len (n := (t.length : Int)) (by omega) (by omega)).1
  go_enter Try.func6, Try.ntmps6
  go_wp2_with (go_at_call 5; refine (wPutInt_any _ _ _ (by omega) (by omega) (by omega)).mono ?_; rintro e w1 ⟨rfl, hb1⟩)
  go_ret
  exact ⟨by rw [ByteArray.mk_append_mk, List.append_assoc]; rfl, hb1⟩

/-- The bytes of a list. -/
def putL (l : List Int) : List UInt8 := putB l.length ++ l.flatMap putB
def Int64 (l : List Int) : Prop := ∀ x ∈ l, -9223372036854775808 ≤ x ∧ x ≤ 9223372036854775807
theorem flat_len {l : List Int} (h : Int64 l) : (l.flatMap putB).length ≤ 10 * l.length := by
  induction l with
  | nil => simp
  | cons x l ih =>
    have h1 := (putB_len (h x (by simp)).1 (h x (by simp)).2).1
    have h2 := ih fun y hy => h y (by simp [hy])
    rw [List.flatMap_cons, List.length_append, List.length_cons]; omega


def PLRel (s : List UInt8) (l : List Int) (w : World) (gk : Nat) (v i : Value) (wr : World) : Prop :=
  ∃ k : Nat, gk + k = l.length ∧ v = .string ⟨(s ++ (putB l.length ++ (l.take k).flatMap putB)).toArray⟩ ∧ i = .int .i64 k ∧ Below w.heap.size w wr

theorem flat_snoc {l : List Int} {k : Nat} (h : k < l.length) : (l.take (k + 1)).flatMap putB = (l.take k).flatMap putB ++ putB l[k] := by
  rw [List.take_succ_eq_append_getElem h, List.flatMap_append]; simp

def PLBRel (s : List UInt8) (l : List Int) (w : World) (gk : Nat) (v i : Value) (wr : World) : Prop :=
  ∃ (k : Nat) (ad : Option Addr) (n c : Nat), gk + k = l.length ∧ v = .slice ad n c ∧ n = (s ++ (putB l.length ++ (l.take k).flatMap putB)).length ∧ Own wr w.heap.size 1 v n ((s ++ (putB l.length ++ (l.take k).flatMap putB)).map bv) ∧ i = .int .i64 k ∧ Below w.heap.size w wr

theorem wPutList_any (s : List UInt8) (l : List Int) (a : Option Addr) (c : Nat) (B : Nat) (w : World) (hl : Int64 l) (hr : Rd w B 1 (.slice a l.length c) l.length (l.map (Value.int .i64))) (hB : B ≤ w.heap.size) (hs : s.length + 10 * l.length + 20 ≤ 175921860444160) :
    Calls Try.prog 7 #[.string ⟨s.toArray⟩, .slice a l.length c] w fun e w' => e = .returned (.string ⟨(s ++ putL l).toArray⟩) ∧ Below w.heap.size w w' := by
  have k1 := toBytes
  have ho := own_bytes (w := w) (e := 5) (s := s) (by unfold maxLen; omega)
  have hBw := bytes_below w 5 ⟨s.toArray⟩ (Nat.le_refl _)
  have hsz := hBw.size
  have L := (putB_len (n := (l.length : Int)) (by omega) (by omega)).1
  rcases hr.addr with h0 | ⟨g, off, rfl, hg, hat⟩
  · have hx : l = [] := List.eq_nil_of_length_eq_zero h0
    subst hx
    go_enter Try.func7, Try.ntmps7
    go_wp2_with (go_at_call 11; refine (put_any _ _ _ _ _ w.heap.size _ (by omega) (by omega) hsz ho (by omega)).mono ?_; rintro e w1 ⟨ad, c1, rfl, ho1, hb1⟩)
    go_loopg [5, 15] 0 (fun gk v i wr => PLBRel s [] w gk v i wr)
    case atStart => exact ⟨0, ad, _, c1, rfl, rfl, by simp, by simpa using ho1, rfl, hBw.trans hb1⟩
    case round =>
      obtain ⟨k, ad, n, c, hk, rfl, hn, hown, rfl, hb⟩ := hrel
      obtain rfl : k = 0 := by simp at hk; omega
      have k2 := run_bytes_str (P := Try.prog) 36 5 9 Try.underlying36 Try.underlying5 Try.underlying9 hown.rd
      clear hn
      go_wp2
      go_ret
      exact ⟨by simp [putL], hb⟩
  · go_enter Try.func7, Try.ntmps7
    go_wp2_with (go_at_call 11; refine (put_any _ _ _ _ _ w.heap.size _ (by omega) (by omega) hsz ho (by omega)).mono ?_; rintro e w1 ⟨ad, c1, rfl, ho1, hb1⟩)
    go_loopg [5, 15] l.length (fun gk v i wr => PLBRel s l w gk v i wr)
    case atStart => exact ⟨0, ad, _, c1, rfl, rfl, by simp, by simpa using ho1, rfl, hBw.trans hb1⟩
    case round =>
      obtain ⟨k, ad, n, c, hk, rfl, hn, hown, rfl, hb⟩ := hrel
      have hfl := flat_len (l := l.take k) (fun x hx => hl x (List.mem_of_mem_take hx))
      simp only [List.length_take] at hfl
      have hn' : n ≤ s.length + 10 + 10 * k := by rw [hn]; simp only [List.length_append]; omega
      have Hn := Lib.hid hn
      clear hn
      have hw1 := hb.size
      by_cases hlt : k < l.length
      · have hc : wr.cell? ⟨g, off + k, none⟩ = some (.int .i64 l[k]) := (hb.cell (p := ⟨g, off + k, none⟩) (by show g < _; omega)).trans (hat k _ (by simp [hlt]))
        have hx := hl l[k] (List.getElem_mem _)
        go_wp2_with (go_at_call 11; refine (put_any _ _ _ _ _ w.heap.size _ hx.1 hx.2 hw1 hown (by omega)).mono ?_; rintro e w2 ⟨ad2, c2, rfl, ho2, hb2⟩)
        go_roundg (gk - 1)
        case measure => omega
        case rel =>
          refine ⟨k + 1, ad2, _, c2, by omega, rfl, ?_, ?_, by go_num, hb.trans hb2⟩
          · rw [Hn.out, flat_snoc hlt]; simp [Nat.add_assoc]
          · rw [flat_snoc hlt]; simpa using ho2
      · have k2 := run_bytes_str (P := Try.prog) 36 5 9 Try.underlying36 Try.underlying5 Try.underlying9 hown.rd
        go_wp2
        go_ret
        exact ⟨by rw [List.take_of_length_le (by omega)]; rfl, hb⟩
end Go.Proofs.Ytbkebmnaajmgeaa.Wire
