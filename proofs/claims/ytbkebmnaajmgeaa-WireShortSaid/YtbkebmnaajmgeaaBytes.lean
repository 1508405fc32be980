/- Strings as slices of bytes and back, over slices of the call's own: of no program. -/
import Derived.Test.YtbkebmnaajmgeaaBase
import Derived.Lib.Strings
namespace Go.Proofs.Ytbkebmnaajmgeaa
open Go Go.RowKit Go.Deep
set_option linter.unusedVariables false

def bv (x : UInt8) : Value := .int .u8 x.toNat
theorem bv_one (l : List UInt8) : ∀ u ∈ l.map bv, u.oneCell' = true := fun u hu => by
  obtain ⟨x, _, rfl⟩ := List.mem_map.1 hu
  rfl

/-- A part of a string, by its list of bytes. -/
theorem extract_list (l : List UInt8) (i j : Nat) : (ByteArray.mk l.toArray).extract i j = ⟨((l.drop i).take (j - i)).toArray⟩ := by
  have h := Lib.extract_data ⟨l.toArray⟩ i j
  have e : ∀ b : ByteArray, b = ⟨b.data.toList.toArray⟩ := fun b => by cases b; simp
  rw [e ((ByteArray.mk l.toArray).extract i j), h]

/-- 'string(b)'. -/
theorem run_bytes_str {P : Program} {w : World} {B n : Nat} {v : Value} {l : List UInt8} (src e dst : TypeId) (hs : P.underlying src = some (.slice e)) (he : P.underlying e = some (.int .u8)) (hd : P.underlying dst = some .string)
    (h : Rd w B 1 v n (l.map bv)) : (convert src dst v).run P w = .ok (.string ⟨l.toArray⟩) w := by
  obtain ⟨hl, a, cap, rfl, hn, hc, hr⟩ := h
  rcases Nat.eq_zero_or_pos n with h0 | h0
  · subst h0
    have hx : l = [] := List.eq_nil_of_length_eq_zero (by simpa using hl)
    subst hx
    cases a with
    | none => exact run_convert_bytes_nil w src e hs he 0 cap dst hd
    | some a =>
      rw [run_convert_bytes_string w src dst e _ 0 cap hs he hd, run_bytesToString w a 0 cap [] (by have := run_loadCells_list (P := P) w a [] (fun j v hj => by simp at hj); simpa using this)]
      rfl
  · obtain ⟨g, off, rfl, _, hr'⟩ := hr h0
    have hl' : l.length = n := by simpa using hl
    have := run_convert_bytes_arg (P := P) w src e hs he g off n cap (l.map fun x => (x.toNat : Int)) (by simpa using hl) (fun i hi => by
      have hx : (l.map bv)[i]? = some (bv l[i]) := by simp [hl', hi]
      rw [hr' i _ hx]
      simp [List.getD, hl', hi, bv]) dst hd
    rw [this]
    have e1 : strOfNums (l.map fun x => (x.toNat : Int)) = ⟨l.toArray⟩ := by
      unfold strOfNums
      congr 1
      simp [Function.comp_def]
    rw [e1]

/-- '[]byte(s)': the new row is the call's own. -/
theorem own_bytes {w : World} {e : TypeId} {s : List UInt8} (hs : s.length ≤ maxLen) :
    Own (Lib.bytesWorld w e ⟨s.toArray⟩) w.heap.size 1 (.slice (some ⟨w.heap.size, 0, none⟩) s.length (grownCap w s.length 0 e)) s.length (s.map bv) := by
  have hnew := Lib.bytesWorld_at_new w e ⟨s.toArray⟩
  have hge := grownCap_ge w s.length 0 e
  have hsize : (Lib.bytesCells w e ⟨s.toArray⟩).size = grownCap w s.length 0 e := by
    have h1 : (ByteArray.mk s.toArray).size = s.length := by simp [ByteArray.size]
    simp [Lib.bytesCells, h1]
    omega
  refine ⟨by simp, .inr ⟨w.heap.size, 0, _, rfl, Nat.le_refl _, by rw [Lib.bytesWorld_size]; omega, hge, grownCap_le_maxLen w s.length 0 e hs, fun j hj => ⟨?_, ?_⟩, fun j u hu => ?_⟩⟩
  · rw [cell_of_row _ _ _ _ _ _ hnew]
    rw [Array.getElem?_eq_getElem (by omega)]
    rfl
  · simp [World.frozen?, hnew]
    omega
  · have hj : j < s.length := by
      rcases Nat.lt_or_ge j s.length with h | h
      · exact h
      · rw [List.getElem?_eq_none (by simpa using h)] at hu; cases hu
    rw [Nat.zero_add, Lib.bytesWorld_cell w e ⟨s.toArray⟩ j (by simpa [ByteArray.size] using hj)]
    simp [hj] at hu
    subst hu
    simp [List.getD, hj, bv]

theorem bytes_below (w : World) (e : TypeId) (s : ByteArray) {B : Nat} (hB : B ≤ w.heap.size) : Below B w (Lib.bytesWorld w e s) := by
  refine ⟨rfl, rfl, rfl, by rw [Lib.bytesWorld_size]; omega, fun k hk => Lib.bytesWorld_at_old w e s k (by omega)⟩
end Go.Proofs.Ytbkebmnaajmgeaa
