/- Lemmas. -/
import Derived.Test.YtabfajhflaladaaKWirePlain
import Derived.Test.YtabfajhflaladaaRows
import Derived.WalkKit
import Derived.WalkSpells
import Derived.WalkLawsBesides
import Derived.Outline
import Derived.Deep.DeepFit
import Derived.OwnWalk
import Derived.Below
import Derived.Lib.Hide
import Derived.Laws.BytesArg
namespace Go.Proofs.Ytabfajhflaladaa.Wire
open Go Go.RowKit
set_option linter.unusedVariables false

/-- 'string([]byte{x})'. -/
theorem conv1 (x : Int) (w : World) : (convert 48 9 (.slice (some ⟨w.heap.size, 0, none⟩) 1 1)).run Try.prog (w.alloc (.cells #[.int .u8 x] 5)) = .ok (.string ⟨[UInt8.ofNat x.toNat].toArray⟩) (w.alloc (.cells #[.int .u8 x] 5)) := by
  have h := run_convert_bytes_arg (P := Try.prog) (w.alloc (.cells #[.int .u8 x] 5)) 48 5 Try.underlying48 Try.underlying5 w.heap.size 0 1 1 [x] rfl (fun i hi => by
    obtain rfl : i = 0 := by omega
    simp) 9 Try.underlying9
  rw [h]
  simp [strOfNums]

set_option maxHeartbeats 400000 in
theorem rPutInt_any (s : List UInt8) (n : Int) (w : World) (h0 : -9223372036854775808 ≤ n) (h1 : n ≤ 9223372036854775807) (hs : s.length ≤ 2 ^ 62) :
    Calls Try.prog 11 #[.string ⟨s.toArray⟩, .int .i64 n] w fun e w' => e = .returned (.string ⟨(s ++ putB n).toArray⟩) ∧ Below w.heap.size w w' := by
  have Z := zz_walk h0 h1
  have L := (putB_len h0 h1).1
  have hzz := zz_lt h0 h1
  have HZ := Lib.hid Z
  clear Z
  go_enter Try.func11, Try.ntmps11
  go_wp2
  go_loopw [0, 5] (fun v u wr => ∃ (pre : List UInt8) (k : Nat), v = .string ⟨(s ++ pre).toArray⟩ ∧ u = .int .u64 k ∧ k < 18446744073709551616 ∧ pre ++ vb k = putB n ∧ Below w.heap.size w wr) (fun _ u _ => (intOf u).toNat)
  case atStart => exact ⟨[], zz n, by simp, by simp only [IntKind.wrap_u64]; rw [HZ.out], hzz, rfl, Below.refl _ _⟩
  case round =>
    obtain ⟨pre, k, rfl, rfl, hk, he, hb⟩ := hrel
    have hpl : pre.length ≤ 10 := by rw [← he] at L; simp at L; omega
    have he' := Lib.hid he
    clear he
    have c1 := conv1
    have hsz := hb.size
    by_cases hlt : 127 < k
    · go_wp2
      refine ⟨⟨pre ++ [UInt8.ofNat (k % 128 + 128)], k / 128, ?_, by go_num, by omega, ?_, hb.alloc hsz _⟩, by simp [intOf]; omega⟩
      · rw [byteBig, ByteArray.mk_append_mk, List.append_assoc]
      · rw [← he'.out, vb_big hlt]; simp
    · go_wp2
      go_ret
      refine ⟨?_, hb.alloc hsz _⟩
      rw [← he'.out, vb_small hlt, ByteArray.mk_append_mk, List.append_assoc]
      rfl
end Go.Proofs.Ytabfajhflaladaa.Wire
