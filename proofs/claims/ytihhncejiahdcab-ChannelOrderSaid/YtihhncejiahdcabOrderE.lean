/- ChannelOrder's argument. -/
import Derived.Test.YtihhncejiahdcabOrder
import Derived.Test.YtihhncejiahdcabOpens
namespace Go.Proofs.Ytihhncejiahdcab
open Go Go.RowKit Go.ChangeShapes Go.WideShapes
set_option linter.unusedVariables false
theorem Opens.u8 {P : Program} {t : TypeId} (ht : P.underlying t = some (.int .u8)) : Opens P t UInt8 (fun _ _ => True) := by
  intro H enc w base spare held fuel cs x h
  obtain ⟨n, rfl, rfl, hw⟩ := DataW.trod_int ht h
  have hn : 0 ≤ n ∧ n ≤ 255 := by simpa [Lit.wf, IntKind.min, IntKind.max, IntKind.signed, IntKind.bits] using hw
  obtain ⟨m, rfl⟩ := Int.eq_ofNat_of_zero_le hn.1
  refine ⟨UInt8.ofNat m, ?_, trivial⟩
  show [Value.int .u8 (m : Int)] = [Value.int .u8 ((UInt8.ofNat m).toNat : Int)]
  rw [UInt8.toNat_ofNat', Nat.mod_eq_of_lt (by omega)]
theorem opens_bytes : Opens Try.prog 30 (List UInt8) (sliceBulk fun _ _ => True) := Opens.slice Try.underlying30 (by kernel_rfl) (by decide) (Opens.u8 Try.underlying5)
theorem order_args (w : World) (v : Value) (l : List UInt8) (h : Lst w (Lo w.heap.size) v l) (hb : l.length * 1 ≤ 140737488351232) : Calls Try.prog 4 #[v] w (IsTrue w) := order_walk v l _ w h
end Go.Proofs.Ytihhncejiahdcab
