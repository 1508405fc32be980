/- Queries of the third kind of the document. -/
import Derived.Test.YtihjmnhjjpdenaaMVwE
namespace Go.Proofs.Ytihjmnhjjpdenaa.Sim
open Go
set_option maxRecDepth 100000
set_option maxHeartbeats 4000000
set_option linter.unusedVariables false
set_option linter.unusedSimpArgs false
attribute [local irreducible] Go Mean
/-- The coefficients of the query of a group. -/
def coef18 (gr grp deg : Nat) (t : List Int) (i : Nat) : List Int := if i = gr then (List.replicate grp 0 ++ (t.drop (i * deg)).take deg).set 0 1 else List.replicate grp 0 ++ (t.drop (i * deg)).take deg
theorem coef18_in {p : Int} (hp : okP p) {gr grp deg : Nat} {t : List Int} (ht : inF p t) (i : Nat) : inF p (coef18 gr grp deg t i) := by
  have := hp.le
  have h : inF p (List.replicate grp 0 ++ (t.drop (i * deg)).take deg) := fun y hy => by
    rcases List.mem_append.1 hy with hy | hy
    · obtain rfl := List.eq_of_mem_replicate hy; omega
    · exact ht y (List.mem_of_mem_drop (List.mem_of_mem_take hy))
  rw [coef18]
  split
  · exact h.set 0 (by omega)
  · exact h
theorem coef18_len {gr grp deg : Nat} {t : List Int} (i : Nat) : (coef18 gr grp deg t i).length ≤ grp + deg := by
  rw [coef18]
  split
  · rw [List.length_set, List.length_append, List.length_replicate, List.length_take]; omega
  · rw [List.length_append, List.length_replicate, List.length_take]; omega
end Go.Proofs.Ytihjmnhjjpdenaa.Sim
