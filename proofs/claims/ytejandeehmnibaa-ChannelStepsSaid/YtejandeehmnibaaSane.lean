/- The sanity check of chapter 31. -/
import Derived.Test.YtejandeehmnibaaTake
namespace Go.Proofs.Ytejandeehmnibaa
open Go Go.RowKit Go.Deep
set_option linter.unusedVariables false
set_option linter.unusedSimpArgs false

def IsTrue (w : World) (e : Ending) (w' : World) : Prop := e = .returned (.bool true) ∧ Below w.heap.size w w'
def noteRead (n : Int) : Note := ⟨0, n, 0, 0, 0, [], [], 0⟩
theorem noteRead_is (n : Int) (hn : I64 n) (w : World) (S : Nat → Prop) : Rep.is w S [.int .i64 0, .int .i64 n, .int .i64 0, .int .i64 0, .int .i64 0, .slice none 0 0, .slice none 0 0, .int .i64 0] (noteRead n) :=
  ⟨.slice none 0 0, .slice none 0 0, rfl, Lst.nil _ _ _ (Nat.zero_le _), Lst.nil _ _ _ (Nat.zero_le _), by constructor <;> first | exact hn | exact (by decide : I64 0)⟩
theorem noteRead_small (n : Int) : (noteRead n).Small := ⟨by simp [noteRead], by simp [noteRead]⟩

set_option maxHeartbeats 1000000 in
theorem sane_any (w : World) : Calls Try.prog 5 #[] w (IsTrue w) := by
  have hl : Chunks w (fun _ => False) ([.int .i64 0, .int .i64 1, .int .i64 0, .int .i64 0, .int .i64 0, .slice none 0 0, .slice none 0 0, .int .i64 0] ++ ([.int .i64 0, .int .i64 2, .int .i64 0, .int .i64 0, .int .i64 0, .slice none 0 0, .slice none 0 0, .int .i64 0] ++ [.int .i64 0, .int .i64 3, .int .i64 0, .int .i64 0, .int .i64 0, .slice none 0 0, .slice none 0 0, .int .i64 0])) ([noteRead 1] ++ ([noteRead 2] ++ [noteRead 3])) :=
    (Chunks.single (noteRead_is 1 (by decide) _ _)).append ((Chunks.single (noteRead_is 2 (by decide) _ _)).append (Chunks.single (noteRead_is 3 (by decide) _ _)))
  have hl2 := lst_new (t := 34) hl (n := 3) rfl (by decide)
  have h0 := (St.start w).alloc [.int .i64 0, .int .i64 1, .int .i64 0, .int .i64 0, .int .i64 0, .slice none 0 0, .slice none 0 0, .int .i64 0, .int .i64 0, .int .i64 2, .int .i64 0, .int .i64 0, .int .i64 0, .slice none 0 0, .slice none 0 0, .int .i64 0, .int .i64 0, .int .i64 3, .int .i64 0, .int .i64 0, .int .i64 0, .slice none 0 0, .slice none 0 0, .int .i64 0] 34
  have hsend := chSend_yes (.slice none 0 0) _ [] _ _ _ (Lst.nil _ _ _ (Nat.zero_le _)) hl2 (by intro x hx; cases hx) (by
    intro x hx
    simp only [List.cons_append, List.nil_append, List.mem_cons, List.not_mem_nil, or_false] at hx
    rcases hx with rfl | rfl | rfl <;> exact noteRead_small _) (by decide)
  have HS := Lib.hid hsend
  have H0 := Lib.hid h0
  clear hl hl2 h0 hsend
  go_enter Try.func5, Try.ntmps5
  go_wp2_with fail
  refine HS.out.mono ?_
  rintro e w1 ⟨v1, rfl, ho1, hb1⟩
  obtain ⟨a1, c1, rfl, _⟩ := ho1.form
  have h1 := H0.out.call hb1
  have h2 := h1.alloc [.slice a1 3 c1] 28
  have htake := chTake_yes (.slice a1 3 c1) _ 1 _ _ (ho1.lst.alloc (.cells #[.slice a1 3 c1] 28)) (by decide) (by
    intro x hx
    simp only [List.cons_append, List.nil_append, List.mem_cons, List.not_mem_nil, or_false] at hx
    rcases hx with rfl | rfl | rfl <;> exact noteRead_small _) (by decide)
  have HT := Lib.hid htake
  have H2 := Lib.hid h2
  clear ho1 hb1 h1 h2 htake
  go_wp2_with fail
  refine HT.out.mono ?_
  rintro e w2 ⟨v2, nv, rfl, ho2, ⟨aq, cq, av, cv, rfl, hq, hv⟩, hb2⟩
  obtain ⟨a2, c2, rfl, _⟩ := ho2.form
  have h3 := H2.out.call hb2
  have hz2 := hb2.size
  simp only [World.size_alloc] at hz2
  have hc := h3.loc
  simp only [Loc, Cel, zeroCells, Note.cells, upd, List.modify_succ_cons, List.modify_zero_cons, List.set_cons_zero, List.set_cons_succ, List.not_mem_nil, List.mem_cons, Nat.reduceAdd, Nat.zero_add, or_false, forall_eq_or_imp, forall_eq, false_implies, implies_true, and_true, true_and] at hc
  obtain ⟨g, off, cs, rfl, hg, hra, his⟩ := ho2.lst.atN 8 rfl (i := 1) (by decide)
  obtain ⟨aq2, cq2, av2, cv2, rfl, _, _, _, d0, d1, d2, d3, d4, d5, d6, d7⟩ := Note.at_ his hra
  have hx1 : (([] ++ ([noteRead 1] ++ ([noteRead 2] ++ [noteRead 3])) : List Note)[1]).read = 2 := rfl
  have hx2 : ((List.take 1 ([] ++ ([noteRead 1] ++ ([noteRead 2] ++ [noteRead 3]))) ++ List.drop (1 + 1) ([] ++ ([noteRead 1] ++ ([noteRead 2] ++ [noteRead 3]))) : List Note)[1]).read = 3 := rfl
  rw [hx2] at d1
  have hg2 := hg.2
  have hgw : w1.heap.size + 1 ≤ g := by
    have := (ho2.lt (g := g) rfl).2
    simpa using this
  have H3 := Lib.hid h3
  clear h3 ho2 hb2 hq hv his hra d0 d2 d3 d4 d5 d6 d7 hg
  go_wp2_with fail
  go_ret
  have h4 := H3.out.set (j := 0) (i := 0) rfl (by simp) (.slice (some ⟨g, off, none⟩) 2 c2)
  exact ⟨rfl, h4.below.alloc h4.size _⟩
end Go.Proofs.Ytejandeehmnibaa
