/- Look, in the program and in the reference. -/
import Derived.Test.YtejandeehmnibaaSameNote
import Derived.Test.YtejandeehmnibaaLoc
namespace Go.Proofs.Ytejandeehmnibaa
open Go Go.RowKit Go.Deep
set_option linter.unusedVariables false
set_option linter.unusedSimpArgs false

theorem look_tests (n : Int) (k : Nat) (h : n < 0 ∨ (k : Int) ≤ n) : (decide (n < 0) = true) ∨ (decide (n < 0) = false ∧ decide ((k : Int) ≤ n) = true) := by
  by_cases h0 : n < 0
  · exact .inl (decide_eq_true h0)
  · exact .inr ⟨decide_eq_false h0, decide_eq_true (by omega)⟩

/-- A note by value, whose lists are read in blocks of T. -/
def NoteVal (w : World) (T : Nat → Prop) (x : Note) (v : Value) : Prop :=
  ∃ aq cq av cv, v = .agg #[.int .i64 x.kind, .int .i64 x.read, .int .i64 x.probe, .int .i64 x.server, .int .i64 x.version, .slice aq x.query.length cq, .slice av x.values.length cv, .int .i64 x.mark] ∧ Lst w T (.slice aq x.query.length cq) x.query ∧ Lst w T (.slice av x.values.length cv) x.values
theorem NoteVal.keep {w w' : World} {T T' : Nat → Prop} {x : Note} {v : Value} (h : NoteVal w T x v) (hk : ∀ b, T b → b < w.heap.size → T' b ∧ w'.heap[b]? = w.heap[b]?) : NoteVal w' T' x v := by
  obtain ⟨aq, cq, av, cv, h1, h2, h3⟩ := h
  exact ⟨aq, cq, av, cv, h1, h2.keep hk, h3.keep hk⟩

def LookP (w : World) (T : Nat → Prop) (x : Note) (err : Int) (e : Ending) (w' : World) : Prop :=
  ∃ v, e = .returned (.tuple #[v, .int .i64 err]) ∧ NoteVal w' T x v ∧ Below w.heap.size w w'

theorem chLook_no (v : Value) (l : List Note) (n : Int) (S : Nat → Prop) (w : World) (h : Lst w S v l) (hn : n < 0 ∨ (l.length : Int) ≤ n) :
    Calls Try.prog 17 #[.agg #[v], .int .i64 n] w (LookP w (fun _ => False) Note.zero 6) := by
  obtain ⟨a, cap, rfl, hlc, hcm⟩ := h.form
  have hb := (((Below.refl w.heap.size w).alloc (Nat.le_refl _) (.cells #[.slice a l.length cap] 28)).alloc (by simp) (.cells #[.int .i64 0, .int .i64 0, .int .i64 0, .int .i64 0, .int .i64 0, .slice none 0 0, .slice none 0 0, .int .i64 0] 34))
  have ht := look_tests n l.length hn
  clear h hn
  rcases ht with h1 | ⟨h1, h2⟩
  all_goals
    go_enter Try.func17, Try.ntmps17
    go_wp2_with fail
    refine bodyPost_ret (v := .tuple #[.agg #[.int .i64 0, .int .i64 0, .int .i64 0, .int .i64 0, .int .i64 0, .slice none 0 0, .slice none 0 0, .int .i64 0], .int .i64 6]) (by simp [results, Try.results17, go_sem, *]) rfl ?_
    exact ⟨_, rfl, ⟨none, 0, none, 0, rfl, Lst.nil _ _ _ (Nat.zero_le _), Lst.nil _ _ _ (Nat.zero_le _)⟩, hb⟩
theorem r31Look_no (v : Value) (l : List Note) (n : Int) (S : Nat → Prop) (w : World) (h : Lst w S v l) (hn : n < 0 ∨ (l.length : Int) ≤ n) :
    Calls Try.prog 18 #[.agg #[v], .int .i64 n] w (LookP w (fun _ => False) Note.zero 6) := by
  obtain ⟨a, cap, rfl, hlc, hcm⟩ := h.form
  have hb := (((Below.refl w.heap.size w).alloc (Nat.le_refl _) (.cells #[.slice a l.length cap] 28)).alloc (by simp) (.cells #[.int .i64 0, .int .i64 0, .int .i64 0, .int .i64 0, .int .i64 0, .slice none 0 0, .slice none 0 0, .int .i64 0] 34))
  have ht := look_tests n l.length hn
  clear h hn
  rcases ht with h1 | ⟨h1, h2⟩
  all_goals
    go_enter Try.func18, Try.ntmps18
    go_wp2_with fail
    refine bodyPost_ret (v := .tuple #[.agg #[.int .i64 0, .int .i64 0, .int .i64 0, .int .i64 0, .int .i64 0, .slice none 0 0, .slice none 0 0, .int .i64 0], .int .i64 6]) (by simp [results, Try.results18, go_sem, *]) rfl ?_
    exact ⟨_, rfl, ⟨none, 0, none, 0, rfl, Lst.nil _ _ _ (Nat.zero_le _), Lst.nil _ _ _ (Nat.zero_le _)⟩, hb⟩

theorem r31Look_yes (v : Value) (l : List Note) (i : Nat) (S : Nat → Prop) (w : World) (h : Lst w S v l) (hi : i < l.length) :
    Calls Try.prog 18 #[.agg #[v], .int .i64 i] w (LookP w S l[i] 0) := by
  obtain ⟨a, cap, rfl, hlc, hcm⟩ := h.form
  unfold maxLen at hcm
  have hb := (((Below.refl w.heap.size w).alloc (Nat.le_refl _) (.cells #[.slice a l.length cap] 28)).alloc (by simp) (.cells #[.int .i64 0, .int .i64 0, .int .i64 0, .int .i64 0, .int .i64 0, .slice none 0 0, .slice none 0 0, .int .i64 0] 34))
  have h1 : decide ((i : Int) < 0) = false := decide_eq_false (by omega)
  have h2 : decide (l.length ≤ i) = false := decide_eq_false (by omega)
  obtain ⟨g0, off0, cs, rfl, hSg, hra, his⟩ := h.atN 8 rfl hi
  obtain ⟨x, hx⟩ : ∃ x, x = l[i] := ⟨_, rfl⟩
  rw [← hx] at his ⊢
  obtain ⟨aq, cq, av, cv, rfl, hq', hv', hin, c0, c1, c2, c3, c4, c5, c6, c7⟩ := Note.at_ his hra
  have hg0 := hSg.2
  have HQ := Lib.hid hq'
  have HV := Lib.hid hv'
  have HB := Lib.hid hb
  clear h hx his hra hq' hv' hb
  go_enter Try.func18, Try.ntmps18
  go_wp2_with fail
  refine bodyPost_ret (v := .tuple #[.agg #[.int .i64 x.kind, .int .i64 x.read, .int .i64 x.probe, .int .i64 x.server, .int .i64 x.version, .slice aq x.query.length cq, .slice av x.values.length cv, .int .i64 x.mark], .int .i64 0]) (by simp [results, Try.results18, go_sem, *]) rfl ?_
  have h0 := ((St.start w).alloc [.slice (some ⟨g0, off0, none⟩) l.length cap] 28).alloc (x.cells (.slice aq x.query.length cq) (.slice av x.values.length cv)) 34
  exact ⟨_, rfl, ⟨aq, cq, av, cv, rfl, h0.lst HQ.out, h0.lst HV.out⟩, h0.below⟩

theorem chLook_yes (v : Value) (l : List Note) (i : Nat) (S : Nat → Prop) (w : World) (h : Lst w S v l) (hi : i < l.length) (hs : SmallAll l) :
    ∃ x, x = l[i] ∧ Calls Try.prog 17 #[.agg #[v], .int .i64 i] w fun e w' => LookP w (fun b => w.heap.size ≤ b) x 0 e w' := by
  obtain ⟨a, cap, rfl, hlc, hcm⟩ := h.form
  unfold maxLen at hcm
  have h1 : decide ((i : Int) < 0) = false := decide_eq_false (by omega)
  have h2 : decide (l.length ≤ i) = false := decide_eq_false (by omega)
  obtain ⟨g0, off0, cs, rfl, hSg, hra, his⟩ := h.atN 8 rfl hi
  have hsm : l[i].Small := hs _ (List.getElem_mem hi)
  obtain ⟨x, hx⟩ : ∃ x, x = l[i] := ⟨_, rfl⟩
  rw [← hx] at his hsm
  refine ⟨x, hx, ?_⟩
  obtain ⟨aq, cq, av, cv, rfl, hq', hv', hin, c0, c1, c2, c3, c4, c5, c6, c7⟩ := Note.at_ his hra
  have hg0 := hSg.2
  have h0 := ((St.start w).alloc [.slice (some ⟨g0, off0, none⟩) l.length cap] 28).alloc zeroCells 34
  have hown := chOwn_any x aq _ cq av _ cv S _ (h0.lst hq') (h0.lst hv') hsm
  simp only [World.size_alloc] at h0
  have HOWN := Lib.hid hown
  have H0 := Lib.hid h0
  clear h hx his hra hq' hv' hown h0 hsm
  go_enter Try.func17, Try.ntmps17
  go_wp2_with fail
  refine HOWN.out.mono ?_
  rintro e w1 ⟨q, v, rfl, ho1, ho2, hb1⟩
  have h1' := H0.out.call hb1
  obtain ⟨qa, qc, rfl, _⟩ := ho1.form
  obtain ⟨va, vc, rfl, _⟩ := ho2.form
  have hc := h1'.loc
  simp only [Loc, Cel, zeroCells, List.not_mem_nil, List.mem_cons, Nat.reduceAdd, Nat.zero_add, or_false, forall_eq, false_implies, implies_true, and_true, true_and] at hc
  have hz1 := hb1.size
  simp only [World.size_alloc] at hz1
  have H1 := Lib.hid h1'
  have HO1 := Lib.hid ho1
  have HO2 := Lib.hid ho2
  clear h1' ho1 ho2 hb1
  go_wp2_with fail
  rw [← setCells_8]
  have h2 := H1.out.setAll (j := 0) (cs' := [.int .i64 x.kind, .int .i64 x.read, .int .i64 x.probe, .int .i64 x.server, .int .i64 x.version, .slice qa x.query.length qc, .slice va x.values.length vc, .int .i64 x.mark]) rfl rfl
  have hc := h2.loc
  refine bodyPost_ret (v := .tuple #[.agg #[.int .i64 x.kind, .int .i64 x.read, .int .i64 x.probe, .int .i64 x.server, .int .i64 x.version, .slice qa x.query.length qc, .slice va x.values.length vc, .int .i64 x.mark], .int .i64 0]) ?_ rfl ?_
  · simp only [Loc, Cel, zeroCells, List.set_cons_zero, List.not_mem_nil, List.mem_cons, Nat.reduceAdd, Nat.zero_add, or_false, forall_eq, false_implies, implies_true, and_true, true_and] at hc
    simp [results, Try.results17, go_sem, *]
  · refine ⟨_, rfl, ⟨qa, qc, va, vc, rfl, ?_, ?_⟩, h2.below⟩
    · exact (((HO1.out.anyT (T' := fun _ => False)).far_cells (b := w.heap.size + 1) (fun e => by have := (HO1.out.lt e).2; simp at this; omega) (by simp)).lst_int).more fun b hb => by have := hb.1; try simp only [World.size_alloc] at this; omega
    · exact (((HO2.out.anyT (T' := fun _ => False)).far_cells (b := w.heap.size + 1) (fun e => by have := (HO2.out.lt e).2; simp at this; omega) (by simp)).lst_int).more fun b hb => by have := hb.1; try simp only [World.size_alloc] at this; omega
end Go.Proofs.Ytejandeehmnibaa
