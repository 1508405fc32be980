/- slices.Delete at notes, and Take. -/
import Derived.Test.YtejandeehmnibaaLook
import Derived.Test.YtejandeehmnibaaLoc2
import Derived.RegionTactic
namespace Go.Proofs.Ytejandeehmnibaa
open Go Go.RowKit Go.Deep
set_option linter.unusedVariables false
set_option linter.unusedSimpArgs false

theorem zeroNote (w : World) : (zeroValue 34).run Try.prog w = .ok (.agg #[.int .i64 0, .int .i64 0, .int .i64 0, .int .i64 0, .int .i64 0, .slice none 0 0, .slice none 0 0, .int .i64 0]) w := by kernel_rfl

set_option maxHeartbeats 1000000 in
theorem delete_any (g off cap : Nat) (l : List Note) (B : Nat) (T : Nat → Prop) (i : Nat) (w : World) (h : OwnT w B T (.slice (some ⟨g, off, none⟩) l.length cap) l) (hi : i < l.length) (hcl : l.length ≤ cap) (hcm : cap ≤ maxLen) :
    Calls Try.prog 31 #[.slice (some ⟨g, off, none⟩) l.length cap, .int .i64 i, .int .i64 ((i : Int) + 1)] w fun e w' => e = .returned (.slice (some ⟨g, off, none⟩) (l.length - 1) cap) ∧ OwnT w' B T (.slice (some ⟨g, off, none⟩) (l.length - 1) cap) (l.take i ++ l.drop (i + 1)) ∧ w.grownBy w' (some g) := by
  unfold maxLen at hcm
  obtain ⟨i0, hi0, iz0, iz1, iz2⟩ := info_parts infoNote
  have ht := h.drew.take (i := i) (by omega)
  obtain ⟨news, hnews, hsrc⟩ := h.drew.rest (P := Try.prog) Try.underlying26 (j := i + 1) (by omega) (cap - (i + 1))
  have HI := Lib.hid hi0
  have HT := Lib.hid ht
  have HNEWS := Lib.hid hnews
  have HSRC := Lib.hid hsrc
  have HH := Lib.hid h
  have hq : ((i : Int) == (i : Int) + 1) = false := beq_eq_false_iff_ne.2 (by omega)
  clear hi0 ht hnews hsrc h
  go_enter Try.func31, Try.ntmps31
  have k1 : i ≤ cap := by omega
  have k2 : (0 : Int) ≤ (i : Int) + 1 := by omega
  have k3 : (i : Int) + 1 ≤ (l.length : Int) := by omega
  by_cases hjc : i + 1 < cap
  · have k4 : ¬ cap = i + 1 := by omega
    go_wp2_with fail
    refine wp_region_noPanic ?_
    refine wp_region_stage (fun w' => True) 7 (by kernel_rfl) trivial (fun hS => ?_)
    refine wpStage_take (i := 0) (v := ?_) (by simp only [List.getElem?_toArray, List.getElem?_cons_succ, List.getElem?_cons_zero]; rfl) (by rfl) (by kernel_rfl) (fun _ _ _ h => h) ?_ hS ?_ -- move
    rotate_left 1
    · intro w hSw; go_simp; try with_reducible rfl
    try simp only [Act.put, List.setIfInBounds_toArray, List.set_cons_zero, List.set_cons_succ]
    refine wpStage_take (i := 1) (v := ?_) (by simp only [List.getElem?_toArray, List.getElem?_cons_succ, List.getElem?_cons_zero]; rfl) (by rfl) (by kernel_rfl) (fun _ _ _ h => h) ?_ hS ?_ -- move
    rotate_left 1
    · intro w hSw; go_simp; try with_reducible rfl
    try simp only [Act.put, List.setIfInBounds_toArray, List.set_cons_zero, List.set_cons_succ]
    refine wpStage_take (i := 2) (v := ?_) (by simp only [List.getElem?_toArray, List.getElem?_cons_succ, List.getElem?_cons_zero]; rfl) (by rfl) (by kernel_rfl) (fun _ _ _ h => h) ?_ hS ?_ -- slice
    rotate_left 1
    · intro w hSw; go_simp; try with_reducible rfl
    try simp only [Act.put, List.setIfInBounds_toArray, List.set_cons_zero, List.set_cons_succ]
    refine wpStage_take (i := 3) (v := ?_) (by simp only [List.getElem?_toArray, List.getElem?_cons_succ, List.getElem?_cons_zero]; rfl) (by rfl) (by kernel_rfl) (fun _ _ _ h => h) ?_ hS ?_ -- move
    rotate_left 1
    · intro w hSw; go_simp; try with_reducible rfl
    try simp only [Act.put, List.setIfInBounds_toArray, List.set_cons_zero, List.set_cons_succ]
    refine wpStage_take (i := 4) (v := ?_) (by simp only [List.getElem?_toArray, List.getElem?_cons_succ, List.getElem?_cons_zero]; rfl) (by rfl) (by kernel_rfl) (fun _ _ _ h => h) ?_ hS ?_ -- move
    rotate_left 1
    · intro w hSw; go_simp; try with_reducible rfl
    try simp only [Act.put, List.setIfInBounds_toArray, List.set_cons_zero, List.set_cons_succ]
    refine wpStage_take (i := 5) (v := ?_) (by simp only [List.getElem?_toArray, List.getElem?_cons_succ, List.getElem?_cons_zero]; rfl) (by rfl) (by kernel_rfl) (fun _ _ _ h => h) ?_ hS ?_ -- slice
    rotate_left 1
    · intro w hSw; go_simp; try with_reducible rfl
    try simp only [Act.put, List.setIfInBounds_toArray, List.set_cons_zero, List.set_cons_succ]
    refine wpStage_ready (rs := [6]) (by kernel_rfl) (by simp) ?_
    refine StageOne.cons (by simp only [List.getElem?_toArray, List.getElem?_cons_succ, List.getElem?_cons_zero]; rfl) (by rfl) (fun K hK => ?_) StageOne.nil -- call builtin append
    have hin := HI.out
    refine wp_append_room (.tmp 22) (.tmp 25) 26 26 rfl 34 i0 Try.underlying26 hin iz1 (by rfl) HT.out _ (by rfl) _ (HSRC.out _ (fun h => by first | rfl | omega)) HNEWS.out (by rw [List.length_drop]; omega) ?_
    intro ho4
    rw [show i + (l.drop (i + 1)).length = l.length - 1 by rw [List.length_drop]; omega] at ho4 ⊢
    have HO4 := Lib.hid ho4
    clear ho4
    refine hK.out _ _ trivial (fun hS => ?_)
    clear hK K
    try simp only [Act.put, List.setIfInBounds_toArray, List.set_cons_zero, List.set_cons_succ]
    refine wpStage_ready (rs := [7]) (by kernel_rfl) (by simp) ?_
    refine StageOne.late (by simp only [List.getElem?_toArray, List.getElem?_cons_succ, List.getElem?_cons_zero]; rfl) (by rfl) (by kernel_rfl) (fun K hK => ?_) StageOne.nil -- assign 
    go_simp
    refine hK.out _ _ ?_
    clear hK K
    try simp only [Act.put, List.setIfInBounds_toArray, List.set_cons_zero, List.set_cons_succ]
    refine wpStage_done (by kernel_rfl) (NoPanic.normal ?_) _
    have hth := HO4.out.there
    have hth2 : (w.drew.setCells g (off + i * Rep.sz Note) news).there g (off + (l.length - 1) * 8) ((l.length - (l.length - 1)) * 8) := fun j hj => by
      have := hth.1 ((l.length - 1) * 8 + j) (by show _ < cap * 8; omega)
      rwa [← Nat.add_assoc] at this
    have HTH := Lib.hid hth2
    clear hth hth2
    go_wp2_with (refine wpList_clear rfl _ 26 34 rfl Try.underlying26 _ zeroNote (by simp [Value.cells, Value.oneCell']) 8 rfl g (off + (l.length - 1) * 8) _ _ (by rfl) HTH.out ?_; intro ccs hccs)
    go_ret
    refine ⟨rfl, HO4.out.beyond (Nat.le_refl _) _, ?_⟩
    have hg1 : w.grownBy w.drew (some g) := ⟨rfl, rfl, rfl, Nat.le_refl _, fun _ _ _ => rfl⟩
    exact (hg1.trans (grown_setCells _ _ _ _)).trans (grown_setCells _ _ _ _)
  · obtain rfl : cap = i + 1 := by omega
    have k5 : (i : Int) ≤ (i : Int) + 1 := by omega
    obtain ⟨news, hnews, hsrc⟩ := HH.out.drew.rest (P := Try.prog) Try.underlying26 (j := i + 1) (by omega) 0
    rw [show l.length - (i + 1) = 0 by omega] at hsrc
    have HNEWS := Lib.hid hnews
    have HSRC := Lib.hid hsrc
    clear hnews hsrc
    go_wp2_with fail
    refine wp_region_noPanic ?_
    refine wp_region_stage (fun w' => True) 7 (by kernel_rfl) trivial (fun hS => ?_)
    refine wpStage_take (i := 0) (v := ?_) (by simp only [List.getElem?_toArray, List.getElem?_cons_succ, List.getElem?_cons_zero]; rfl) (by rfl) (by kernel_rfl) (fun _ _ _ h => h) ?_ hS ?_ -- move
    rotate_left 1
    · intro w hSw; go_simp; try with_reducible rfl
    try simp only [Act.put, List.setIfInBounds_toArray, List.set_cons_zero, List.set_cons_succ]
    refine wpStage_take (i := 1) (v := ?_) (by simp only [List.getElem?_toArray, List.getElem?_cons_succ, List.getElem?_cons_zero]; rfl) (by rfl) (by kernel_rfl) (fun _ _ _ h => h) ?_ hS ?_ -- move
    rotate_left 1
    · intro w hSw; go_simp; try with_reducible rfl
    try simp only [Act.put, List.setIfInBounds_toArray, List.set_cons_zero, List.set_cons_succ]
    refine wpStage_take (i := 2) (v := ?_) (by simp only [List.getElem?_toArray, List.getElem?_cons_succ, List.getElem?_cons_zero]; rfl) (by rfl) (by kernel_rfl) (fun _ _ _ h => h) ?_ hS ?_ -- slice
    rotate_left 1
    · intro w hSw; go_simp; try with_reducible rfl
    try simp only [Act.put, List.setIfInBounds_toArray, List.set_cons_zero, List.set_cons_succ]
    refine wpStage_take (i := 3) (v := ?_) (by simp only [List.getElem?_toArray, List.getElem?_cons_succ, List.getElem?_cons_zero]; rfl) (by rfl) (by kernel_rfl) (fun _ _ _ h => h) ?_ hS ?_ -- move
    rotate_left 1
    · intro w hSw; go_simp; try with_reducible rfl
    try simp only [Act.put, List.setIfInBounds_toArray, List.set_cons_zero, List.set_cons_succ]
    refine wpStage_take (i := 4) (v := ?_) (by simp only [List.getElem?_toArray, List.getElem?_cons_succ, List.getElem?_cons_zero]; rfl) (by rfl) (by kernel_rfl) (fun _ _ _ h => h) ?_ hS ?_ -- move
    rotate_left 1
    · intro w hSw; go_simp; try with_reducible rfl
    try simp only [Act.put, List.setIfInBounds_toArray, List.set_cons_zero, List.set_cons_succ]
    refine wpStage_take (i := 5) (v := ?_) (by simp only [List.getElem?_toArray, List.getElem?_cons_succ, List.getElem?_cons_zero]; rfl) (by rfl) (by kernel_rfl) (fun _ _ _ h => h) ?_ hS ?_ -- slice
    rotate_left 1
    · intro w hSw; go_simp; try with_reducible rfl
    try simp only [Act.put, List.setIfInBounds_toArray, List.set_cons_zero, List.set_cons_succ]
    refine wpStage_ready (rs := [6]) (by kernel_rfl) (by simp) ?_
    refine StageOne.cons (by simp only [List.getElem?_toArray, List.getElem?_cons_succ, List.getElem?_cons_zero]; rfl) (by rfl) (fun K hK => ?_) StageOne.nil -- call builtin append
    have hin := HI.out
    refine wp_append_room (.tmp 22) (.tmp 25) 26 26 rfl 34 i0 Try.underlying26 hin iz1 (by rfl) HT.out _ (by rfl) _ (HSRC.out _ (fun h => by first | rfl | omega)) HNEWS.out (by rw [List.length_drop]; omega) ?_
    intro ho4
    rw [show i + (l.drop (i + 1)).length = l.length - 1 by rw [List.length_drop]; omega] at ho4 ⊢
    have HO4 := Lib.hid ho4
    clear ho4
    refine hK.out _ _ trivial (fun hS => ?_)
    clear hK K
    try simp only [Act.put, List.setIfInBounds_toArray, List.set_cons_zero, List.set_cons_succ]
    refine wpStage_ready (rs := [7]) (by kernel_rfl) (by simp) ?_
    refine StageOne.late (by simp only [List.getElem?_toArray, List.getElem?_cons_succ, List.getElem?_cons_zero]; rfl) (by rfl) (by kernel_rfl) (fun K hK => ?_) StageOne.nil -- assign 
    go_simp
    refine hK.out _ _ ?_
    clear hK K
    try simp only [Act.put, List.setIfInBounds_toArray, List.set_cons_zero, List.set_cons_succ]
    refine wpStage_done (by kernel_rfl) (NoPanic.normal ?_) _
    have hth := HO4.out.there
    have hth2 : (w.drew.setCells g (off + i * Rep.sz Note) news).there g (off + (l.length - 1) * 8) ((l.length - (l.length - 1)) * 8) := fun j hj => by
      have := hth.1 ((l.length - 1) * 8 + j) (by show _ < (i + 1) * 8; omega)
      rwa [← Nat.add_assoc] at this
    have HTH := Lib.hid hth2
    clear hth hth2
    go_wp2_with (refine wpList_clear rfl _ 26 34 rfl Try.underlying26 _ zeroNote (by simp [Value.cells, Value.oneCell']) 8 rfl g (off + (l.length - 1) * 8) _ _ (by rfl) HTH.out ?_; intro ccs hccs)
    go_ret
    refine ⟨rfl, HO4.out.beyond (Nat.le_refl _) _, ?_⟩
    have hg1 : w.grownBy w.drew (some g) := ⟨rfl, rfl, rfl, Nat.le_refl _, fun _ _ _ => rfl⟩
    exact (hg1.trans (grown_setCells _ _ _ _)).trans (grown_setCells _ _ _ _)

def TakeP (w : World) (l : List Note) (x : Note) (err : Int) (e : Ending) (w' : World) : Prop :=
  ∃ v nv, e = .returned (.tuple #[.agg #[v], nv, .int .i64 err]) ∧ OwnT w' w.heap.size (fun b => w.heap.size ≤ b) v l ∧ NoteVal w' (fun b => w.heap.size ≤ b) x nv ∧ Below w.heap.size w w'

set_option maxHeartbeats 1000000 in
theorem chTake_yes (v : Value) (l : List Note) (i : Nat) (S : Nat → Prop) (w : World) (h : Lst w S v l) (hi : i < l.length) (hs : SmallAll l) (hl : l.length ≤ 1000000) :
    Calls Try.prog 15 #[.agg #[v], .int .i64 i] w (TakeP w (l.take i ++ l.drop (i + 1)) l[i] 0) := by
  obtain ⟨a, cap, rfl, hlc, hcm⟩ := h.form
  have h0 := (((St.start w).alloc [.slice a l.length cap] 28).alloc [.slice none 0 0] 28).alloc zeroCells 34
  have hown := chown_any (.slice a l.length cap) l S _ (h0.lst h) hs hl
  have hlook := fun (L : List (Nat × List Value)) (W : World) (hW : St w L W) => chLook_yes (.slice a l.length cap) l i S W (hW.lst h) hi hs
  simp only [World.size_alloc] at h0
  have HOWN := Lib.hid hown
  have HLOOK := Lib.hid hlook
  have H0 := Lib.hid h0
  have HI := Lib.hid hi
  clear h hown hlook h0 hs
  go_enter Try.func15, Try.ntmps15
  go_wp2_with fail
  refine HOWN.out.mono ?_
  rintro e w1 ⟨v1, rfl, ho1, hb1⟩
  obtain ⟨g, off, cap1, rfl, hc1, hc2, hg1, hg2⟩ := ho1.addr (by omega)
  have h1 := H0.out.call hb1
  have h2 := h1.alloc [.slice (some ⟨g, off, none⟩) l.length cap1] 28
  have hz1 := hb1.size
  simp only [World.size_alloc] at hz1 hg1
  have hc := h1.loc
  simp only [Loc, Cel, zeroCells, List.not_mem_nil, List.mem_cons, Nat.reduceAdd, Nat.zero_add, or_false, forall_eq_or_imp, forall_eq, false_implies, implies_true, and_true, true_and] at hc
  have hoT := ho1.bound.weaken (T' := fun b => w.heap.size + 1 + 1 + 1 ≤ b ∧ b < w1.heap.size) (fun b hb => by simpa using hb) |>.mono (B' := w.heap.size + 1 + 1 + 1) (by simp)
  have HO1 := Lib.hid hoT
  have H2 := Lib.hid h2
  clear ho1 hoT hb1 h1 h2
  go_wp2_with fail
  obtain ⟨x, hx, hlk⟩ := HLOOK.out _ _ H2.out
  refine hlk.mono ?_
  rintro e w3 ⟨nv, rfl, ⟨aq, cq, av, cv, rfl, hq, hv⟩, hb3⟩
  have h3 := H2.out.call hb3
  have h4 := h3.alloc (x.cells (.slice aq x.query.length cq) (.slice av x.values.length cv)) 34
  have hz3 := hb3.size
  simp only [World.size_alloc] at hz3
  have hc := h3.loc
  simp only [Loc, Cel, zeroCells, List.not_mem_nil, List.mem_cons, Nat.reduceAdd, Nat.zero_add, or_false, forall_eq_or_imp, forall_eq, false_implies, implies_true, and_true, true_and] at hc
  have HO3 := Lib.hid ((HO1.out.alloc (.cells #[.slice (some ⟨g, off, none⟩) l.length cap1] 28)).below hb3)
  have H4 := Lib.hid h4
  have HQ := Lib.hid hq
  have HV := Lib.hid hv
  have HX := Lib.hid hx
  clear h3 h4 hq hv hx hb3 hlk
  go_wp2_with fail
  have hgw : w.heap.size + 1 + 1 + 1 ≤ g ∧ g < w1.heap.size := ⟨hg1, hg2⟩
  refine (delete_any g off cap1 l _ _ i _ (HO3.out.alloc _) HI.out hc1 hc2).mono ?_
  rintro e w5 ⟨rfl, ho5, hg5⟩
  have hq0 := HQ.out.bound
  have hv0 := HV.out.bound
  simp only [World.size_alloc] at hq0 hv0
  have hq5 := (hq0.alloc (.cells #[.int .i64 x.kind, .int .i64 x.read, .int .i64 x.probe, .int .i64 x.server, .int .i64 x.version, .slice aq x.query.length cq, .slice av x.values.length cv, .int .i64 x.mark] 34)).grown hg5 (fun k hk => by injection hk; omega)
  have hv5 := (hv0.alloc (.cells #[.int .i64 x.kind, .int .i64 x.read, .int .i64 x.probe, .int .i64 x.server, .int .i64 x.version, .slice aq x.query.length cq, .slice av x.values.length cv, .int .i64 x.mark] 34)).grown hg5 (fun k hk => by injection hk; omega)
  have h5 := H4.out.grown hg5 (fun k hk => by injection hk; omega) (fun p hp => by
    simp only [List.mem_cons, List.not_mem_nil, or_false] at hp
    rcases hp with rfl | rfl | rfl | rfl | rfl <;> (intro e; injection e; omega))
  have hz5 := hg5.size
  simp only [World.size_alloc] at hz5
  have hc := h5.loc
  simp only [Loc, Cel, zeroCells, Note.cells, List.set_cons_zero, List.set_cons_succ, List.not_mem_nil, List.mem_cons, Nat.reduceAdd, Nat.zero_add, or_false, forall_eq_or_imp, forall_eq, false_implies, implies_true, and_true, true_and] at hc
  have H5 := Lib.hid h5
  have HO5 := Lib.hid ho5
  have HQ5 := Lib.hid hq5
  have HV5 := Lib.hid hv5
  clear h5 ho5 hq5 hv5 hg5 hq0 hv0
  go_wp2_with fail
  have h6 := H5.out.set (j := 1) (i := 0) rfl (by simp) (.slice (some ⟨g, off, none⟩) (l.length - 1) cap1)
  have hc := h6.loc
  simp only [upd, List.modify_succ_cons, List.modify_zero_cons] at hc
  simp only [Loc, Cel, zeroCells, Note.cells, List.set_cons_zero, List.set_cons_succ, List.not_mem_nil, List.mem_cons, Nat.reduceAdd, Nat.zero_add, or_false, forall_eq_or_imp, forall_eq, false_implies, implies_true, and_true, true_and] at hc
  go_region
  go_wp2_with fail
  refine bodyPost_ret (v := .tuple #[.agg #[.slice (some ⟨g, off, none⟩) (l.length - 1) cap1], .agg #[.int .i64 x.kind, .int .i64 x.read, .int .i64 x.probe, .int .i64 x.server, .int .i64 x.version, .slice aq x.query.length cq, .slice av x.values.length cv, .int .i64 x.mark], .int .i64 0]) (by simp [results, Try.results15, go_sem, *]) rfl ?_
  rw [← setCells_8]
  refine ⟨_, _, rfl, ?_, ⟨aq, cq, av, cv, by rw [← HX.out], ?_, ?_⟩, ?_⟩
  · exact ((OwnT.drew (OwnT.far_cells (OwnT.far (OwnT.far HO5.out (own_ne (show g ≠ w1.heap.size by omega)) (by simp) _) (own_ne (show g ≠ w.heap.size + 1 by omega)) (by simp; omega) _) (own_ne (show g ≠ w.heap.size + 1 + 1 by omega)) (by simp; omega))).mono (by omega)).weaken fun b hb => by omega
  · rw [← HX.out]
    refine (Lst.drew (Lst.far_cells (Lst.far_cell (Lst.far_cell HQ5.out ?_ _) ?_ _) ?_)).more fun b hb => by omega
    all_goals (simp; omega)
  · rw [← HX.out]
    refine (Lst.drew (Lst.far_cells (Lst.far_cell (Lst.far_cell HV5.out ?_ _) ?_ _) ?_)).more fun b hb => by omega
    all_goals (simp; omega)
  · have h7 := (((H5.out.set (j := 1) (i := 0) rfl (by simp) (.slice (some ⟨g, off, none⟩) (l.length - 1) cap1)).set (j := 3) (i := 0) rfl (by simp) (.slice (some ⟨g, off, none⟩) (l.length - 1) cap1)).setAll (j := 2) (cs' := [.int .i64 x.kind, .int .i64 x.read, .int .i64 x.probe, .int .i64 x.server, .int .i64 x.version, .slice aq x.query.length cq, .slice av x.values.length cv, .int .i64 x.mark]) rfl rfl).drew
    exact h7.below
end Go.Proofs.Ytejandeehmnibaa
