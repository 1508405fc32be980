/- channel.Send. -/
import Derived.Test.YtejandeehmnibaaOwn2
import Derived.Test.YtejandeehmnibaaStage
namespace Go.Proofs.Ytejandeehmnibaa
open Go Go.RowKit Go.Deep
set_option linter.unusedVariables false
set_option linter.unusedSimpArgs false

def noteCells (x : Note) (q v : Value) : Array Value := #[.int .i64 x.kind, .int .i64 x.read, .int .i64 x.probe, .int .i64 x.server, .int .i64 x.version, q, v, .int .i64 x.mark]
/-- Own, said of all worlds behind w0. -/
theorem chOwn_at {x : Note} {a a2 : Option Addr} {c c2 : Nat} {S : Nat → Prop} {w0 : World} (hq : Lst w0 S (.slice a x.query.length c) x.query) (hv : Lst w0 S (.slice a2 x.values.length c2) x.values) (hs : x.Small) :
    ∀ W, Below w0.heap.size w0 W → Calls Try.prog 29 #[.agg #[.int .i64 x.kind, .int .i64 x.read, .int .i64 x.probe, .int .i64 x.server, .int .i64 x.version, .slice a x.query.length c, .slice a2 x.values.length c2, .int .i64 x.mark]] W fun e w' =>
      ∃ qa qc va vc, e = .returned (.agg #[.int .i64 x.kind, .int .i64 x.read, .int .i64 x.probe, .int .i64 x.server, .int .i64 x.version, .slice qa x.query.length qc, .slice va x.values.length vc, .int .i64 x.mark]) ∧
        OwnL w' w0.heap.size (.slice qa x.query.length qc) x.query ∧ OwnL w' w0.heap.size (.slice va x.values.length vc) x.values ∧ Below w0.heap.size w0 w' ∧ ∀ p : Addr, p.block < w0.heap.size → w'.cell? p = w0.cell? p :=
  fun W hW => by
    refine (chOwn_any x a _ c a2 _ c2 S W (hq.call hW) (hv.call hW) hs).mono ?_
    rintro e w' ⟨q, v, rfl, ho1, ho2, hb⟩
    obtain ⟨qa, qc, rfl, _⟩ := ho1.form
    obtain ⟨va, vc, rfl, _⟩ := ho2.form
    have hb' := hW.trans (hb.mono hW.size)
    exact ⟨qa, qc, va, vc, rfl, ho1.mono hW.size, ho2.mono hW.size, hb', fun p hp => hb'.cell hp⟩

def SendRel (l m : List Note) (B c6 : Nat) (w1 : World) (gk : Nat) (v : Value) (wr : World) : Prop :=
  ∃ (i : Nat) (ad : Option Addr) (c : Nat), gk + i = m.length ∧ v = .int .i64 i ∧ wr.cell? ⟨c6, 0, none⟩ = some (.slice ad (l.length + i) c) ∧ wr.frozen? ⟨c6, 0, none⟩ = false ∧
    OwnT wr B (fun b => B ≤ b ∧ b ≠ c6) (.slice ad (l.length + i) c) (l ++ m.take i) ∧ (Value.slice ad (l.length + i) c).ownBlock ≠ some c6 ∧ c6 < wr.heap.size ∧ Below B w1 wr

set_option maxHeartbeats 2000000 in
theorem chSend_yes (v u : Value) (l m : List Note) (S : Nat → Prop) (w : World) (h : Lst w S v l) (k : Lst w S u m) (hs : SmallAll l) (hm : SmallAll m) (hlen : l.length + m.length ≤ 256) :
    Calls Try.prog 12 #[.agg #[v], u] w fun e w' => ∃ v', e = .returned (.tuple #[.agg #[v'], .int .i64 0]) ∧ OwnT w' w.heap.size (fun b => w.heap.size ≤ b) v' (l ++ m) ∧ Below w.heap.size w w' := by
  obtain ⟨a, cap, rfl, hlc, hcm⟩ := h.form
  obtain ⟨a2, cap2, rfl, hlc2, hcm2⟩ := k.form
  obtain ⟨w0, hw0⟩ : ∃ w0 : World, w0 = (w.alloc (.cells #[.slice a l.length cap] 28)).alloc (.cells #[.slice none 0 0] 28) := ⟨_, rfl⟩
  have hb0 : Below w.heap.size w w0 := by rw [hw0]; exact ((Below.refl _ _).alloc (Nat.le_refl _) _).alloc (by simp) _
  have hs0 : w0.heap.size = w.heap.size + 2 := by rw [hw0]; simp
  have c00 : w0.cell? ⟨w.heap.size, 0, none⟩ = some (.slice a l.length cap) := by rw [hw0, World.cell?_alloc_lt _ _ _ (by simp)]; simp
  have c01 : w0.cell? ⟨w.heap.size + 1, 0, none⟩ = some (.slice none 0 0) := by rw [hw0]; simp
  have f01 : w0.frozen? ⟨w.heap.size + 1, 0, none⟩ = false := by rw [hw0]; simp
  obtain ⟨i0, hi, iz0, iz1, iz2⟩ := info_parts infoNote
  have HI := Lib.hid hi
  clear hi
  have hq : decide ((256 : Int) < (l.length : Int) + (m.length : Int)) = false := decide_eq_false (by omega)
  have hown := chown_any (.slice a l.length cap) l S w0 (h.call hb0) hs (by omega)
  have HOWN := Lib.hid hown
  have HK := Lib.hid k
  have HB0 := Lib.hid hb0
  have HS0 := Lib.hid hs0
  have HC00 := Lib.hid c00
  have HC01 := Lib.hid c01
  have HF01 := Lib.hid f01
  have hsz0 : w.heap.size + 2 ≤ w0.heap.size := by omega
  clear h k hown hb0 hs0 c00 c01 f01
  go_enter Try.func12, Try.ntmps12
  go_wp2_with fail
  rw [← hw0]
  have HW0 := Lib.hid hw0
  clear hw0
  refine HOWN.out.mono ?_
  rintro e w1 ⟨v', rfl, ho1, hb1⟩
  obtain ⟨ad1, c1, rfl, _⟩ := ho1.form
  have hc0 : w1.cell? ⟨w.heap.size, 0, none⟩ = some (.slice a l.length cap) := (hb1.cell (p := ⟨w.heap.size, 0, none⟩) (by show w.heap.size < _; omega)).trans HC00.out
  have hz1 := hb1.size
  have HO1 := Lib.hid ho1
  have HB1 := Lib.hid hb1
  clear ho1 hb1
  have hz1' : w.heap.size < w1.heap.size := by omega
  go_wp2_with fail
  have hsz1 := HO1.out.bound.below (((Below.refl w1.heap.size w1).alloc (Nat.le_refl _) (.cells #[.slice ad1 l.length c1] 28)))
  obtain ⟨w2, hw2⟩ : ∃ w2 : World, w2 = w1.alloc (.cells #[.slice ad1 l.length c1] 28) := ⟨_, rfl⟩
  have hc6 : w2.cell? ⟨w1.heap.size, 0, none⟩ = some (.slice ad1 l.length c1) := by rw [hw2]; simp
  have hf6 : w2.frozen? ⟨w1.heap.size, 0, none⟩ = false := by rw [hw2]; simp
  have hz2 : w2.heap.size = w1.heap.size + 1 := by rw [hw2]; simp
  have hb2 : Below w0.heap.size w0 w2 := by rw [hw2]; exact HB1.out.alloc hz1 _
  rw [← hw2] at hsz1 ⊢
  have HO2 := Lib.hid ((hsz1.mono (B' := w.heap.size + 2) (by omega)).weaken (T' := fun b => w.heap.size + 2 ≤ b ∧ b ≠ w1.heap.size) fun b hb => by omega)
  have HNE := Lib.hid (show (Value.slice ad1 l.length c1).ownBlock ≠ some w1.heap.size from fun e => by have := (HO1.out.lt e).1; omega)
  have HB2 := Lib.hid hb2
  have HC6 := Lib.hid hc6
  have HF6 := Lib.hid hf6
  have HW2 := Lib.hid hw2
  have hz2' : w1.heap.size < w2.heap.size := by omega
  clear hsz1 hb2 hc6 hf6 hw2 hz2 hc0
  go_loopg [21] m.length (fun gk v wr => SendRel l m (w.heap.size + 2) w1.heap.size w2 gk v wr)
  case atStart => exact ⟨0, ad1, c1, rfl, rfl, HC6.out, HF6.out, by simpa using HO2.out, HNE.out, hz2', Below.refl _ _⟩
  case round =>
    obtain ⟨i, ad, c, hg, rfl, hc6, hf6, ho, hne, hc6l, hb⟩ := hrel
    have hbw : Below w.heap.size w wr := HB0.out.trans (((HB2.out.mono hsz0).trans hb).mono (by omega))
    have hsr := hb.size
    have HBW := Lib.hid hbw
    have HBR := Lib.hid hb
    have HNE := Lib.hid hne
    have HO := Lib.hid ho
    by_cases hlt : i < m.length
    · have hlr : Lst wr S (.slice a2 m.length cap2) m := HK.out.call hbw
      obtain ⟨g0, off0, cs, rfl, hSg, hra, his⟩ := hlr.atN 8 rfl hlt
      have hsm : m[i].Small := hm _ (List.getElem_mem hlt)
      obtain ⟨x, hx⟩ : ∃ x, x = m[i] := ⟨_, rfl⟩
      rw [← hx] at his hsm
      obtain ⟨aq, cq, av, cv, rfl, hq', hv', hin, c0, c1, c2, c3, c4, c5, c6, c7⟩ := Note.at_ his hra
      obtain ⟨w9, hw9⟩ : ∃ w9 : World, w9 = wr.alloc (.cells #[.int .i64 x.kind, .int .i64 x.read, .int .i64 x.probe, .int .i64 x.server, .int .i64 x.version, .slice aq x.query.length cq, .slice av x.values.length cv, .int .i64 x.mark] 34) := ⟨_, rfl⟩
      have hb9 : Below wr.heap.size wr w9 := by rw [hw9]; exact (Below.refl _ _).alloc (Nat.le_refl _) _
      have hz9 : wr.heap.size < w9.heap.size := by rw [hw9]; simp
      have hown2 := chOwn_at (w0 := w9) (hq'.call hb9) (hv'.call hb9) hsm
      have d6 : w9.cell? ⟨w1.heap.size, 0, none⟩ = some (.slice ad (l.length + i) c) := (hb9.cell (p := ⟨w1.heap.size, 0, none⟩) hc6l).trans hc6
      have e0 : w9.cell? ⟨wr.heap.size, 0, none⟩ = some (.int .i64 x.kind) := by rw [hw9]; simp
      have e1 : w9.cell? ⟨wr.heap.size, 1, none⟩ = some (.int .i64 x.read) := by rw [hw9]; simp
      have e2 : w9.cell? ⟨wr.heap.size, 2, none⟩ = some (.int .i64 x.probe) := by rw [hw9]; simp
      have e3 : w9.cell? ⟨wr.heap.size, 3, none⟩ = some (.int .i64 x.server) := by rw [hw9]; simp
      have e4 : w9.cell? ⟨wr.heap.size, 4, none⟩ = some (.int .i64 x.version) := by rw [hw9]; simp
      have e5 : w9.cell? ⟨wr.heap.size, 5, none⟩ = some (.slice aq x.query.length cq) := by rw [hw9]; simp
      have e6 : w9.cell? ⟨wr.heap.size, 6, none⟩ = some (.slice av x.values.length cv) := by rw [hw9]; simp
      have e7 : w9.cell? ⟨wr.heap.size, 7, none⟩ = some (.int .i64 x.mark) := by rw [hw9]; simp
      have hs2 : ∀ W : World, (∀ b o, b = w1.heap.size ∨ b = wr.heap.size → W.cell? ⟨b, o, none⟩ = w9.cell? ⟨b, o, none⟩) → W.cell? ⟨w1.heap.size, 0, none⟩ = some (.slice ad (l.length + i) c) ∧ W.cell? ⟨wr.heap.size, 0, none⟩ = some (.int .i64 x.kind) ∧ W.cell? ⟨wr.heap.size, 1, none⟩ = some (.int .i64 x.read) ∧ W.cell? ⟨wr.heap.size, 2, none⟩ = some (.int .i64 x.probe) ∧ W.cell? ⟨wr.heap.size, 3, none⟩ = some (.int .i64 x.server) ∧ W.cell? ⟨wr.heap.size, 4, none⟩ = some (.int .i64 x.version) ∧ W.cell? ⟨wr.heap.size, 5, none⟩ = some (.slice aq x.query.length cq) ∧ W.cell? ⟨wr.heap.size, 6, none⟩ = some (.slice av x.values.length cv) ∧ W.cell? ⟨wr.heap.size, 7, none⟩ = some (.int .i64 x.mark) :=
        fun W hW => ⟨(hW _ _ (.inl rfl)).trans d6, (hW _ _ (.inr rfl)).trans e0, (hW _ _ (.inr rfl)).trans e1, (hW _ _ (.inr rfl)).trans e2, (hW _ _ (.inr rfl)).trans e3, (hW _ _ (.inr rfl)).trans e4, (hW _ _ (.inr rfl)).trans e5, (hW _ _ (.inr rfl)).trans e6, (hW _ _ (.inr rfl)).trans e7⟩
      have hbl : ∀ W : World, Below w9.heap.size w9 W → ∀ b o, b = w1.heap.size ∨ b = wr.heap.size → W.cell? ⟨b, o, none⟩ = w9.cell? ⟨b, o, none⟩ :=
        fun W hW b o hb => hW.cell (p := ⟨b, o, none⟩) (by show b < _; omega)
      have HBL := Lib.hid hbl
      have HS2 := Lib.hid hs2
      have HOWN2 := Lib.hid hown2
      have HO2 := Lib.hid (ho.below hb9)
      have HX := Lib.hid hx
      have HIN := Lib.hid hin
      have HB9 := Lib.hid hb9
      clear hs2 hbl hown2 ho hne hx hin hb9 hq' hv' hlr his hra d6 e0 e1 e2 e3 e4 e5 e6 e7 hbw hb hsm
      go_wp2_with fail
      rw [← hw9]
      have HW9 := Lib.hid hw9
      clear hw9
      refine wp_region_noPanic ?_
      refine wp_region_stage (fun w' => w'.cell? ⟨w1.heap.size, 0, none⟩ = some (.slice ad (l.length + i) c) ∧ w'.cell? ⟨wr.heap.size, 0, none⟩ = some (.int .i64 x.kind) ∧ w'.cell? ⟨wr.heap.size, 1, none⟩ = some (.int .i64 x.read) ∧ w'.cell? ⟨wr.heap.size, 2, none⟩ = some (.int .i64 x.probe) ∧ w'.cell? ⟨wr.heap.size, 3, none⟩ = some (.int .i64 x.server) ∧ w'.cell? ⟨wr.heap.size, 4, none⟩ = some (.int .i64 x.version) ∧ w'.cell? ⟨wr.heap.size, 5, none⟩ = some (.slice aq x.query.length cq) ∧ w'.cell? ⟨wr.heap.size, 6, none⟩ = some (.slice av x.values.length cv) ∧ w'.cell? ⟨wr.heap.size, 7, none⟩ = some (.int .i64 x.mark)) 7 (by kernel_rfl) (HS2.out _ (HBL.out _ (Below.refl _ _).drew)) (fun hS => ?_)
      refine wpStage_take (i := 0) (v := ?_) (by simp only [List.getElem?_toArray, List.getElem?_cons_succ, List.getElem?_cons_zero]; rfl) (by rfl) (by kernel_rfl) (fun _ _ _ h => h) ?_ hS ?_ -- fieldAddr
      rotate_left 1
      · intro w hSw; go_simp; try with_reducible rfl
      try simp only [Act.put, List.setIfInBounds_toArray, List.set_cons_zero, List.set_cons_succ]
      refine wpStage_take (i := 1) (v := ?_) (by simp only [List.getElem?_toArray, List.getElem?_cons_succ, List.getElem?_cons_zero]; rfl) (by rfl) (by kernel_rfl) (fun _ _ _ h => h) ?_ hS ?_ -- load
      rotate_left 1
      · intro w hSw; go_simp; try with_reducible rfl
      try simp only [Act.put, List.setIfInBounds_toArray, List.set_cons_zero, List.set_cons_succ]
      refine wpStage_take (i := 2) (v := ?_) (by simp only [List.getElem?_toArray, List.getElem?_cons_succ, List.getElem?_cons_zero]; rfl) (by rfl) (by kernel_rfl) (fun _ _ _ h => h) ?_ hS ?_ -- load
      rotate_left 1
      · intro w hSw; go_simp; try with_reducible rfl
      try simp only [Act.put, List.setIfInBounds_toArray, List.set_cons_zero, List.set_cons_succ]
      refine wpStage_ready (rs := [3]) (by kernel_rfl) (by simp) ?_
      refine StageOne.cons (by simp only [List.getElem?_toArray, List.getElem?_cons_succ, List.getElem?_cons_zero]; rfl) (by rfl) (fun K hK => ?_) StageOne.nil -- call func 28
      go_simp
      refine (HOWN2.out _ (Below.refl _ _).drew).mono ?_
      rintro e w3 ⟨qa, qc, va, vc, rfl, ho3, ho3', hb3, hcell3⟩
      refine hK.out _ _ (HS2.out _ (HBL.out _ hb3)) (fun hS => ?_)
      clear hK K
      try simp only [Act.put, List.setIfInBounds_toArray, List.set_cons_zero, List.set_cons_succ]
      refine wpStage_ready (rs := [4]) (by kernel_rfl) (by simp) ?_
      refine StageOne.cons (by simp only [List.getElem?_toArray, List.getElem?_cons_succ, List.getElem?_cons_zero]; rfl) (by rfl) (fun K hK => ?_) StageOne.nil -- buildSlice 
      go_simp
      refine hK.out _ _ (HS2.out _ (HBL.out _ (hb3.alloc hb3.size _))) (fun hS => ?_)
      clear hK K
      try simp only [Act.put, List.setIfInBounds_toArray, List.set_cons_zero, List.set_cons_succ]
      refine wpStage_ready (rs := [5]) (by kernel_rfl) (by simp) ?_
      refine StageOne.cons (by simp only [List.getElem?_toArray, List.getElem?_cons_succ, List.getElem?_cons_zero]; rfl) (by rfl) (fun K hK => ?_) StageOne.nil -- call builtin append
      have hin := HI.out
      have hb34 : Below w3.heap.size w3 (w3.alloc (.cells #[.int .i64 x.kind, .int .i64 x.read, .int .i64 x.probe, .int .i64 x.server, .int .i64 x.version, .slice qa x.query.length qc, .slice va x.values.length vc, .int .i64 x.mark] 34)) := (Below.refl _ _).alloc (Nat.le_refl _) _
      have hb4 := hb3.trans (hb34.mono hb3.size)
      have hs9 := HB9.out.size
      have hs3 := hb3.size
      have hx3 : Rep.is (w3.alloc (.cells #[.int .i64 x.kind, .int .i64 x.read, .int .i64 x.probe, .int .i64 x.server, .int .i64 x.version, .slice qa x.query.length qc, .slice va x.values.length vc, .int .i64 x.mark] 34)) (Off (w3.alloc (.cells #[.int .i64 x.kind, .int .i64 x.read, .int .i64 x.probe, .int .i64 x.server, .int .i64 x.version, .slice qa x.query.length qc, .slice va x.values.length vc, .int .i64 x.mark] 34)) (.slice ad (l.length + i) c) (fun b => w.heap.size + 2 ≤ b ∧ b ≠ w1.heap.size)) (x.cells (.slice qa x.query.length qc) (.slice va x.values.length vc)) x := by
        refine ⟨_, _, rfl, (ho3.below hb34).lst_int.more fun b hb' => ⟨⟨hb'.2, fun e => ?_⟩, by have := hb'.1; omega⟩, (ho3'.below hb34).lst_int.more fun b hb' => ⟨⟨hb'.2, fun e => ?_⟩, by have := hb'.1; omega⟩, HIN.out⟩
        · have := (HO.out.lt e).1; have := hb'.1; omega
        · have := (HO.out.lt e).1; have := hb'.1; omega
      have hln : (l ++ m.take i).length = l.length + i := by rw [List.length_append, List.length_take]; omega
      have HX3 := Lib.hid hx3
      have HLN := Lib.hid hln
      clear hx3 hln
      refine wp_append_own (l := l ++ m.take i) (m := [x]) (.tmp 26) (.tmp 29) 26 26 rfl 34 i0 _ 96 Try.underlying26 hin iz0 iz1 iz2 rfl (by rfl) (HO2.out.below hb4) (by simp; omega) _ (by rfl) _ (Src.single Try.underlying26 (cs := x.cells (.slice qa x.query.length qc) (.slice va x.values.length vc)) rfl (range_new _ _ _) (Rep.one HX3.out)) (Chunks.single HX3.out) (by rw [HLN.out]; simp [maxLen]; omega) (by rw [HLN.out]; simp; omega) ?_
      intro ad4 c4 w4 ho4 hg4 hat4
      rw [HLN.out] at ho4 hat4 ⊢
      simp only [List.length_singleton] at ho4 hat4 ⊢
      have hfar : ∀ b o, b = w1.heap.size ∨ b = wr.heap.size → w4.cell? ⟨b, o, none⟩ = w9.cell? ⟨b, o, none⟩ := fun b o hb => by
        refine (World.cell?_of_block (a := ⟨b, o, none⟩) (hg4.block b (by have := hb4.size; omega) (fun e => ?_))).trans (HBL.out _ hb4 b o hb)
        rcases hb with rfl | rfl
        · exact HNE.out e.symm
        · exact absurd (HO.out.lt e.symm).1 (Nat.lt_irrefl _)
      have hs4 := HS2.out _ hfar
      have hc64 := hs4.1
      have hf64 : w4.frozen? ⟨w1.heap.size, 0, none⟩ = false := by
        rw [World.frozen?_of_block (a := ⟨w1.heap.size, 0, none⟩) (hg4.block w1.heap.size (by have := hb4.size; omega) (fun e => HNE.out e.symm)), hb4.frozen (p := ⟨w1.heap.size, 0, none⟩) (by show w1.heap.size < _; have := hb4.size; omega), HB9.out.frozen (p := ⟨w1.heap.size, 0, none⟩) hc6l]
        exact hf6
      have HG4 := Lib.hid hg4
      have HO4 := Lib.hid ho4
      have HAT4 := Lib.hid hat4
      have HB4 := Lib.hid hb4
      refine hK.out _ _ hs4 (fun hS => ?_)
      clear hg4 ho4 hat4 hb4 hfar hs4
      clear hK K
      try simp only [Act.put, List.setIfInBounds_toArray, List.set_cons_zero, List.set_cons_succ]
      refine wpStage_take (i := 6) (v := ?_) (by simp only [List.getElem?_toArray, List.getElem?_cons_succ, List.getElem?_cons_zero]; rfl) (by rfl) (by kernel_rfl) (fun _ _ _ h => h) ?_ hS ?_ -- fieldAddr
      rotate_left 1
      · intro w hSw; go_simp; try with_reducible rfl
      try simp only [Act.put, List.setIfInBounds_toArray, List.set_cons_zero, List.set_cons_succ]
      refine wpStage_ready (rs := [7]) (by kernel_rfl) (by simp) ?_
      refine StageOne.late (by simp only [List.getElem?_toArray, List.getElem?_cons_succ, List.getElem?_cons_zero]; rfl) (by rfl) (by kernel_rfl) (fun K hK => ?_) StageOne.nil -- store 
      go_simp
      refine hK.out _ _ ?_
      clear hK K
      try simp only [Act.put, List.setIfInBounds_toArray, List.set_cons_zero, List.set_cons_succ]
      refine wpStage_done (by kernel_rfl) (NoPanic.normal ?_) _
      go_wp2_with fail
      go_roundg (gk - 1)
      case measure => omega
      case rel =>
        have hw4 := HG4.out.size
        have hl4 := HB4.out.size
        have hc4l : w1.heap.size < w4.heap.size := by omega
        have ho4 := HO4.out
        rw [show l ++ m.take i ++ [x] = l ++ m.take (i + 1) by rw [List.take_succ_eq_append_getElem hlt, HX.out, List.append_assoc]] at ho4
        have hne4 : (Value.slice ad4 (l.length + i + 1) c4).ownBlock ≠ some w1.heap.size := fun e => by
          rcases HAT4.out with h | h
          · exact HNE.out (h.symm.trans e)
          · rw [h] at e; injection e with e; simp at e; omega
        have hbb : Below (w.heap.size + 2) w2 w4 := by
          refine (HBR.out.trans (HB9.out.mono (by omega))).trans ?_
          refine Below.grown (HB4.out.mono (by omega)) HG4.out (by omega) fun k hk => (HO.out.lt hk).2
        refine ⟨i + 1, ad4, c4, by omega, by go_num, World.cell?_setCell_same' _ _ _ (by rw [hS.1]; rfl), by rw [World.frozen?_setCell]; exact hf64, ho4.far hne4 (fun h => h.2 rfl) _, hne4, by simpa [World.setCell] using hc4l, hbb.setCell (by show w.heap.size + 2 ≤ w1.heap.size; omega) _⟩
    · obtain rfl : i = m.length := by omega
      have ho' := ho
      rw [List.take_length] at ho'
      have hrc : wr.cell? ⟨w.heap.size + 1, 0, none⟩ = some (.slice none 0 0) := by
        rw [hb.cell (p := ⟨w.heap.size + 1, 0, none⟩) (by show w.heap.size + 1 < _; omega), HB2.out.cell (p := ⟨w.heap.size + 1, 0, none⟩) (by show w.heap.size + 1 < _; omega)]; exact HC01.out
      have hrf : wr.frozen? ⟨w.heap.size + 1, 0, none⟩ = false := by
        rw [hb.frozen (p := ⟨w.heap.size + 1, 0, none⟩) (by show w.heap.size + 1 < _; omega), HB2.out.frozen (p := ⟨w.heap.size + 1, 0, none⟩) (by show w.heap.size + 1 < _; omega)]; exact HF01.out
      have HO' := Lib.hid ho'
      have hzr : w.heap.size + 1 < wr.heap.size := by omega
      clear ho ho' hb hbw hne
      go_wp2_with fail
      refine bodyPost_ret (v := .tuple #[.agg #[.slice ad (l.length + m.length) c], .int .i64 0]) (by simp [results, Try.results12, go_sem, *]) rfl ?_
      refine ⟨_, rfl, ?_, HBW.out.setCell (by simp) _⟩
      refine OwnT.weaken ((OwnT.far_lt (B := w.heap.size + 2) HO'.out (by show w.heap.size + 1 < _; omega) (fun h => ?_) _).mono (by omega)) fun b hb => by omega
      have := h.1
      simp at this
end Go.Proofs.Ytejandeehmnibaa
