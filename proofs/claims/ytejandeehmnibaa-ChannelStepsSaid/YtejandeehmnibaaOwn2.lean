/- channel.own. -/
import Derived.Test.YtejandeehmnibaaOwn
namespace Go.Proofs.Ytejandeehmnibaa
open Go Go.RowKit Go.Deep
set_option linter.unusedVariables false
set_option linter.unusedSimpArgs false

def Note.zero : Note := ⟨0, 0, 0, 0, 0, [], [], 0⟩
def zeroCells : List Value := [.int .i64 0, .int .i64 0, .int .i64 0, .int .i64 0, .int .i64 0, .slice none 0 0, .slice none 0 0, .int .i64 0]
theorem Note.zero_is (w : World) (S : Nat → Prop) : Rep.is w S zeroCells Note.zero :=
  ⟨.slice none 0 0, .slice none 0 0, rfl, Lst.nil _ _ _ (Nat.zero_le _), Lst.nil _ _ _ (Nat.zero_le _), by constructor <;> decide⟩

/-- Notes with lists that are not too long. -/
def SmallAll (l : List Note) : Prop := ∀ x ∈ l, x.Small
def OwnRel (l : List Note) (g : Nat) (w1 : World) (gk : Nat) (v : Value) (wr : World) : Prop :=
  ∃ i : Nat, gk + i = l.length ∧ v = .int .i64 i ∧ OwnT wr g (fun b => g ≤ b) (.slice (some ⟨g, 0, none⟩) l.length l.length) (l.take i ++ List.replicate (l.length - i) Note.zero) ∧ Below g w1 wr
theorem own_step {l : List Note} {i : Nat} (h : i < l.length) : (l.take i ++ List.replicate (l.length - i) Note.zero).set i l[i] = l.take (i + 1) ++ List.replicate (l.length - (i + 1)) Note.zero := by
  have hl : (l.take i).length = i := by rw [List.length_take]; omega
  rw [List.set_append_right _ _ (by omega), hl, Nat.sub_self, show l.length - i = (l.length - (i + 1)) + 1 by omega, List.replicate_succ, List.set_cons_zero, List.take_succ_eq_append_getElem h, List.append_assoc]
  rfl

set_option maxHeartbeats 2000000 in
theorem chown_any (v : Value) (l : List Note) (S : Nat → Prop) (w : World) (h : Lst w S v l) (hs : SmallAll l) (hl : l.length ≤ 1000000) :
    Calls Try.prog 25 #[.agg #[v]] w fun e w' => ∃ v', e = .returned (.agg #[v']) ∧ OwnT w' w.heap.size (fun b => w.heap.size ≤ b) v' l ∧ Below w.heap.size w w' := by
  obtain ⟨a, cap, rfl, hlc, hcm⟩ := h.form
  obtain ⟨i0, hi, hz0, hz1, hz2⟩ := info_parts infoNote
  have hmk := run_make_cells (P := Try.prog) 26 34 i0 _ zeroCells.toArray 8 96 Try.underlying26 hi hz0 rfl hz1 hz2 l.length (by omega) (by omega)
  clear hi hz0 hz1 hz2
  obtain ⟨w1, hw1⟩ : ∃ w1 : World, w1 = ((w.alloc (.cells #[.slice a l.length cap] 28)).alloc (.cells #[.slice none 0 0] 28)).alloc (.cells (madeCells zeroCells.toArray (l.length * 8)) 34) := ⟨_, rfl⟩
  have hb1 : Below w.heap.size w w1 := by rw [hw1]; exact (((Below.refl _ _).alloc (Nat.le_refl _) _).alloc (by simp) _).alloc (by simp; omega) _
  have hc1 : w1.cell? ⟨w.heap.size + 1, 0, none⟩ = some (.slice none 0 0) := by rw [hw1, World.cell?_alloc_lt _ _ _ (by simp)]; simp
  have hf1 : w1.frozen? ⟨w.heap.size + 1, 0, none⟩ = false := by rw [hw1, World.frozen?_alloc_old _ _ _ (by simp)]; simp
  have ho1 : OwnT w1 (w.heap.size + 1 + 1) (fun b => w.heap.size + 1 + 1 ≤ b) (.slice (some ⟨w.heap.size + 1 + 1, 0, none⟩) l.length l.length) (List.replicate l.length Note.zero) := by
    have := OwnT.made (T := fun b => w.heap.size + 1 + 1 ≤ b) (α := Note) (w := (w.alloc (.cells #[.slice a l.length cap] 28)).alloc (.cells #[.slice none 0 0] 28)) (t := 34) (zs := zeroCells) l.length (by unfold maxLen; omega) (Note.zero_is _ _) (by decide)
    simp only [World.size_alloc] at this
    rw [hw1]
    exact this
  have hsz1 : w.heap.size + 1 + 1 < w1.heap.size := by rw [hw1]; simp
  have H := Lib.hid h
  have HB1 := Lib.hid hb1
  have HO1 := Lib.hid ho1
  have HC1 := Lib.hid hc1
  have HF1 := Lib.hid hf1
  clear h hb1 ho1 hc1 hf1
  go_enter Try.func25, Try.ntmps25
  go_wp2_with fail
  rw [show ((w.alloc (.cells #[.slice a l.length cap] 28)).alloc (.cells #[.slice none 0 0] 28)).alloc (.cells (madeCells zeroCells.toArray (l.length * 8)) 34) = w1 from hw1.symm]
  have HW1 := Lib.hid hw1
  clear hw1 hmk
  go_loopg [13] l.length (fun gk v wr => OwnRel l (w.heap.size + 1 + 1) w1 gk v wr)
  case atStart => exact ⟨0, rfl, rfl, by simpa using HO1.out, Below.refl _ _⟩
  case round =>
    obtain ⟨i, hg, rfl, ho, hb⟩ := hrel
    have hbw : Below w.heap.size w wr := HB1.out.trans (hb.mono (by omega))
    have hsr := hb.size
    have HBW := Lib.hid hbw
    have HBR := Lib.hid hb
    by_cases hlt : i < l.length
    · have hlr : Lst wr S (.slice a l.length cap) l := H.out.call hbw
      obtain ⟨g0, off0, cs, rfl, hSg, hra, his⟩ := hlr.atN 8 rfl hlt
      have hsm : l[i].Small := hs _ (List.getElem_mem hlt)
      obtain ⟨x, hx⟩ : ∃ x, x = l[i] := ⟨_, rfl⟩
      rw [← hx] at his hsm
      obtain ⟨aq, cq, av, cv, rfl, hq, hv, hin, c0, c1, c2, c3, c4, c5, c6, c7⟩ := Note.at_ his hra
      obtain ⟨w4, hw4⟩ : ∃ w4 : World, w4 = wr.alloc (.cells #[.int .i64 x.kind, .int .i64 x.read, .int .i64 x.probe, .int .i64 x.server, .int .i64 x.version, .slice aq x.query.length cq, .slice av x.values.length cv, .int .i64 x.mark] 34) := ⟨_, rfl⟩
      have hb4 : Below wr.heap.size wr w4 := by rw [hw4]; exact (Below.refl _ _).alloc (Nat.le_refl _) _
      have hown := chOwn_any x aq _ cq av _ cv S w4 (hq.call hb4) (hv.call hb4) hsm
      have HX := Lib.hid hx
      have HO := Lib.hid ho
      have HN := Lib.hid hown
      have HIN := Lib.hid hin
      have HB4 := Lib.hid hb4
      clear hx ho hown hq hv hin hlr his hra hbw hb hsm hb4
      go_wp2_with fail
      rw [← hw4]
      have HW4 := Lib.hid hw4
      clear hw4
      refine HN.out.mono ?_
      rintro e w5 ⟨q, v, rfl, ho1, ho2, hb5⟩
      have hb45 := HB4.out.trans (hb5.mono HB4.out.size)
      have hs45 := hb45.size
      have hs4 := HB4.out.size
      have ho5 := HO.out.below hb45
      have hx5 : Rep.is w5 (Off w5 (.slice (some ⟨w.heap.size + 1 + 1, 0, none⟩) l.length l.length) (fun b => w.heap.size + 1 + 1 ≤ b)) (x.cells q v) x := by
        refine ⟨q, v, rfl, ho1.lst_int.more fun b hb' => ⟨⟨hb'.2, ?_⟩, by have := hb'.1; omega⟩, ho2.lst_int.more fun b hb' => ⟨⟨hb'.2, ?_⟩, by have := hb'.1; omega⟩, HIN.out⟩ <;> (intro e; have e' : w.heap.size + 1 + 1 = b := (by injection e); have := hb'.1; omega)
      obtain ⟨g, off, hgo, hgB, hgl, hth, hput⟩ := ho5.putN 8 rfl (i := i) (by simp; omega) hx5
      obtain ⟨rfl, rfl⟩ : g = w.heap.size + 1 + 1 ∧ off = 0 := by injection hgo with hgo; injection hgo with h1 h2; exact ⟨h1.symm, h2.symm⟩
      have h1c := Rep.one hx5
      rw [Nat.zero_add] at hth hput
      have HPUT := Lib.hid hput
      obtain ⟨v0, v1, v2, v3, v4, v5, v6, v7, d0, d1, d2, d3, d4, d5, d6, d7, f0, f1, f2, f3, f4, f5, f6, f7⟩ := there_8 hth
      obtain ⟨qa, qc, rfl, _⟩ := ho1.form
      obtain ⟨va, vc, rfl, _⟩ := ho2.form
      rw [show (x.cells (.slice qa x.query.length qc) (.slice va x.values.length vc)) = [.int .i64 x.kind, .int .i64 x.read, .int .i64 x.probe, .int .i64 x.server, .int .i64 x.version, .slice qa x.query.length qc, .slice va x.values.length vc, .int .i64 x.mark] from rfl, setCells_8] at hput
      have HPUT := Lib.hid hput
      clear hput hth ho5 hx5 ho1 ho2 hgo h1c
      go_wp2_with fail
      go_roundg (gk - 1)
      case measure => omega
      case rel =>
        have hpo := HPUT.out
        rw [HX.out, own_step hlt, ← HX.out] at hpo
        refine ⟨i + 1, by omega, by go_num, hpo, ?_⟩
        iterate 8 refine Below.setCell ?_ (by simp) _
        exact HBR.out.trans (hb45.mono (by omega))
    · obtain rfl : i = l.length := by omega
      have ho' : OwnT wr (w.heap.size + 1 + 1) (fun b => w.heap.size + 1 + 1 ≤ b) (.slice (some ⟨w.heap.size + 1 + 1, 0, none⟩) l.length l.length) l := by simpa using ho
      have HO := Lib.hid ho'
      have hcr : wr.cell? ⟨w.heap.size + 1, 0, none⟩ = some (.slice none 0 0) := (hb.cell (p := ⟨w.heap.size + 1, 0, none⟩) (Nat.lt_succ_self _)).trans HC1.out
      have hfr : wr.frozen? ⟨w.heap.size + 1, 0, none⟩ = false := (hb.frozen (p := ⟨w.heap.size + 1, 0, none⟩) (Nat.lt_succ_self _)).trans HF1.out
      clear ho ho' hb hbw
      go_wp2_with fail
      refine bodyPost_ret (v := .agg #[.slice (some ⟨w.heap.size + 1 + 1, 0, none⟩) l.length l.length]) (by simp [results, Try.results25, go_sem, *]) rfl ?_
      refine ⟨_, rfl, ?_, HBW.out.setCell (by simp) _⟩
      exact ((HO.out.far_lt (by simp) (by simp) _).mono (by omega)).weaken fun b hb => by omega
end Go.Proofs.Ytejandeehmnibaa
