/- ChannelSteps: at every input the law returns true, and each argument reads afterwards as it read before. -/
import Derived.Test.YtejandeehmnibaaCnF
import Derived.Test.YtejandeehmnibaaTake
import Derived.Test.YtejandeehmnibaaSimBr
import Derived.Test.YtejandeehmnibaaSimOp
import Derived.Test.YtejandeehmnibaaRows
import Derived.ProofKit
import Derived.OpenShut
import Derived.ShutString
import Derived.ChangeOld
import Derived.SizedLaws
import Derived.Below
section
namespace Go.Proofs.Ytejandeehmnibaa.Sim
open Go Go.RowKit Go.Deep
set_option maxRecDepth 100000
set_option maxHeartbeats 4000000
set_option linter.unusedVariables false
set_option linter.unusedSimpArgs false
attribute [local irreducible] Go Mean
/-- Data are a list, where the elements are. -/
theorem chunks_of {α : Type} [Rep α] (f : α → List D) (Q : α → Prop) {w : World} {S : Nat → Prop} (hf : ∀ cs x, Q x → Cells w S (f x) cs → Rep.is w S cs x) : ∀ (l : List α) (xs : List Value), (∀ x ∈ l, Q x) → Rows w S (Rep.sz α) (l.map f) xs → Chunks w S xs l
  | [], xs, _, h => by simp only [Rows, List.map_nil] at h; exact h
  | a :: l, xs, hq, h => by
    simp only [Rows, List.map_cons] at h
    obtain ⟨x, r, rfl, h1, h2, h3⟩ := h
    exact ⟨x, r, rfl, hf _ _ (hq a (by simp)) h2, chunks_of f Q hf l r (fun y hy => hq y (by simp [hy])) h3⟩
theorem sl_lst {α : Type} [Rep α] (f : α → List D) (Q : α → Prop) {w : World} {S : Nat → Prop} (hf : ∀ cs x, Q x → Cells w S (f x) cs → Rep.is w S cs x) {v : Value} {l : List α} (hq : ∀ x ∈ l, Q x) (h : (D.sl (Rep.sz α) (l.map f)).is w S v) : Lst w S v l := by
  simp only [D.is] at h
  obtain ⟨a, cap, xs, rfl, h1, h2, h3, h4⟩ := h
  rw [List.length_map] at h1 h4 ⊢
  exact ⟨xs, a, cap, rfl, h1, h2, chunks_of f Q hf l xs hq h3, h4⟩
theorem dints_lst {w : World} {S : Nat → Prop} {v : Value} {l : List Int} (hq : ∀ x ∈ l, I64 x) (h : (dInts l).is w S v) : Lst w S v l :=
  sl_lst (α := Int) eI I64 (fun cs x hx hc => by
    simp only [eI, Cells, D.is] at hc
    obtain ⟨u, r, rfl, ⟨rfl, -⟩, rfl⟩ := hc
    exact ⟨rfl, hx⟩) hq h
def nt (n : PNote) : Note := ⟨n.kind, n.read, n.probe, n.server, n.version, n.query, n.values, n.mark⟩
def un (n : Note) : PNote := ⟨n.kind, n.read, n.probe, n.server, n.version, n.query, n.values, n.mark⟩
structure inN (n : PNote) : Prop where
  small : (nt n).Small
  ok : (nt n).In
  q : ∀ x ∈ n.query, I64 x
  v : ∀ x ∈ n.values, I64 x
theorem dnotes_lst {w : World} {S : Nat → Prop} {v : Value} {l : List PNote} (hq : ∀ x ∈ l, inN x) (h : (dNotes l).is w S v) : Lst w S v (l.map nt) := by
  have : (D.sl (Rep.sz Note) ((l.map nt).map fun n => eNote (un n))).is w S v := by rw [List.map_map]; exact h
  refine sl_lst (α := Note) (fun n => eNote (un n)) (fun n => inN (un n)) ?_ (fun x hx => ?_) this
  · intro cs x hx hc
    simp only [eNote, Cells] at hc
    obtain ⟨u1, r1, rfl, h1, u2, r2, rfl, h2, u3, r3, rfl, h3, u4, r4, rfl, h4, u5, r5, rfl, h5, u6, r6, rfl, h6, u7, r7, rfl, h7, u8, r8, rfl, h8, rfl⟩ := hc
    simp only [D.is] at h1 h2 h3 h4 h5 h8
    obtain ⟨rfl, -⟩ := h1; obtain ⟨rfl, -⟩ := h2; obtain ⟨rfl, -⟩ := h3; obtain ⟨rfl, -⟩ := h4; obtain ⟨rfl, -⟩ := h5; obtain ⟨rfl, -⟩ := h8
    exact ⟨u6, u7, rfl, dints_lst hx.q h6, dints_lst hx.v h7, hx.ok⟩
  · obtain ⟨y, hy, rfl⟩ := List.mem_map.1 hx
    exact hq y hy
theorem lst_dints {w : World} {S : Nat → Prop} {v : Value} {l : List Int} (h : Lst w S v l) : (dInts l).is w S v := lst_sl (α := Int) (fun x => [.at (.int .i64 x)]) int_cells h
theorem note_cells' : ∀ (w : World) (S : Nat → Prop) (cs : List Value) (x : Note), Rep.is w S cs x → Cells w S (eNote (un x)) cs := by
  rintro w S cs x ⟨q, v, rfl, hq, hv, _⟩
  simp only [eNote, Cells, Note.cells, un]
  refine ⟨_, _, rfl, ⟨rfl, rfl⟩, _, _, rfl, ⟨rfl, rfl⟩, _, _, rfl, ⟨rfl, rfl⟩, _, _, rfl, ⟨rfl, rfl⟩, _, _, rfl, ⟨rfl, rfl⟩, _, _, rfl, lst_dints hq, _, _, rfl, lst_dints hv, _, _, rfl, ⟨rfl, rfl⟩, rfl⟩
theorem own_lst {α : Type} [Rep α] {w : World} {B : Nat} {v : Value} {l : List α} (h : OwnT w B (fun b => B ≤ b) v l) : Lst w (fun b => B ≤ b ∧ b < w.heap.size) v l := by
  obtain ⟨xs, ho, hx⟩ := h
  have hx' := hx.keep (w' := w) (S' := fun b => B ≤ b ∧ b < w.heap.size) fun b hb hl => ⟨⟨hb.2, hl⟩, rfl⟩
  rcases ho.2 with ⟨rfl, h0⟩ | ⟨g, off, cap, rfl, hB, hlt, hn, hc, _, hr⟩
  · exact ⟨xs, none, 0, by rw [h0], by omega, Nat.zero_le _, hx', fun h => by omega⟩
  · exact ⟨xs, _, cap, rfl, hn, hc, hx', fun _ => ⟨g, off, rfl, ⟨⟨hB, hlt⟩, hlt⟩, hr⟩⟩
theorem nt_un (x : PNote) : un (nt x) = x := rfl
theorem ctake_yes (c : List PNote) (k : Nat) (hk : k < c.length) (hc : c.length ≤ 1000000) (hi : ∀ x ∈ c, inN x) : Does Try.prog 15 [vChan c, I (k : Int)] [] (.tu [vChan (c.take k ++ c.drop (k + 1)), vNote (c.getD k noNote), I 0]) [] [] := by
  intro w hd S X us hm hv
  simp only [VRs, VR, I, D.is] at hv
  obtain ⟨u, r, rfl, ⟨vs, rfl, ⟨x, y, rfl, hx, rfl⟩, -⟩, u2, r2, rfl, ⟨rfl, -⟩, rfl⟩ := hv
  have hl := dnotes_lst hi hx
  refine (chTake_yes x (c.map nt) k S w hl (by rw [List.length_map]; exact hk) (fun z hz => by obtain ⟨n, hn, rfl⟩ := List.mem_map.1 hz; exact (hi n hn).small) (by rw [List.length_map]; exact hc)).mono ?_
  rintro e w' ⟨v, nv, rfl, ho, hnv, hb⟩
  have hS : ∀ b, (w.heap.size ≤ b ∧ b < w'.heap.size) → (S b ∨ (w.heap.size ≤ b ∧ b < w'.heap.size)) := fun b h => .inr h
  have hlv := (own_lst ho).more hS
  have hnv' := hnv.keep (w' := w') (T' := fun b => S b ∨ (w.heap.size ≤ b ∧ b < w'.heap.size)) fun b h1 h2 => ⟨.inr ⟨h1, h2⟩, rfl⟩
  obtain ⟨aq, cq, av, cv, rfl, hq1, hq2⟩ := hnv'
  have hlv' := lst_sl (fun n => eNote (un n)) note_cells' hlv
  have hmap : ((c.map nt).take k ++ (c.map nt).drop (k + 1)).map (fun n => eNote (un n)) = (c.take k ++ c.drop (k + 1)).map eNote := by
    rw [← List.map_take, ← List.map_drop, ← List.map_append, List.map_map]; rfl
  rw [hmap] at hlv'
  have hget : (c.map nt)[k]'(by rw [List.length_map]; exact hk) = nt (c.getD k noNote) := by
    rw [List.getElem_map, List.getD_eq_getElem?_getD, List.getElem?_eq_getElem hk]; rfl
  rw [hget] at hq1 hq2 ⊢
  have hd1 := lst_dints hq1
  have hd2 := lst_dints hq2
  refine ⟨_, hd, fun b => S b ∨ (w.heap.size ≤ b ∧ b < w'.heap.size), rfl, ⟨hb.os, hb.tape, hb.output, hb.size, fun k hk _ => hb.block k hk⟩, ⟨fun i o h => by simp [ups, fresh] at h, fun i j oi oj b _ h => by simp [ups, fresh] at h, fun b hb' => hb'.elim (fun h => Nat.lt_of_lt_of_le (hm.lt b h) hb.size) (fun h => h.2), hb.size, hm.sX⟩, ?_, fun b h => h.elim .inl fun h => .inr (.inl h.1), Le.refl _ _⟩
  have hat : ∀ z : Int, (D.at (.int .i64 z)).is w' (fun b => S b ∨ (w.heap.size ≤ b ∧ b < w'.heap.size)) (.int .i64 z) := fun z => by simp [D.is, Value.oneCell']
  simp only [VR, VRs, I]
  refine ⟨[_, _, _], rfl, _, _, rfl, ⟨[_], rfl, ⟨_, _, rfl, hlv', rfl⟩, fun z hz => by obtain rfl : z = v := (by simpa using hz); exact D.one hlv'⟩, _, _, rfl, ⟨[_, _, _, _, _, _, _, _], rfl, ⟨_, _, rfl, hat _, _, _, rfl, hat _, _, _, rfl, hat _, _, _, rfl, hat _, _, _, rfl, hat _, _, _, rfl, hd1, _, _, rfl, hd2, _, _, rfl, hat _, rfl⟩, by simp [Value.oneCell']⟩, _, _, rfl, hat _, rfl⟩
theorem ctake (c : List PNote) (n : Int) (h : okNs c) (hc : c.length ≤ 1000000) (hi : ∀ x ∈ c, inN x) : Does Try.prog 15 [vChan c, I n] [] (.tu [vChan (takeF c n), vNote (lookF c n).1, I (lookF c n).2]) [] [] := by
  by_cases hn : n < 0 ∨ n ≥ c.length
  · have hv : lookF c n = (noNote, 6) := by rw [lookF, if_pos hn]
    have ht : takeF c n = c := by rw [takeF, if_pos hn]
    refine go_channel_Take rfl BxOK.nil fun cx hm0 => go_in 5000 ?_
    unfold ac_channel_Take rs_channel_Take
    have e1 := own c h
    have e2 := look c n h
    rw [hv] at e2 ⊢
    rw [ht]
    repeat' (first | simp (maxSteps := 9999999) only [↓GE, PL, PP, EE, QQ, seval] | (simp (disch := omega) only [IntWalk.i64_in]) | (refine go_brD (fun h => ?_) (fun h => ?_)) | (refine go_gsD (by ((try simp only [EE, QQ, seval]) <;> rfl)) (fun h => ?_) (fun h => ?_)) | (refine go_br (fun h => ?_) (fun h => ?_)) | (refine go_gs (by ((try simp only [EE, QQ, seval]) <;> rfl)) (fun h => ?_) (fun h => ?_)) | (apply go_call 5000 (e1) rfl rfl; (· ((try simp only [CC, LL, NM, EE, QQ, seval]) <;> (first | rfl | ((repeat constructor); done)))); (· exact CallForm.news rfl rfl); (· ((try simp only [CC, LL, NM, EE, QQ, seval]) <;> (first | rfl | ((repeat constructor); done)))); (· ((try simp only [CC, LL, NM, EE, QQ, seval]) <;> (first | rfl | ((repeat constructor); done))))) | (apply go_call 5000 (e2) rfl rfl; (· ((try simp only [CC, LL, NM, EE, QQ, seval]) <;> (first | rfl | ((repeat constructor); done)))); (· exact CallForm.plain rfl); (· ((try simp only [CC, LL, NM, EE, QQ, seval]) <;> (first | rfl | ((repeat constructor); done)))); (· ((try simp only [CC, LL, NM, EE, QQ, seval]) <;> (first | rfl | ((repeat constructor); done))))) | (with_reducible apply And.intro) | (with_reducible exact trivial) | omega | (simp only [List.length_map, List.length_cons, List.length_nil] at *; omega) | (show _ = true; first | rfl | kernel_rfl))
    all_goals ((first | apply ret_mk [] | apply end_mk []); (· ((try simp only [CC, LL, EE, QQ, seval]) <;> rfl)); (· ((try simp only [CC, LL, EE, QQ, seval]) <;> repeat' (first | (with_reducible apply And.intro) | rfl | trivial | (exact ⟨_, rfl⟩) | (exact ⟨_, _, _, rfl⟩) | (simp [*, noNote]; done) | (simp [*, noNote]; omega) | (simp_all [noNote]; done) | (simp_all [noNote]; omega)))); all_goals (first | trivial | decide | ((try simp only [CC, LL, EE, QQ, seval]) <;> repeat' (first | (with_reducible apply And.intro) | (exact ⟨_, rfl, rfl, rfl⟩) | (exact ⟨_, _, _, rfl⟩) | (exact ⟨_, rfl⟩) | trivial | rfl | (simp; done)))))
  · obtain ⟨k, rfl⟩ : ∃ k : Nat, n = k := ⟨n.toNat, by omega⟩
    have := ctake_yes c k (by omega) hc hi
    rw [takeF, lookF, if_neg hn, if_neg hn, Int.toNat_natCast]
    exact this
theorem i64_in {x : Int} (h1 : -1000 ≤ x) (h2 : x ≤ 100000) : I64 x := ⟨by omega, by omega⟩
theorem noteG_in (l : List UInt8) (k : Nat) : inN (noteG l k).1 := by
  have h1 := pickV_in l (pickK l (pickK l (pickK l (pickK l (pickK l k))))) 4 (by omega)
  have a0 := pickV_in l k 2 (by omega)
  have a1 := pickV_in l (pickK l k) 3 (by omega)
  have a2 := pickV_in l (pickK l (pickK l k)) 2 (by omega)
  have a3 := pickV_in l (pickK l (pickK l (pickK l k))) 3 (by omega)
  have a4 := pickV_in l (pickK l (pickK l (pickK l (pickK l k)))) 2 (by omega)
  have g := fun (x : Int) (k n : Nat) (h : x ∈ (elmG l 7 k n).1) => (fun (h : 0 ≤ x ∧ x < 7) => i64_in (x := x) (by omega) (by omega)) (elmG_in (p := 7) (by omega) x h)
  constructor
  · simp only [nt, noteG, Note.Small]
    refine ⟨by simp only [elmG_len]; omega, ?_⟩
    split
    · have h2 := pickV_in l (elmG l 7 (pickK l (pickK l (pickK l (pickK l (pickK l (pickK l k)))))) (pickV l (pickK l (pickK l (pickK l (pickK l (pickK l k))))) 4).toNat).2 3 (by omega)
      simp only [elmG_len]; omega
    · simp
  · constructor <;> (simp only [nt, noteG]; exact i64_in (by omega) (by omega))
  · simp only [noteG]; exact fun x hx => g x _ _ hx
  · simp only [noteG]
    intro x hx
    split at hx
    · exact g x _ _ hx
    · simp at hx
theorem notesG_in {l : List UInt8} {k : Nat} : ∀ {n : Nat}, ∀ x ∈ (notesG l k n).1, inN x
  | 0, x, h => by simp [notesG] at h
  | n + 1, x, h => by
    rw [notesG] at h
    rcases List.mem_append.1 h with h | h
    · exact notesG_in x h
    · simp only [List.mem_singleton] at h
      rw [h]; exact noteG_in _ _
theorem madeG_in (l : List UInt8) (k : Nat) : ∀ x ∈ (madeG l k).1, inN x := notesG_in
end Go.Proofs.Ytejandeehmnibaa.Sim
end
section
namespace Go.Proofs.Ytejandeehmnibaa.Sim
open Go
set_option maxRecDepth 100000
set_option maxHeartbeats 8000000
set_option linter.unusedVariables false
set_option linter.unusedSimpArgs false
attribute [local irreducible] Go Mean
theorem takeF_ok {c : List PNote} {k : Int} (h : okNs c) : okNs (takeF c k) := by
  rw [takeF]
  split
  · exact h
  · refine ⟨by rw [List.length_append, List.length_take, List.length_drop]; have := h.1; omega, fun x hx => ?_⟩
    rcases List.mem_append.1 hx with hx | hx
    · exact h.2 x (List.mem_of_mem_take hx)
    · exact h.2 x (List.mem_of_mem_drop hx)
theorem noNote_ok : okN noNote := ⟨by simp [noNote], by simp [noNote]⟩
theorem lookF_ok {c : List PNote} {k : Int} (h : okNs c) : okN (lookF c k).1 := by
  rw [lookF]
  split
  · exact noNote_ok
  · exact h.get (by omega)
theorem stay_ok {c : List PNote} {rd : Int} (h : okNs c) : ∀ {n : Nat}, n ≤ c.length → ∀ x ∈ stayN c rd n, okN x
  | 0, _, x, hx => by simp [stayN] at hx
  | n + 1, hn, x, hx => by
    rw [stayN] at hx
    split at hx
    · exact stay_ok h (by omega) x hx
    · rcases List.mem_append.1 hx with hx | hx
      · exact stay_ok h (by omega) x hx
      · simp only [List.mem_singleton] at hx
        subst hx
        exact h.get (by omega)
theorem stayN_ok {c : List PNote} {rd : Int} (h : okNs c) : okNs (stayN c rd c.length) :=
  ⟨by have := stayN_len (c := c) (rd := rd) (n := c.length); have := h.1; omega, stay_ok h (Nat.le_refl _)⟩
theorem lawSteps (s : List UInt8) (hs : s.length ≤ 140737488355328) (raw : List PNote) (n rd sv : Int) (a b : PNote) : Does Try.prog 4 [.d (dBytes s), .d (dNotes raw), I n, I rd, I sv, vNote a, vNote b] [] (B true) [] [] := by
  refine go_law31_ChannelSteps rfl BxOK.nil fun cx hm0 => go_in 5000 ?_
  unfold ac_law31_ChannelSteps rs_law31_ChannelSteps
  by_cases g1 : raw.length > 6
  · have q1 : decide ((raw.length : Int) > 6) = true := decide_eq_true (by omega)
    repeat' (first | simp (maxSteps := 9999999) only [↓GE, PL, PP, EE, QQ, seval, q1, List.length_map] | (simp (disch := omega) only [IntWalk.i64_in]) | (refine go_brD (fun h => ?_) (fun h => ?_)) | (refine go_gsD (by ((try simp only [EE, QQ, seval]) <;> rfl)) (fun h => ?_) (fun h => ?_)) | (refine go_br (fun h => ?_) (fun h => ?_)) | (refine go_gs (by ((try simp only [EE, QQ, seval]) <;> rfl)) (fun h => ?_) (fun h => ?_)) | (apply go_call 5000 (sane31) rfl rfl; (· ((try simp only [CC, LL, NM, EE, QQ, seval]) <;> (first | rfl | ((repeat constructor); done)))); (· exact CallForm.plain rfl); (· ((try simp only [CC, LL, NM, EE, QQ, seval]) <;> (first | rfl | ((repeat constructor); done)))); (· ((try simp only [CC, LL, NM, EE, QQ, seval]) <;> (first | rfl | ((repeat constructor); done))))) | (with_reducible apply And.intro) | (with_reducible exact trivial) | omega | (simp only [List.length_map, List.length_cons, List.length_nil] at *; omega) | (show _ = true; first | rfl | kernel_rfl))
    all_goals ((first | apply ret_mk [] | apply end_mk []); (· ((try simp only [CC, LL, EE, QQ, seval]) <;> rfl)); (· ((try simp only [CC, LL, EE, QQ, seval]) <;> repeat' (first | (with_reducible apply And.intro) | rfl | trivial | (exact ⟨_, rfl⟩) | (exact ⟨_, _, _, rfl⟩) | (simp [*, ]; done) | (simp [*, ]; omega) | (simp_all []; done) | (simp_all []; omega)))); all_goals (first | trivial | decide | ((try simp only [CC, LL, EE, QQ, seval]) <;> repeat' (first | (with_reducible apply And.intro) | (exact ⟨_, rfl, rfl, rfl⟩) | (exact ⟨_, _, _, rfl⟩) | (exact ⟨_, rfl⟩) | trivial | rfl | (simp; done)))))
  have q1 : decide ((raw.length : Int) > 6) = false := decide_eq_false (by omega)
  by_cases g2 : a.query.length > 8
  · have q2 : decide ((a.query.length : Int) > 8) = true := decide_eq_true (by omega)
    repeat' (first | simp (maxSteps := 9999999) only [↓GE, PL, PP, EE, QQ, seval, q1, q2, List.length_map] | (simp (disch := omega) only [IntWalk.i64_in]) | (refine go_brD (fun h => ?_) (fun h => ?_)) | (refine go_gsD (by ((try simp only [EE, QQ, seval]) <;> rfl)) (fun h => ?_) (fun h => ?_)) | (refine go_br (fun h => ?_) (fun h => ?_)) | (refine go_gs (by ((try simp only [EE, QQ, seval]) <;> rfl)) (fun h => ?_) (fun h => ?_)) | (apply go_call 5000 (sane31) rfl rfl; (· ((try simp only [CC, LL, NM, EE, QQ, seval]) <;> (first | rfl | ((repeat constructor); done)))); (· exact CallForm.plain rfl); (· ((try simp only [CC, LL, NM, EE, QQ, seval]) <;> (first | rfl | ((repeat constructor); done)))); (· ((try simp only [CC, LL, NM, EE, QQ, seval]) <;> (first | rfl | ((repeat constructor); done))))) | (with_reducible apply And.intro) | (with_reducible exact trivial) | omega | (simp only [List.length_map, List.length_cons, List.length_nil] at *; omega) | (show _ = true; first | rfl | kernel_rfl))
    all_goals ((first | apply ret_mk [] | apply end_mk []); (· ((try simp only [CC, LL, EE, QQ, seval]) <;> rfl)); (· ((try simp only [CC, LL, EE, QQ, seval]) <;> repeat' (first | (with_reducible apply And.intro) | rfl | trivial | (exact ⟨_, rfl⟩) | (exact ⟨_, _, _, rfl⟩) | (simp [*, ]; done) | (simp [*, ]; omega) | (simp_all []; done) | (simp_all []; omega)))); all_goals (first | trivial | decide | ((try simp only [CC, LL, EE, QQ, seval]) <;> repeat' (first | (with_reducible apply And.intro) | (exact ⟨_, rfl, rfl, rfl⟩) | (exact ⟨_, _, _, rfl⟩) | (exact ⟨_, rfl⟩) | trivial | rfl | (simp; done)))))
  have q2 : decide ((a.query.length : Int) > 8) = false := decide_eq_false (by omega)
  by_cases g3 : a.values.length > 8
  · have q3 : decide ((a.values.length : Int) > 8) = true := decide_eq_true (by omega)
    repeat' (first | simp (maxSteps := 9999999) only [↓GE, PL, PP, EE, QQ, seval, q1, q2, q3, List.length_map] | (simp (disch := omega) only [IntWalk.i64_in]) | (refine go_brD (fun h => ?_) (fun h => ?_)) | (refine go_gsD (by ((try simp only [EE, QQ, seval]) <;> rfl)) (fun h => ?_) (fun h => ?_)) | (refine go_br (fun h => ?_) (fun h => ?_)) | (refine go_gs (by ((try simp only [EE, QQ, seval]) <;> rfl)) (fun h => ?_) (fun h => ?_)) | (apply go_call 5000 (sane31) rfl rfl; (· ((try simp only [CC, LL, NM, EE, QQ, seval]) <;> (first | rfl | ((repeat constructor); done)))); (· exact CallForm.plain rfl); (· ((try simp only [CC, LL, NM, EE, QQ, seval]) <;> (first | rfl | ((repeat constructor); done)))); (· ((try simp only [CC, LL, NM, EE, QQ, seval]) <;> (first | rfl | ((repeat constructor); done))))) | (with_reducible apply And.intro) | (with_reducible exact trivial) | omega | (simp only [List.length_map, List.length_cons, List.length_nil] at *; omega) | (show _ = true; first | rfl | kernel_rfl))
    all_goals ((first | apply ret_mk [] | apply end_mk []); (· ((try simp only [CC, LL, EE, QQ, seval]) <;> rfl)); (· ((try simp only [CC, LL, EE, QQ, seval]) <;> repeat' (first | (with_reducible apply And.intro) | rfl | trivial | (exact ⟨_, rfl⟩) | (exact ⟨_, _, _, rfl⟩) | (simp [*, ]; done) | (simp [*, ]; omega) | (simp_all []; done) | (simp_all []; omega)))); all_goals (first | trivial | decide | ((try simp only [CC, LL, EE, QQ, seval]) <;> repeat' (first | (with_reducible apply And.intro) | (exact ⟨_, rfl, rfl, rfl⟩) | (exact ⟨_, _, _, rfl⟩) | (exact ⟨_, rfl⟩) | trivial | rfl | (simp; done)))))
  have q3 : decide ((a.values.length : Int) > 8) = false := decide_eq_false (by omega)
  by_cases g4 : b.query.length > 8
  · have q4 : decide ((b.query.length : Int) > 8) = true := decide_eq_true (by omega)
    repeat' (first | simp (maxSteps := 9999999) only [↓GE, PL, PP, EE, QQ, seval, q1, q2, q3, q4, List.length_map] | (simp (disch := omega) only [IntWalk.i64_in]) | (refine go_brD (fun h => ?_) (fun h => ?_)) | (refine go_gsD (by ((try simp only [EE, QQ, seval]) <;> rfl)) (fun h => ?_) (fun h => ?_)) | (refine go_br (fun h => ?_) (fun h => ?_)) | (refine go_gs (by ((try simp only [EE, QQ, seval]) <;> rfl)) (fun h => ?_) (fun h => ?_)) | (apply go_call 5000 (sane31) rfl rfl; (· ((try simp only [CC, LL, NM, EE, QQ, seval]) <;> (first | rfl | ((repeat constructor); done)))); (· exact CallForm.plain rfl); (· ((try simp only [CC, LL, NM, EE, QQ, seval]) <;> (first | rfl | ((repeat constructor); done)))); (· ((try simp only [CC, LL, NM, EE, QQ, seval]) <;> (first | rfl | ((repeat constructor); done))))) | (with_reducible apply And.intro) | (with_reducible exact trivial) | omega | (simp only [List.length_map, List.length_cons, List.length_nil] at *; omega) | (show _ = true; first | rfl | kernel_rfl))
    all_goals ((first | apply ret_mk [] | apply end_mk []); (· ((try simp only [CC, LL, EE, QQ, seval]) <;> rfl)); (· ((try simp only [CC, LL, EE, QQ, seval]) <;> repeat' (first | (with_reducible apply And.intro) | rfl | trivial | (exact ⟨_, rfl⟩) | (exact ⟨_, _, _, rfl⟩) | (simp [*, ]; done) | (simp [*, ]; omega) | (simp_all []; done) | (simp_all []; omega)))); all_goals (first | trivial | decide | ((try simp only [CC, LL, EE, QQ, seval]) <;> repeat' (first | (with_reducible apply And.intro) | (exact ⟨_, rfl, rfl, rfl⟩) | (exact ⟨_, _, _, rfl⟩) | (exact ⟨_, rfl⟩) | trivial | rfl | (simp; done)))))
  have q4 : decide ((b.query.length : Int) > 8) = false := decide_eq_false (by omega)
  by_cases g5 : b.values.length > 8
  · have q5 : decide ((b.values.length : Int) > 8) = true := decide_eq_true (by omega)
    repeat' (first | simp (maxSteps := 9999999) only [↓GE, PL, PP, EE, QQ, seval, q1, q2, q3, q4, q5, List.length_map] | (simp (disch := omega) only [IntWalk.i64_in]) | (refine go_brD (fun h => ?_) (fun h => ?_)) | (refine go_gsD (by ((try simp only [EE, QQ, seval]) <;> rfl)) (fun h => ?_) (fun h => ?_)) | (refine go_br (fun h => ?_) (fun h => ?_)) | (refine go_gs (by ((try simp only [EE, QQ, seval]) <;> rfl)) (fun h => ?_) (fun h => ?_)) | (apply go_call 5000 (sane31) rfl rfl; (· ((try simp only [CC, LL, NM, EE, QQ, seval]) <;> (first | rfl | ((repeat constructor); done)))); (· exact CallForm.plain rfl); (· ((try simp only [CC, LL, NM, EE, QQ, seval]) <;> (first | rfl | ((repeat constructor); done)))); (· ((try simp only [CC, LL, NM, EE, QQ, seval]) <;> (first | rfl | ((repeat constructor); done))))) | (with_reducible apply And.intro) | (with_reducible exact trivial) | omega | (simp only [List.length_map, List.length_cons, List.length_nil] at *; omega) | (show _ = true; first | rfl | kernel_rfl))
    all_goals ((first | apply ret_mk [] | apply end_mk []); (· ((try simp only [CC, LL, EE, QQ, seval]) <;> rfl)); (· ((try simp only [CC, LL, EE, QQ, seval]) <;> repeat' (first | (with_reducible apply And.intro) | rfl | trivial | (exact ⟨_, rfl⟩) | (exact ⟨_, _, _, rfl⟩) | (simp [*, ]; done) | (simp [*, ]; omega) | (simp_all []; done) | (simp_all []; omega)))); all_goals (first | trivial | decide | ((try simp only [CC, LL, EE, QQ, seval]) <;> repeat' (first | (with_reducible apply And.intro) | (exact ⟨_, rfl, rfl, rfl⟩) | (exact ⟨_, _, _, rfl⟩) | (exact ⟨_, rfl⟩) | trivial | rfl | (simp; done)))))
  have q5 : decide ((b.values.length : Int) > 8) = false := decide_eq_false (by omega)
  have oka : okN a := ⟨by omega, by omega⟩
  have okb : okN b := ⟨by omega, by omega⟩
  repeat' (first | simp (maxSteps := 9999999) only [↓GE, PL, PP, EE, QQ, seval, q1, q2, q3, q4, q5, List.length_map] | (simp (disch := omega) only [IntWalk.i64_in]) | (refine go_brD (fun h => ?_) (fun h => ?_)) | (refine go_gsD (by ((try simp only [EE, QQ, seval]) <;> rfl)) (fun h => ?_) (fun h => ?_)) | (refine go_br (fun h => ?_) (fun h => ?_)) | (refine go_gs (by ((try simp only [EE, QQ, seval]) <;> rfl)) (fun h => ?_) (fun h => ?_)) | (apply go_call 5000 (sane31) rfl rfl; (· ((try simp only [CC, LL, NM, EE, QQ, seval]) <;> (first | rfl | ((repeat constructor); done)))); (· exact CallForm.plain rfl); (· ((try simp only [CC, LL, NM, EE, QQ, seval]) <;> (first | rfl | ((repeat constructor); done)))); (· ((try simp only [CC, LL, NM, EE, QQ, seval]) <;> (first | rfl | ((repeat constructor); done))))) | (with_reducible apply And.intro) | (with_reducible exact trivial) | omega | (simp only [List.length_map, List.length_cons, List.length_nil] at *; omega) | (show _ = true; first | rfl | kernel_rfl))
  clear q1 q2 q3 q4 q5 g2 g3 g4 g5
  refine go_loop 5000 hm0 (ι := {i : Nat // i ≤ raw.length ∧ ∀ j, j < i → okN (raw.getD j noNote)}) (fun i => [(0, .d (dBytes s)), (1, .d (dNotes raw)), (2, I n), (3, I rd), (4, I sv), (12, .bp 12 0 0), (13, .bp 13 0 0), (68, .d (dNotes raw)), (69, I raw.length), (70, I i.1)]) (fun i => [(12, .box 0 [I a.kind, I a.read, I a.probe, I a.server, I a.version, .d (dInts a.query), .d (dInts a.values), I a.mark]), (13, .box 0 [I b.kind, I b.read, I b.probe, I b.server, I b.version, .d (dInts b.query), .d (dInts b.values), I b.mark])]) (fun i => raw.length - i.1) [] ⟨0, Nat.zero_le _, fun j hj => by omega⟩ ?_ ?_
  · (simp only [GeS]; refine ⟨?_, ?_, ?_, ?_⟩; all_goals (repeat' (first | trivial | (with_reducible rfl) | simp only [CC, LL, EE, QQ, seval] | (with_reducible apply And.intro) | rfl | (refine ⟨_, rfl, ?_⟩) | (simp; done) | omega)))
  rintro ⟨i, hi, hok⟩
  simp only
  by_cases hil : i < raw.length
  · have hs1 := getD_map eNote [] noNote raw i hil
    have hk2 : okN (raw.getD i noNote) → ∀ j, j < i + 1 → okN (raw.getD j noNote) := fun h j hj => by
      by_cases e : j = i
      · subst e; exact h
      · exact hok j (by omega)
    generalize raw.getD i noNote = t at *
    by_cases g2 : t.query.length > 8
    · have q2 : decide ((t.query.length : Int) > 8) = true := decide_eq_true (by omega)
      repeat' (first | simp (maxSteps := 9999999) only [↓GE, PL, PP, EE, QQ, seval, hs1, hil, q2, eNote, List.length_map] | (simp (disch := omega) only [IntWalk.i64_in]) | (refine go_brD (fun h => ?_) (fun h => ?_)) | (refine go_gsD (by ((try simp only [EE, QQ, seval]) <;> rfl)) (fun h => ?_) (fun h => ?_)) | (refine go_br (fun h => ?_) (fun h => ?_)) | (refine go_gs (by ((try simp only [EE, QQ, seval]) <;> rfl)) (fun h => ?_) (fun h => ?_)) | (with_reducible apply And.intro) | (with_reducible exact trivial) | omega | (simp only [List.length_map, List.length_cons, List.length_nil] at *; omega) | (show _ = true; first | rfl | kernel_rfl))
      all_goals ((first | apply ret_mk [] | apply end_mk []); (· ((try simp only [CC, LL, EE, QQ, seval]) <;> rfl)); (· ((try simp only [CC, LL, EE, QQ, seval]) <;> repeat' (first | (with_reducible apply And.intro) | rfl | trivial | (exact ⟨_, rfl⟩) | (exact ⟨_, _, _, rfl⟩) | (simp [*, ]; done) | (simp [*, ]; omega) | (simp_all []; done) | (simp_all []; omega)))); all_goals (first | trivial | decide | ((try simp only [CC, LL, EE, QQ, seval]) <;> repeat' (first | (with_reducible apply And.intro) | (exact ⟨_, rfl, rfl, rfl⟩) | (exact ⟨_, _, _, rfl⟩) | (exact ⟨_, rfl⟩) | trivial | rfl | (simp; done)))))
    have q2 : decide ((t.query.length : Int) > 8) = false := decide_eq_false (by omega)
    by_cases g3 : t.values.length > 8
    · have q3 : decide ((t.values.length : Int) > 8) = true := decide_eq_true (by omega)
      repeat' (first | simp (maxSteps := 9999999) only [↓GE, PL, PP, EE, QQ, seval, hs1, hil, q2, q3, eNote, List.length_map] | (simp (disch := omega) only [IntWalk.i64_in]) | (refine go_brD (fun h => ?_) (fun h => ?_)) | (refine go_gsD (by ((try simp only [EE, QQ, seval]) <;> rfl)) (fun h => ?_) (fun h => ?_)) | (refine go_br (fun h => ?_) (fun h => ?_)) | (refine go_gs (by ((try simp only [EE, QQ, seval]) <;> rfl)) (fun h => ?_) (fun h => ?_)) | (with_reducible apply And.intro) | (with_reducible exact trivial) | omega | (simp only [List.length_map, List.length_cons, List.length_nil] at *; omega) | (show _ = true; first | rfl | kernel_rfl))
      all_goals ((first | apply ret_mk [] | apply end_mk []); (· ((try simp only [CC, LL, EE, QQ, seval]) <;> rfl)); (· ((try simp only [CC, LL, EE, QQ, seval]) <;> repeat' (first | (with_reducible apply And.intro) | rfl | trivial | (exact ⟨_, rfl⟩) | (exact ⟨_, _, _, rfl⟩) | (simp [*, ]; done) | (simp [*, ]; omega) | (simp_all []; done) | (simp_all []; omega)))); all_goals (first | trivial | decide | ((try simp only [CC, LL, EE, QQ, seval]) <;> repeat' (first | (with_reducible apply And.intro) | (exact ⟨_, rfl, rfl, rfl⟩) | (exact ⟨_, _, _, rfl⟩) | (exact ⟨_, rfl⟩) | trivial | rfl | (simp; done)))))
    have q3 : decide ((t.values.length : Int) > 8) = false := decide_eq_false (by omega)
    repeat' (first | simp (maxSteps := 9999999) only [↓GE, PL, PP, EE, QQ, seval, hs1, hil, q2, q3, eNote, List.length_map] | (simp (disch := omega) only [IntWalk.i64_in]) | (refine go_brD (fun h => ?_) (fun h => ?_)) | (refine go_gsD (by ((try simp only [EE, QQ, seval]) <;> rfl)) (fun h => ?_) (fun h => ?_)) | (refine go_br (fun h => ?_) (fun h => ?_)) | (refine go_gs (by ((try simp only [EE, QQ, seval]) <;> rfl)) (fun h => ?_) (fun h => ?_)) | (with_reducible apply And.intro) | (with_reducible exact trivial) | omega | (simp only [List.length_map, List.length_cons, List.length_nil] at *; omega) | (show _ = true; first | rfl | kernel_rfl))
    refine ⟨⟨i + 1, hil, hk2 ⟨by omega, by omega⟩⟩, ?_, by simp only; omega⟩
    (simp only [GeS]; refine ⟨?_, ?_, ?_, ?_⟩; all_goals (repeat' (first | trivial | (with_reducible rfl) | simp only [CC, LL, EE, QQ, seval] | (with_reducible apply And.intro) | rfl | (refine ⟨_, rfl, ?_⟩) | (simp; done) | omega)))
  obtain rfl : i = raw.length := by omega
  have okr : okNs raw := ⟨by omega, fun x hx => by
    obtain ⟨j, hj, rfl⟩ := List.mem_iff_getElem.1 hx
    have := hok j hj
    rwa [List.getD_eq_getElem?_getD, List.getElem?_eq_getElem hj] at this⟩
  clear hok hil hi
  generalize hL : s.take 300 = l
  have hl : l.length ≤ 140737488355328 := by rw [← hL, List.length_take]; omega
  have e0 := dice s hs
  rw [hL] at e0
  have d1 := (made l hl 0).nm1 88000 0 (by omega) rfl rfl rfl rfl rfl
  have ⟨okc, lc⟩ := madeG_ok l 0
  have inc := madeG_in l 0
  generalize (madeG l 0).2 = k1 at *
  generalize (madeG l 0).1 = c at *
  have d2 := (pick l hl k1 9 (by omega)).nm1 88000 0 (by omega) rfl rfl rfl rfl rfl
  generalize pickV l k1 9 = v2 at *
  generalize pickK l k1 = k2 at *
  have d3 := (pick l hl k2 3 (by omega)).nm1 88000 0 (by omega) rfl rfl rfl rfl rfl
  generalize pickV l k2 3 = v3 at *
  generalize pickK l k2 = k3 at *
  have d4 := (pick l hl k3 3 (by omega)).nm1 88000 0 (by omega) rfl rfl rfl rfl rfl
  have i4 := pickV_in l k3 3 (by omega)
  generalize pickV l k3 3 = v4 at *
  generalize pickK l k3 = k4 at *
  have oky : okNs (c ++ raw) := ⟨by rw [List.length_append]; omega, fun x h => (List.mem_append.1 h).elim (okc.2 x) (okr.2 x)⟩
  have e1 := send c raw okc okr
  have e2 := send31 c raw okc okr
  rw [sendF, if_neg (by omega)] at e1 e2
  simp only at e1 e2
  have e3 := same31 _ _ oky oky
  rw [decide_eq_true rfl] at e3
  have w1 : IntKind.i64.wrap ((c.length : Int) - 1) = c.length - 1 := IntWalk.i64_in _ (by omega)
  have f1 := sameNote a b oka okb
  have f2 := sameNote31 a b oka okb
  have f3 := sameNote a a oka oka
  rw [decide_eq_true rfl] at f3
  have f4 := sameChan _ _ okc oky
  have f5 := same31 _ _ okc oky
  generalize decide (a = b) = b1 at *
  generalize decide (c = c ++ raw) = b2 at *
  generalize c ++ raw = y at *
  repeat' (first | simp (maxSteps := 9999999) only [↓GE, PL, PP, EE, QQ, seval, w1, List.length_map] | (simp (disch := omega) only [IntWalk.i64_in]) | (refine go_brD (fun h => ?_) (fun h => ?_)) | (refine go_gsD (by ((try simp only [EE, QQ, seval]) <;> rfl)) (fun h => ?_) (fun h => ?_)) | (refine go_br (fun h => ?_) (fun h => ?_)) | (refine go_gs (by ((try simp only [EE, QQ, seval]) <;> rfl)) (fun h => ?_) (fun h => ?_)) | (apply go_call 5000 (e0) rfl rfl; (· ((try simp only [CC, LL, NM, EE, QQ, seval]) <;> (first | rfl | ((repeat constructor); done)))); (· exact CallForm.news rfl rfl); (· ((try simp only [CC, LL, NM, EE, QQ, seval]) <;> (first | rfl | ((repeat constructor); done)))); (· ((try simp only [CC, LL, NM, EE, QQ, seval]) <;> (first | rfl | ((repeat constructor); done))))) | (apply go_call 5000 (d1) rfl rfl; (· ((try simp only [CC, LL, NM, EE, QQ, seval]) <;> (first | rfl | ((repeat constructor); done)))); (· exact CallForm.lent (by (try simp only [CC, LL, NM, EE, QQ, seval]); repeat' (first | trivial | (with_reducible rfl) | omega | (with_reducible apply And.intro) | rfl)) rfl rfl); (· ((try simp only [CC, LL, NM, EE, QQ, seval]) <;> (first | rfl | ((repeat constructor); done)))); (· ((try simp only [CC, LL, NM, EE, QQ, seval]) <;> (first | rfl | ((repeat constructor); done))))) | (apply go_call 5000 (e1) rfl rfl; (· ((try simp only [CC, LL, NM, EE, QQ, seval]) <;> (first | rfl | ((repeat constructor); done)))); (· exact CallForm.plain rfl); (· ((try simp only [CC, LL, NM, EE, QQ, seval]) <;> (first | rfl | ((repeat constructor); done)))); (· ((try simp only [CC, LL, NM, EE, QQ, seval]) <;> (first | rfl | ((repeat constructor); done))))) | (apply go_call 5000 (e2) rfl rfl; (· ((try simp only [CC, LL, NM, EE, QQ, seval]) <;> (first | rfl | ((repeat constructor); done)))); (· exact CallForm.plain rfl); (· ((try simp only [CC, LL, NM, EE, QQ, seval]) <;> (first | rfl | ((repeat constructor); done)))); (· ((try simp only [CC, LL, NM, EE, QQ, seval]) <;> (first | rfl | ((repeat constructor); done))))) | (apply go_call 5000 (e3) rfl rfl; (· ((try simp only [CC, LL, NM, EE, QQ, seval]) <;> (first | rfl | ((repeat constructor); done)))); (· exact CallForm.plain rfl); (· ((try simp only [CC, LL, NM, EE, QQ, seval]) <;> (first | rfl | ((repeat constructor); done)))); (· ((try simp only [CC, LL, NM, EE, QQ, seval]) <;> (first | rfl | ((repeat constructor); done))))) | (apply go_call 5000 (d2) rfl rfl; (· ((try simp only [CC, LL, NM, EE, QQ, seval]) <;> (first | rfl | ((repeat constructor); done)))); (· exact CallForm.lent (by (try simp only [CC, LL, NM, EE, QQ, seval]); repeat' (first | trivial | (with_reducible rfl) | omega | (with_reducible apply And.intro) | rfl)) rfl rfl); (· ((try simp only [CC, LL, NM, EE, QQ, seval]) <;> (first | rfl | ((repeat constructor); done)))); (· ((try simp only [CC, LL, NM, EE, QQ, seval]) <;> (first | rfl | ((repeat constructor); done))))) | (with_reducible apply And.intro) | (with_reducible exact trivial) | omega | (simp only [List.length_map, List.length_cons, List.length_nil] at *; omega) | (show _ = true; first | rfl | kernel_rfl))
  obtain ⟨ks1, hks1, hkl1⟩ : ∃ ks1 : List Int, ks1.map eI = [[.at (.int .i64 n)], [.at (.int .i64 0)], [.at (.int .i64 v2)], [.at (.int .i64 ((c.length : Int) - 1))]] ∧ ks1.length = 4 := ⟨[n, 0, v2, (c.length : Int) - 1], rfl, rfl⟩
  refine go_loop 5000 hm0 (ι := {i : Nat // i ≤ 4}) (fun i => [(3, I rd), (4, I sv), (12, .bp 12 0 0), (13, .bp 13 0 0), (17, .bp 88000 0 0), (18, .bp 18 0 0), (21, .bp 21 0 0), (117, .og 117 0), (118, I 4), (119, I i.1)]) (fun i => [(12, .box 0 [I a.kind, I a.read, I a.probe, I a.server, I a.version, .d (dInts a.query), .d (dInts a.values), I a.mark]), (13, .box 0 [I b.kind, I b.read, I b.probe, I b.server, I b.version, .d (dInts b.query), .d (dInts b.values), I b.mark]), (18, .box 0 [.d (dNotes c)]), (21, .box 0 [.d (dNotes y)]), (88000, .box 0 [.d (dBytes l), I k2]), (117, .arr 0 1 true (ks1.map eI))]) (fun i => 4 - i.1) [] ⟨0, by omega⟩ ?_ ?_
  · (simp only [GeS]; refine ⟨?_, ?_, ?_, ?_⟩; all_goals (repeat' (first | trivial | (with_reducible rfl) | simp only [CC, LL, EE, QQ, seval] | (with_reducible apply And.intro) | rfl | (refine ⟨_, rfl, ?_⟩) | (simp [hks1]; done) | omega)))
  rintro ⟨i, hi⟩
  simp only
  clear hks1
  by_cases hi4 : i < 4
  · have hs1 := getD_map eI [] 0 ks1 i (by omega)
    generalize ks1.getD i 0 = k at *
    have t1 := ctake c k okc (by omega) inc
    have t2 := take31 c k okc
    have t3 := look c k okc
    have t4 := look31 c k okc
    have okt := takeF_ok (k := k) okc
    have okx := lookF_ok (k := k) okc
    generalize takeF c k = tk at *
    generalize (lookF c k).1 = nx at *
    generalize (lookF c k).2 = ex at *
    have t5 := same31 tk tk okt okt
    have t6 := sameNote31 nx nx okx okx
    rw [decide_eq_true rfl] at t5 t6
    have q : decide ((i : Int) < 4) = true := decide_eq_true (by omega)
    have qx : (ex != ex) = false := by simp
    repeat' (first | simp (maxSteps := 9999999) only [↓GE, PL, PP, EE, QQ, seval, hs1, hkl1, hi4, q, qx, eI, List.length_map] | (simp (disch := omega) only [IntWalk.i64_in]) | (refine go_brD (fun h => ?_) (fun h => ?_)) | (refine go_gsD (by ((try simp only [EE, QQ, seval]) <;> rfl)) (fun h => ?_) (fun h => ?_)) | (refine go_br (fun h => ?_) (fun h => ?_)) | (refine go_gs (by ((try simp only [EE, QQ, seval]) <;> rfl)) (fun h => ?_) (fun h => ?_)) | (apply go_call 5000 (t1) rfl rfl; (· ((try simp only [CC, LL, NM, EE, QQ, seval]) <;> (first | rfl | ((repeat constructor); done)))); (· exact CallForm.plain rfl); (· ((try simp only [CC, LL, NM, EE, QQ, seval]) <;> (first | rfl | ((repeat constructor); done)))); (· ((try simp only [CC, LL, NM, EE, QQ, seval]) <;> (first | rfl | ((repeat constructor); done))))) | (apply go_call 5000 (t2) rfl rfl; (· ((try simp only [CC, LL, NM, EE, QQ, seval]) <;> (first | rfl | ((repeat constructor); done)))); (· exact CallForm.plain rfl); (· ((try simp only [CC, LL, NM, EE, QQ, seval]) <;> (first | rfl | ((repeat constructor); done)))); (· ((try simp only [CC, LL, NM, EE, QQ, seval]) <;> (first | rfl | ((repeat constructor); done))))) | (apply go_call 5000 (t3) rfl rfl; (· ((try simp only [CC, LL, NM, EE, QQ, seval]) <;> (first | rfl | ((repeat constructor); done)))); (· exact CallForm.plain rfl); (· ((try simp only [CC, LL, NM, EE, QQ, seval]) <;> (first | rfl | ((repeat constructor); done)))); (· ((try simp only [CC, LL, NM, EE, QQ, seval]) <;> (first | rfl | ((repeat constructor); done))))) | (apply go_call 5000 (t4) rfl rfl; (· ((try simp only [CC, LL, NM, EE, QQ, seval]) <;> (first | rfl | ((repeat constructor); done)))); (· exact CallForm.plain rfl); (· ((try simp only [CC, LL, NM, EE, QQ, seval]) <;> (first | rfl | ((repeat constructor); done)))); (· ((try simp only [CC, LL, NM, EE, QQ, seval]) <;> (first | rfl | ((repeat constructor); done))))) | (apply go_call 5000 (t5) rfl rfl; (· ((try simp only [CC, LL, NM, EE, QQ, seval]) <;> (first | rfl | ((repeat constructor); done)))); (· exact CallForm.plain rfl); (· ((try simp only [CC, LL, NM, EE, QQ, seval]) <;> (first | rfl | ((repeat constructor); done)))); (· ((try simp only [CC, LL, NM, EE, QQ, seval]) <;> (first | rfl | ((repeat constructor); done))))) | (apply go_call 5000 (t6) rfl rfl; (· ((try simp only [CC, LL, NM, EE, QQ, seval]) <;> (first | rfl | ((repeat constructor); done)))); (· exact CallForm.plain rfl); (· ((try simp only [CC, LL, NM, EE, QQ, seval]) <;> (first | rfl | ((repeat constructor); done)))); (· ((try simp only [CC, LL, NM, EE, QQ, seval]) <;> (first | rfl | ((repeat constructor); done))))) | (apply go_call 5000 (t6) rfl rfl; (· ((try simp only [CC, LL, NM, EE, QQ, seval]) <;> (first | rfl | ((repeat constructor); done)))); (· exact CallForm.plain rfl); (· ((try simp only [CC, LL, NM, EE, QQ, seval]) <;> (first | rfl | ((repeat constructor); done)))); (· ((try simp only [CC, LL, NM, EE, QQ, seval]) <;> (first | rfl | ((repeat constructor); done))))) | (with_reducible apply And.intro) | (with_reducible exact trivial) | omega | (simp only [List.length_map, List.length_cons, List.length_nil] at *; omega) | (show _ = true; first | rfl | kernel_rfl))
    refine ⟨⟨i + 1, hi4⟩, ?_, by simp only; omega⟩
    (simp only [GeS]; refine ⟨?_, ?_, ?_, ?_⟩; all_goals (repeat' (first | trivial | (with_reducible rfl) | simp only [CC, LL, EE, QQ, seval] | (with_reducible apply And.intro) | rfl | (refine ⟨_, rfl, ?_⟩) | (simp; done) | omega)))
  obtain rfl : i = 4 := by omega
  repeat' (first | simp (maxSteps := 9999999) only [↓GE, PL, PP, EE, QQ, seval] | (simp (disch := omega) only [IntWalk.i64_in]) | (refine go_brD (fun h => ?_) (fun h => ?_)) | (refine go_gsD (by ((try simp only [EE, QQ, seval]) <;> rfl)) (fun h => ?_) (fun h => ?_)) | (refine go_br (fun h => ?_) (fun h => ?_)) | (refine go_gs (by ((try simp only [EE, QQ, seval]) <;> rfl)) (fun h => ?_) (fun h => ?_)) | (apply go_call 5000 (d3) rfl rfl; (· ((try simp only [CC, LL, NM, EE, QQ, seval]) <;> (first | rfl | ((repeat constructor); done)))); (· exact CallForm.lent (by (try simp only [CC, LL, NM, EE, QQ, seval]); repeat' (first | trivial | (with_reducible rfl) | omega | (with_reducible apply And.intro) | rfl)) rfl rfl); (· ((try simp only [CC, LL, NM, EE, QQ, seval]) <;> (first | rfl | ((repeat constructor); done)))); (· ((try simp only [CC, LL, NM, EE, QQ, seval]) <;> (first | rfl | ((repeat constructor); done))))) | (with_reducible apply And.intro) | (with_reducible exact trivial) | omega | (simp only [List.length_map, List.length_cons, List.length_nil] at *; omega) | (show _ = true; first | rfl | kernel_rfl))
  obtain ⟨ks2, hks2, hkl2⟩ : ∃ ks2 : List Int, ks2.map eI = [[.at (.int .i64 rd)], [.at (.int .i64 v3)]] ∧ ks2.length = 2 := ⟨[rd, v3], rfl, rfl⟩
  refine go_loop 5000 hm0 (ι := {i : Nat // i ≤ 2}) (fun i => [(4, I sv), (12, .bp 12 0 0), (13, .bp 13 0 0), (17, .bp 88000 0 0), (18, .bp 18 0 0), (21, .bp 21 0 0), (179, .og 179 0), (180, I 2), (181, I i.1)]) (fun i => [(12, .box 0 [I a.kind, I a.read, I a.probe, I a.server, I a.version, .d (dInts a.query), .d (dInts a.values), I a.mark]), (13, .box 0 [I b.kind, I b.read, I b.probe, I b.server, I b.version, .d (dInts b.query), .d (dInts b.values), I b.mark]), (18, .box 0 [.d (dNotes c)]), (21, .box 0 [.d (dNotes y)]), (88000, .box 0 [.d (dBytes l), I k3]), (179, .arr 0 1 true (ks2.map eI))]) (fun i => 2 - i.1) [] ⟨0, by omega⟩ ?_ ?_
  · (simp only [GeS]; refine ⟨?_, ?_, ?_, ?_⟩; all_goals (repeat' (first | trivial | (with_reducible rfl) | simp only [CC, LL, EE, QQ, seval] | (with_reducible apply And.intro) | rfl | (refine ⟨_, rfl, ?_⟩) | (simp [hks2]; done) | omega)))
  rintro ⟨i, hi⟩
  simp only
  clear hks2
  by_cases hi2 : i < 2
  · have hs1 := getD_map eI [] 0 ks2 i (by omega)
    generalize ks2.getD i 0 = k at *
    have t1 := cdrop c k okc
    have t2 := drop31 c k okc
    have okt := stayN_ok (rd := k) okc
    generalize stayN c k c.length = tk at *
    have t5 := same31 tk tk okt okt
    rw [decide_eq_true rfl] at t5
    have q : decide ((i : Int) < 2) = true := decide_eq_true (by omega)
    repeat' (first | simp (maxSteps := 9999999) only [↓GE, PL, PP, EE, QQ, seval, hs1, hkl2, hi2, q, eI, List.length_map] | (simp (disch := omega) only [IntWalk.i64_in]) | (refine go_brD (fun h => ?_) (fun h => ?_)) | (refine go_gsD (by ((try simp only [EE, QQ, seval]) <;> rfl)) (fun h => ?_) (fun h => ?_)) | (refine go_br (fun h => ?_) (fun h => ?_)) | (refine go_gs (by ((try simp only [EE, QQ, seval]) <;> rfl)) (fun h => ?_) (fun h => ?_)) | (apply go_call 5000 (t1) rfl rfl; (· ((try simp only [CC, LL, NM, EE, QQ, seval]) <;> (first | rfl | ((repeat constructor); done)))); (· exact CallForm.plain rfl); (· ((try simp only [CC, LL, NM, EE, QQ, seval]) <;> (first | rfl | ((repeat constructor); done)))); (· ((try simp only [CC, LL, NM, EE, QQ, seval]) <;> (first | rfl | ((repeat constructor); done))))) | (apply go_call 5000 (t2) rfl rfl; (· ((try simp only [CC, LL, NM, EE, QQ, seval]) <;> (first | rfl | ((repeat constructor); done)))); (· exact CallForm.plain rfl); (· ((try simp only [CC, LL, NM, EE, QQ, seval]) <;> (first | rfl | ((repeat constructor); done)))); (· ((try simp only [CC, LL, NM, EE, QQ, seval]) <;> (first | rfl | ((repeat constructor); done))))) | (apply go_call 5000 (t5) rfl rfl; (· ((try simp only [CC, LL, NM, EE, QQ, seval]) <;> (first | rfl | ((repeat constructor); done)))); (· exact CallForm.plain rfl); (· ((try simp only [CC, LL, NM, EE, QQ, seval]) <;> (first | rfl | ((repeat constructor); done)))); (· ((try simp only [CC, LL, NM, EE, QQ, seval]) <;> (first | rfl | ((repeat constructor); done))))) | (with_reducible apply And.intro) | (with_reducible exact trivial) | omega | (simp only [List.length_map, List.length_cons, List.length_nil] at *; omega) | (show _ = true; first | rfl | kernel_rfl))
    refine ⟨⟨i + 1, hi2⟩, ?_, by simp only; omega⟩
    (simp only [GeS]; refine ⟨?_, ?_, ?_, ?_⟩; all_goals (repeat' (first | trivial | (with_reducible rfl) | simp only [CC, LL, EE, QQ, seval] | (with_reducible apply And.intro) | rfl | (refine ⟨_, rfl, ?_⟩) | (simp; done) | omega)))
  obtain rfl : i = 2 := by omega
  have w4 : IntKind.i64.wrap (1 + v4) = 1 + v4 := IntWalk.i64_in _ (by omega)
  repeat' (first | simp (maxSteps := 9999999) only [↓GE, PL, PP, EE, QQ, seval, w4] | (simp (disch := omega) only [IntWalk.i64_in]) | (refine go_brD (fun h => ?_) (fun h => ?_)) | (refine go_gsD (by ((try simp only [EE, QQ, seval]) <;> rfl)) (fun h => ?_) (fun h => ?_)) | (refine go_br (fun h => ?_) (fun h => ?_)) | (refine go_gs (by ((try simp only [EE, QQ, seval]) <;> rfl)) (fun h => ?_) (fun h => ?_)) | (apply go_call 5000 (d4) rfl rfl; (· ((try simp only [CC, LL, NM, EE, QQ, seval]) <;> (first | rfl | ((repeat constructor); done)))); (· exact CallForm.lent (by (try simp only [CC, LL, NM, EE, QQ, seval]); repeat' (first | trivial | (with_reducible rfl) | omega | (with_reducible apply And.intro) | rfl)) rfl rfl); (· ((try simp only [CC, LL, NM, EE, QQ, seval]) <;> (first | rfl | ((repeat constructor); done)))); (· ((try simp only [CC, LL, NM, EE, QQ, seval]) <;> (first | rfl | ((repeat constructor); done))))) | (with_reducible apply And.intro) | (with_reducible exact trivial) | omega | (simp only [List.length_map, List.length_cons, List.length_nil] at *; omega) | (show _ = true; first | rfl | kernel_rfl))
  obtain ⟨ks3, hks3, hkl3⟩ : ∃ ks3 : List Int, ks3.map eI = [[.at (.int .i64 sv)], [.at (.int .i64 (1 + v4))]] ∧ ks3.length = 2 := ⟨[sv, 1 + v4], rfl, rfl⟩
  refine go_loop 5000 hm0 (ι := {i : Nat // i ≤ 2}) (fun i => [(12, .bp 12 0 0), (13, .bp 13 0 0), (18, .bp 18 0 0), (21, .bp 21 0 0), (198, .og 198 0), (199, I 2), (200, I i.1)]) (fun i => [(12, .box 0 [I a.kind, I a.read, I a.probe, I a.server, I a.version, .d (dInts a.query), .d (dInts a.values), I a.mark]), (13, .box 0 [I b.kind, I b.read, I b.probe, I b.server, I b.version, .d (dInts b.query), .d (dInts b.values), I b.mark]), (18, .box 0 [.d (dNotes c)]), (21, .box 0 [.d (dNotes y)]), (198, .arr 0 1 true (ks3.map eI))]) (fun i => 2 - i.1) [] ⟨0, by omega⟩ ?_ ?_
  · (simp only [GeS]; refine ⟨?_, ?_, ?_, ?_⟩; all_goals (repeat' (first | trivial | (with_reducible rfl) | simp only [CC, LL, EE, QQ, seval] | (with_reducible apply And.intro) | rfl | (refine ⟨_, rfl, ?_⟩) | (simp [hks3]; done) | omega)))
  rintro ⟨i, hi⟩
  simp only
  clear hks3
  by_cases hi2 : i < 2
  · have hs1 := getD_map eI [] 0 ks3 i (by omega)
    generalize ks3.getD i 0 = k at *
    have t1 := cbetween c k okc
    have t2 := between31 c k okc
    have hbl := betwN_len (c := c) (sv := k) (n := c.length)
    generalize betwN c k c.length = tk at *
    have t5 := ints31 tk tk (by omega) (by omega)
    rw [decide_eq_true rfl] at t5
    have q : decide ((i : Int) < 2) = true := decide_eq_true (by omega)
    repeat' (first | simp (maxSteps := 9999999) only [↓GE, PL, PP, EE, QQ, seval, hs1, hkl3, hi2, q, eI, List.length_map] | (simp (disch := omega) only [IntWalk.i64_in]) | (refine go_brD (fun h => ?_) (fun h => ?_)) | (refine go_gsD (by ((try simp only [EE, QQ, seval]) <;> rfl)) (fun h => ?_) (fun h => ?_)) | (refine go_br (fun h => ?_) (fun h => ?_)) | (refine go_gs (by ((try simp only [EE, QQ, seval]) <;> rfl)) (fun h => ?_) (fun h => ?_)) | (apply go_call 5000 (t1) rfl rfl; (· ((try simp only [CC, LL, NM, EE, QQ, seval]) <;> (first | rfl | ((repeat constructor); done)))); (· exact CallForm.plain rfl); (· ((try simp only [CC, LL, NM, EE, QQ, seval]) <;> (first | rfl | ((repeat constructor); done)))); (· ((try simp only [CC, LL, NM, EE, QQ, seval]) <;> (first | rfl | ((repeat constructor); done))))) | (apply go_call 5000 (t2) rfl rfl; (· ((try simp only [CC, LL, NM, EE, QQ, seval]) <;> (first | rfl | ((repeat constructor); done)))); (· exact CallForm.plain rfl); (· ((try simp only [CC, LL, NM, EE, QQ, seval]) <;> (first | rfl | ((repeat constructor); done)))); (· ((try simp only [CC, LL, NM, EE, QQ, seval]) <;> (first | rfl | ((repeat constructor); done))))) | (apply go_call 5000 (t5) rfl rfl; (· ((try simp only [CC, LL, NM, EE, QQ, seval]) <;> (first | rfl | ((repeat constructor); done)))); (· exact CallForm.plain rfl); (· ((try simp only [CC, LL, NM, EE, QQ, seval]) <;> (first | rfl | ((repeat constructor); done)))); (· ((try simp only [CC, LL, NM, EE, QQ, seval]) <;> (first | rfl | ((repeat constructor); done))))) | (with_reducible apply And.intro) | (with_reducible exact trivial) | omega | (simp only [List.length_map, List.length_cons, List.length_nil] at *; omega) | (show _ = true; first | rfl | kernel_rfl))
    refine ⟨⟨i + 1, hi2⟩, ?_, by simp only; omega⟩
    (simp only [GeS]; refine ⟨?_, ?_, ?_, ?_⟩; all_goals (repeat' (first | trivial | (with_reducible rfl) | simp only [CC, LL, EE, QQ, seval] | (with_reducible apply And.intro) | rfl | (refine ⟨_, rfl, ?_⟩) | (simp; done) | omega)))
  obtain rfl : i = 2 := by omega
  cases b1 <;> cases b2
  · repeat' (first | simp (maxSteps := 9999999) only [↓GE, PL, PP, EE, QQ, seval] | (simp (disch := omega) only [IntWalk.i64_in]) | (refine go_brD (fun h => ?_) (fun h => ?_)) | (refine go_gsD (by ((try simp only [EE, QQ, seval]) <;> rfl)) (fun h => ?_) (fun h => ?_)) | (refine go_br (fun h => ?_) (fun h => ?_)) | (refine go_gs (by ((try simp only [EE, QQ, seval]) <;> rfl)) (fun h => ?_) (fun h => ?_)) | (apply go_call 5000 (f1) rfl rfl; (· ((try simp only [CC, LL, NM, EE, QQ, seval]) <;> (first | rfl | ((repeat constructor); done)))); (· exact CallForm.plain rfl); (· ((try simp only [CC, LL, NM, EE, QQ, seval]) <;> (first | rfl | ((repeat constructor); done)))); (· ((try simp only [CC, LL, NM, EE, QQ, seval]) <;> (first | rfl | ((repeat constructor); done))))) | (apply go_call 5000 (f2) rfl rfl; (· ((try simp only [CC, LL, NM, EE, QQ, seval]) <;> (first | rfl | ((repeat constructor); done)))); (· exact CallForm.plain rfl); (· ((try simp only [CC, LL, NM, EE, QQ, seval]) <;> (first | rfl | ((repeat constructor); done)))); (· ((try simp only [CC, LL, NM, EE, QQ, seval]) <;> (first | rfl | ((repeat constructor); done))))) | (apply go_call 5000 (f3) rfl rfl; (· ((try simp only [CC, LL, NM, EE, QQ, seval]) <;> (first | rfl | ((repeat constructor); done)))); (· exact CallForm.plain rfl); (· ((try simp only [CC, LL, NM, EE, QQ, seval]) <;> (first | rfl | ((repeat constructor); done)))); (· ((try simp only [CC, LL, NM, EE, QQ, seval]) <;> (first | rfl | ((repeat constructor); done))))) | (apply go_call 5000 (f4) rfl rfl; (· ((try simp only [CC, LL, NM, EE, QQ, seval]) <;> (first | rfl | ((repeat constructor); done)))); (· exact CallForm.plain rfl); (· ((try simp only [CC, LL, NM, EE, QQ, seval]) <;> (first | rfl | ((repeat constructor); done)))); (· ((try simp only [CC, LL, NM, EE, QQ, seval]) <;> (first | rfl | ((repeat constructor); done))))) | (apply go_call 5000 (f5) rfl rfl; (· ((try simp only [CC, LL, NM, EE, QQ, seval]) <;> (first | rfl | ((repeat constructor); done)))); (· exact CallForm.plain rfl); (· ((try simp only [CC, LL, NM, EE, QQ, seval]) <;> (first | rfl | ((repeat constructor); done)))); (· ((try simp only [CC, LL, NM, EE, QQ, seval]) <;> (first | rfl | ((repeat constructor); done))))) | (with_reducible apply And.intro) | (with_reducible exact trivial) | omega | (simp only [List.length_map, List.length_cons, List.length_nil] at *; omega) | (show _ = true; first | rfl | kernel_rfl))
    all_goals ((first | apply ret_mk [] | apply end_mk []); (· ((try simp only [CC, LL, EE, QQ, seval]) <;> rfl)); (· ((try simp only [CC, LL, EE, QQ, seval]) <;> repeat' (first | (with_reducible apply And.intro) | rfl | trivial | (exact ⟨_, rfl⟩) | (exact ⟨_, _, _, rfl⟩) | (simp [*, ]; done) | (simp [*, ]; omega) | (simp_all []; done) | (simp_all []; omega)))); all_goals (first | trivial | decide | ((try simp only [CC, LL, EE, QQ, seval]) <;> repeat' (first | (with_reducible apply And.intro) | (exact ⟨_, rfl, rfl, rfl⟩) | (exact ⟨_, _, _, rfl⟩) | (exact ⟨_, rfl⟩) | trivial | rfl | (simp; done)))))
  · repeat' (first | simp (maxSteps := 9999999) only [↓GE, PL, PP, EE, QQ, seval] | (simp (disch := omega) only [IntWalk.i64_in]) | (refine go_brD (fun h => ?_) (fun h => ?_)) | (refine go_gsD (by ((try simp only [EE, QQ, seval]) <;> rfl)) (fun h => ?_) (fun h => ?_)) | (refine go_br (fun h => ?_) (fun h => ?_)) | (refine go_gs (by ((try simp only [EE, QQ, seval]) <;> rfl)) (fun h => ?_) (fun h => ?_)) | (apply go_call 5000 (f1) rfl rfl; (· ((try simp only [CC, LL, NM, EE, QQ, seval]) <;> (first | rfl | ((repeat constructor); done)))); (· exact CallForm.plain rfl); (· ((try simp only [CC, LL, NM, EE, QQ, seval]) <;> (first | rfl | ((repeat constructor); done)))); (· ((try simp only [CC, LL, NM, EE, QQ, seval]) <;> (first | rfl | ((repeat constructor); done))))) | (apply go_call 5000 (f2) rfl rfl; (· ((try simp only [CC, LL, NM, EE, QQ, seval]) <;> (first | rfl | ((repeat constructor); done)))); (· exact CallForm.plain rfl); (· ((try simp only [CC, LL, NM, EE, QQ, seval]) <;> (first | rfl | ((repeat constructor); done)))); (· ((try simp only [CC, LL, NM, EE, QQ, seval]) <;> (first | rfl | ((repeat constructor); done))))) | (apply go_call 5000 (f3) rfl rfl; (· ((try simp only [CC, LL, NM, EE, QQ, seval]) <;> (first | rfl | ((repeat constructor); done)))); (· exact CallForm.plain rfl); (· ((try simp only [CC, LL, NM, EE, QQ, seval]) <;> (first | rfl | ((repeat constructor); done)))); (· ((try simp only [CC, LL, NM, EE, QQ, seval]) <;> (first | rfl | ((repeat constructor); done))))) | (apply go_call 5000 (f4) rfl rfl; (· ((try simp only [CC, LL, NM, EE, QQ, seval]) <;> (first | rfl | ((repeat constructor); done)))); (· exact CallForm.plain rfl); (· ((try simp only [CC, LL, NM, EE, QQ, seval]) <;> (first | rfl | ((repeat constructor); done)))); (· ((try simp only [CC, LL, NM, EE, QQ, seval]) <;> (first | rfl | ((repeat constructor); done))))) | (apply go_call 5000 (f5) rfl rfl; (· ((try simp only [CC, LL, NM, EE, QQ, seval]) <;> (first | rfl | ((repeat constructor); done)))); (· exact CallForm.plain rfl); (· ((try simp only [CC, LL, NM, EE, QQ, seval]) <;> (first | rfl | ((repeat constructor); done)))); (· ((try simp only [CC, LL, NM, EE, QQ, seval]) <;> (first | rfl | ((repeat constructor); done))))) | (with_reducible apply And.intro) | (with_reducible exact trivial) | omega | (simp only [List.length_map, List.length_cons, List.length_nil] at *; omega) | (show _ = true; first | rfl | kernel_rfl))
    all_goals ((first | apply ret_mk [] | apply end_mk []); (· ((try simp only [CC, LL, EE, QQ, seval]) <;> rfl)); (· ((try simp only [CC, LL, EE, QQ, seval]) <;> repeat' (first | (with_reducible apply And.intro) | rfl | trivial | (exact ⟨_, rfl⟩) | (exact ⟨_, _, _, rfl⟩) | (simp [*, ]; done) | (simp [*, ]; omega) | (simp_all []; done) | (simp_all []; omega)))); all_goals (first | trivial | decide | ((try simp only [CC, LL, EE, QQ, seval]) <;> repeat' (first | (with_reducible apply And.intro) | (exact ⟨_, rfl, rfl, rfl⟩) | (exact ⟨_, _, _, rfl⟩) | (exact ⟨_, rfl⟩) | trivial | rfl | (simp; done)))))
  · repeat' (first | simp (maxSteps := 9999999) only [↓GE, PL, PP, EE, QQ, seval] | (simp (disch := omega) only [IntWalk.i64_in]) | (refine go_brD (fun h => ?_) (fun h => ?_)) | (refine go_gsD (by ((try simp only [EE, QQ, seval]) <;> rfl)) (fun h => ?_) (fun h => ?_)) | (refine go_br (fun h => ?_) (fun h => ?_)) | (refine go_gs (by ((try simp only [EE, QQ, seval]) <;> rfl)) (fun h => ?_) (fun h => ?_)) | (apply go_call 5000 (f1) rfl rfl; (· ((try simp only [CC, LL, NM, EE, QQ, seval]) <;> (first | rfl | ((repeat constructor); done)))); (· exact CallForm.plain rfl); (· ((try simp only [CC, LL, NM, EE, QQ, seval]) <;> (first | rfl | ((repeat constructor); done)))); (· ((try simp only [CC, LL, NM, EE, QQ, seval]) <;> (first | rfl | ((repeat constructor); done))))) | (apply go_call 5000 (f2) rfl rfl; (· ((try simp only [CC, LL, NM, EE, QQ, seval]) <;> (first | rfl | ((repeat constructor); done)))); (· exact CallForm.plain rfl); (· ((try simp only [CC, LL, NM, EE, QQ, seval]) <;> (first | rfl | ((repeat constructor); done)))); (· ((try simp only [CC, LL, NM, EE, QQ, seval]) <;> (first | rfl | ((repeat constructor); done))))) | (apply go_call 5000 (f3) rfl rfl; (· ((try simp only [CC, LL, NM, EE, QQ, seval]) <;> (first | rfl | ((repeat constructor); done)))); (· exact CallForm.plain rfl); (· ((try simp only [CC, LL, NM, EE, QQ, seval]) <;> (first | rfl | ((repeat constructor); done)))); (· ((try simp only [CC, LL, NM, EE, QQ, seval]) <;> (first | rfl | ((repeat constructor); done))))) | (apply go_call 5000 (f4) rfl rfl; (· ((try simp only [CC, LL, NM, EE, QQ, seval]) <;> (first | rfl | ((repeat constructor); done)))); (· exact CallForm.plain rfl); (· ((try simp only [CC, LL, NM, EE, QQ, seval]) <;> (first | rfl | ((repeat constructor); done)))); (· ((try simp only [CC, LL, NM, EE, QQ, seval]) <;> (first | rfl | ((repeat constructor); done))))) | (apply go_call 5000 (f5) rfl rfl; (· ((try simp only [CC, LL, NM, EE, QQ, seval]) <;> (first | rfl | ((repeat constructor); done)))); (· exact CallForm.plain rfl); (· ((try simp only [CC, LL, NM, EE, QQ, seval]) <;> (first | rfl | ((repeat constructor); done)))); (· ((try simp only [CC, LL, NM, EE, QQ, seval]) <;> (first | rfl | ((repeat constructor); done))))) | (with_reducible apply And.intro) | (with_reducible exact trivial) | omega | (simp only [List.length_map, List.length_cons, List.length_nil] at *; omega) | (show _ = true; first | rfl | kernel_rfl))
    all_goals ((first | apply ret_mk [] | apply end_mk []); (· ((try simp only [CC, LL, EE, QQ, seval]) <;> rfl)); (· ((try simp only [CC, LL, EE, QQ, seval]) <;> repeat' (first | (with_reducible apply And.intro) | rfl | trivial | (exact ⟨_, rfl⟩) | (exact ⟨_, _, _, rfl⟩) | (simp [*, ]; done) | (simp [*, ]; omega) | (simp_all []; done) | (simp_all []; omega)))); all_goals (first | trivial | decide | ((try simp only [CC, LL, EE, QQ, seval]) <;> repeat' (first | (with_reducible apply And.intro) | (exact ⟨_, rfl, rfl, rfl⟩) | (exact ⟨_, _, _, rfl⟩) | (exact ⟨_, rfl⟩) | trivial | rfl | (simp; done)))))
  · repeat' (first | simp (maxSteps := 9999999) only [↓GE, PL, PP, EE, QQ, seval] | (simp (disch := omega) only [IntWalk.i64_in]) | (refine go_brD (fun h => ?_) (fun h => ?_)) | (refine go_gsD (by ((try simp only [EE, QQ, seval]) <;> rfl)) (fun h => ?_) (fun h => ?_)) | (refine go_br (fun h => ?_) (fun h => ?_)) | (refine go_gs (by ((try simp only [EE, QQ, seval]) <;> rfl)) (fun h => ?_) (fun h => ?_)) | (apply go_call 5000 (f1) rfl rfl; (· ((try simp only [CC, LL, NM, EE, QQ, seval]) <;> (first | rfl | ((repeat constructor); done)))); (· exact CallForm.plain rfl); (· ((try simp only [CC, LL, NM, EE, QQ, seval]) <;> (first | rfl | ((repeat constructor); done)))); (· ((try simp only [CC, LL, NM, EE, QQ, seval]) <;> (first | rfl | ((repeat constructor); done))))) | (apply go_call 5000 (f2) rfl rfl; (· ((try simp only [CC, LL, NM, EE, QQ, seval]) <;> (first | rfl | ((repeat constructor); done)))); (· exact CallForm.plain rfl); (· ((try simp only [CC, LL, NM, EE, QQ, seval]) <;> (first | rfl | ((repeat constructor); done)))); (· ((try simp only [CC, LL, NM, EE, QQ, seval]) <;> (first | rfl | ((repeat constructor); done))))) | (apply go_call 5000 (f3) rfl rfl; (· ((try simp only [CC, LL, NM, EE, QQ, seval]) <;> (first | rfl | ((repeat constructor); done)))); (· exact CallForm.plain rfl); (· ((try simp only [CC, LL, NM, EE, QQ, seval]) <;> (first | rfl | ((repeat constructor); done)))); (· ((try simp only [CC, LL, NM, EE, QQ, seval]) <;> (first | rfl | ((repeat constructor); done))))) | (apply go_call 5000 (f4) rfl rfl; (· ((try simp only [CC, LL, NM, EE, QQ, seval]) <;> (first | rfl | ((repeat constructor); done)))); (· exact CallForm.plain rfl); (· ((try simp only [CC, LL, NM, EE, QQ, seval]) <;> (first | rfl | ((repeat constructor); done)))); (· ((try simp only [CC, LL, NM, EE, QQ, seval]) <;> (first | rfl | ((repeat constructor); done))))) | (apply go_call 5000 (f5) rfl rfl; (· ((try simp only [CC, LL, NM, EE, QQ, seval]) <;> (first | rfl | ((repeat constructor); done)))); (· exact CallForm.plain rfl); (· ((try simp only [CC, LL, NM, EE, QQ, seval]) <;> (first | rfl | ((repeat constructor); done)))); (· ((try simp only [CC, LL, NM, EE, QQ, seval]) <;> (first | rfl | ((repeat constructor); done))))) | (with_reducible apply And.intro) | (with_reducible exact trivial) | omega | (simp only [List.length_map, List.length_cons, List.length_nil] at *; omega) | (show _ = true; first | rfl | kernel_rfl))
    all_goals ((first | apply ret_mk [] | apply end_mk []); (· ((try simp only [CC, LL, EE, QQ, seval]) <;> rfl)); (· ((try simp only [CC, LL, EE, QQ, seval]) <;> repeat' (first | (with_reducible apply And.intro) | rfl | trivial | (exact ⟨_, rfl⟩) | (exact ⟨_, _, _, rfl⟩) | (simp [*, ]; done) | (simp [*, ]; omega) | (simp_all []; done) | (simp_all []; omega)))); all_goals (first | trivial | decide | ((try simp only [CC, LL, EE, QQ, seval]) <;> repeat' (first | (with_reducible apply And.intro) | (exact ⟨_, rfl, rfl, rfl⟩) | (exact ⟨_, _, _, rfl⟩) | (exact ⟨_, rfl⟩) | trivial | rfl | (simp; done)))))
end Go.Proofs.Ytejandeehmnibaa.Sim
end
section
namespace Go.Proofs.Ytejandeehmnibaa.Sim
open Go Go.RowKit Go.ChangeShapes Go.WideShapes
set_option linter.unusedVariables false
set_option linter.unusedSimpArgs false
set_option maxRecDepth 100000
theorem cells_one {w : World} {S : Nat → Prop} {d : D} {v : Value} (h : Cells w S [d] [v]) : d.is w S v := by
  simp only [Cells] at h
  obtain ⟨x, r, e, h1, _⟩ := h
  cases e
  exact h1
def ok_ints (l : List Int) : Prop := True
def ok_note (n : PNote) : Prop := True
def ok_notes (l : List PNote) : Prop := True
def ok_bytes (l : List UInt8) : Prop := l.length ≤ 140737488355328
theorem bytes_tU8 : Try.prog.bytesOf 5 = 1 := by kernel_rfl
theorem opens_bytes : OpensD Try.prog 22 (fun l : List UInt8 => [dBytes l]) ok_bytes :=
  (OpensD.slice (f := eB) Try.underlying22 (by kernel_rfl) (by decide) (fun _ => rfl) (OpensD.u8 Try.underlying5)).mono fun l h => by
    have := h.1
    simp only [bytes_tU8, reachBytes] at this
    show l.length ≤ 140737488355328
    omega
theorem opens_ints : OpensD Try.prog 32 (fun l : List Int => [dInts l]) ok_ints :=
  (OpensD.slice (f := eI) Try.underlying32 (by kernel_rfl) (by decide) (fun _ => rfl) (OpensD.int Try.underlying3)).mono fun l h => trivial
theorem opens_note : OpensD Try.prog 34 eNote ok_note := by
  intro H enc w base spare held fuel cs x h
  obtain ⟨n, xs, hl, hxl, hx, hf⟩ := Opens.parts Try.underlying34 h
  have hl' : cs.length = 8 := hl.trans (by kernel_rfl)
  have hxl' : xs.length = 8 := hxl
  have e_tInt : Try.prog.cellsOf 3 = 1 := by kernel_rfl
  have e_tInts : Try.prog.cellsOf 32 = 1 := by kernel_rfl
  obtain ⟨a0, c0, k0⟩ := part_ok Try.underlying34 hx hf (j := 0) rfl (by omega) (OpensD.int Try.underlying3)
  obtain ⟨a1, c1, k1⟩ := part_ok Try.underlying34 hx hf (j := 1) rfl (by omega) (OpensD.int Try.underlying3)
  obtain ⟨a2, c2, k2⟩ := part_ok Try.underlying34 hx hf (j := 2) rfl (by omega) (OpensD.int Try.underlying3)
  obtain ⟨a3, c3, k3⟩ := part_ok Try.underlying34 hx hf (j := 3) rfl (by omega) (OpensD.int Try.underlying3)
  obtain ⟨a4, c4, k4⟩ := part_ok Try.underlying34 hx hf (j := 4) rfl (by omega) (OpensD.int Try.underlying3)
  obtain ⟨a5, c5, k5⟩ := part_ok Try.underlying34 hx hf (j := 5) rfl (by omega) (opens_ints)
  obtain ⟨a6, c6, k6⟩ := part_ok Try.underlying34 hx hf (j := 6) rfl (by omega) (opens_ints)
  obtain ⟨a7, c7, k7⟩ := part_ok Try.underlying34 hx hf (j := 7) rfl (by omega) (OpensD.int Try.underlying3)
  match cs, hl', c0, c1, c2, c3, c4, c5, c6, c7 with
  | [u0, u1, u2, u3, u4, u5, u6, u7], _, c0, c1, c2, c3, c4, c5, c6, c7 =>
    simp only [List.getElem_toArray, List.getElem_cons_zero, List.getElem_cons_succ, e_tInt, e_tInts, List.drop_succ_cons, List.drop_zero, List.take_succ_cons, List.take_zero] at c0 c1 c2 c3 c4 c5 c6 c7
    refine ⟨⟨a0, a1, a2, a3, a4, a5, a6, a7⟩, cells_append c0 (cells_append c1 (cells_append c2 (cells_append c3 (cells_append c4 (cells_append c5 (cells_append c6 (c7))))))), fun hs => ?_⟩
    have k0 := k0 hs
    have k1 := k1 hs
    have k2 := k2 hs
    have k3 := k3 hs
    have k4 := k4 hs
    have k5 := k5 hs
    have k6 := k6 hs
    have k7 := k7 hs
    exact trivial
theorem opens_notes : OpensD Try.prog 26 (fun l : List PNote => [dNotes l]) ok_notes :=
  (OpensD.slice (f := eNote) Try.underlying26 (by kernel_rfl) (by decide) (fun _ => rfl) opens_note).mono fun l h => trivial
section
variable {m : M} {hd : H} {w : World} {S : Nat → Prop}
theorem vrs_nil : VRs m hd w S [] [] := by simp only [VRs]
theorem vrs_cons {x : V} {l : List V} {u : Value} {r : List Value} (h : VR m hd w S x u) (h2 : VRs m hd w S l r) : VRs m hd w S (x :: l) (u :: r) := by
  simp only [VRs]
  exact ⟨_, _, rfl, h, h2⟩
theorem vr_d {d : D} {u : Value} (h : d.is w S u) : VR m hd w S (.d d) u := by
  simp only [VR]
  exact h
theorem vr_int {k : IntKind} {n : Int} : VR m hd w S (.d (.at (.int k n))) (.int k n) := by
  simp [VR, D.is, Value.oneCell']
theorem vr_cells {c : List D} {cs : Array Value} (h : Cells w S c cs.toList) : VR m hd w S (.ag (c.map V.d)) (.agg cs) := by
  simp only [VR]
  exact ⟨cs.toList, by simp, cells_VRs h, h.one⟩
end
end Go.Proofs.Ytejandeehmnibaa.Sim
end
section
namespace Go.Proofs.Ytejandeehmnibaa.channelSteps
open Go Go.RowKit Go.Deep Go.ChangeShapes Go.WideShapes Go.ChangeAt
open Go.ChangeMaps (open_string shut_string)
set_option linter.unusedVariables false

theorem own : ownKnob Try.prog.godebug = none := by kernel_rfl
theorem laidOut : laidOutB Try.prog = true := by kernel_rfl
theorem wf_i64 {x : Int} (h : (Lit.int .i64 x).wf = true) : -9223372036854775808 ≤ x ∧ x ≤ 9223372036854775807 := by simpa [Lit.wf, IntKind.min, IntKind.max, IntKind.signed, IntKind.bits] using h
theorem args (w : World) (v0 : Value) (x0 : List UInt8) (h0 : (Sim.dBytes x0).is w (Lo w.heap.size) v0) (k0 : Sim.ok_bytes x0)
    (v1 : Value) (x1 : List Sim.PNote) (h1 : (Sim.dNotes x1).is w (Lo w.heap.size) v1) (k1 : Sim.ok_notes x1)
    (x2 : Int) (l2 : -9223372036854775808 ≤ x2) (u2 : x2 ≤ 9223372036854775807)
    (x3 : Int) (l3 : -9223372036854775808 ≤ x3) (u3 : x3 ≤ 9223372036854775807)
    (x4 : Int) (l4 : -9223372036854775808 ≤ x4) (u4 : x4 ≤ 9223372036854775807)
    (cs5 : Array Value) (x5 : Sim.PNote) (h5 : Sim.Cells w (Lo w.heap.size) (Sim.eNote x5) cs5.toList) (k5 : Sim.ok_note x5)
    (cs6 : Array Value) (x6 : Sim.PNote) (h6 : Sim.Cells w (Lo w.heap.size) (Sim.eNote x6) cs6.toList) (k6 : Sim.ok_note x6) : Calls Try.prog 4 #[v0, v1, .int .i64 x2, .int .i64 x3, .int .i64 x4, .agg cs5, .agg cs6] w (Sim.IsTrueS w) := by
  have := Sim.calls_true (us := [v0, v1, .int .i64 x2, .int .i64 x3, .int .i64 x4, .agg cs5, .agg cs6]) (hd := fun _ => .bool true) ((fun (s : List UInt8) (hs : Sim.ok_bytes s) (raw : List Sim.PNote) (_ : Sim.ok_notes raw) (n : Int) (_ : -9223372036854775808 ≤ n) (_ : n ≤ 9223372036854775807) (rd : Int) (_ : -9223372036854775808 ≤ rd) (_ : rd ≤ 9223372036854775807) (sv : Int) (_ : -9223372036854775808 ≤ sv) (_ : sv ≤ 9223372036854775807) (a : Sim.PNote) (_ : Sim.ok_note a) (b : Sim.PNote) (_ : Sim.ok_note b) => Sim.lawSteps s hs raw n rd sv a b) x0 k0 x1 k1 x2 l2 u2 x3 l3 u3 x4 l4 u4 x5 k5 x6 k6) (Sim.vrs_cons (Sim.vr_d h0) (Sim.vrs_cons (Sim.vr_d h1) (Sim.vrs_cons Sim.vr_int (Sim.vrs_cons Sim.vr_int (Sim.vrs_cons Sim.vr_int (Sim.vrs_cons (Sim.vr_cells h5) (Sim.vrs_cons (Sim.vr_cells h6) (Sim.vrs_nil))))))))
  simpa using this

set_option maxRecDepth 100000 in
theorem lifted (os : Os) (started : os.Started) (H : Type) (enc : TypeId × Value → H) :
    ReturnsInHanded {} Try.checked os 4 .any (Rows.channelStepsSpec.pre6 enc Try.prog Try.f4 Rows.channelStepsRow.domain false) (Rows.channelStepsSpec.post enc Try.prog Try.f4 false true false false) := by
  refine returnsInHanded_of_change_sized (C := Try.checked) own started (by kernel_rfl) Try.func4
    (ChangeSpec.witness6 (enc := enc) (C := Try.checked) false ⟨#[], #[.slice none 0 0, .slice none 0 0, .int .i64 0, .int .i64 0, .int .i64 0, .agg #[.int .i64 0, .int .i64 0, .int .i64 0, .int .i64 0, .int .i64 0, .slice none 0 0, .slice none 0 0, .int .i64 0], .agg #[.int .i64 0, .int .i64 0, .int .i64 0, .int .i64 0, .int .i64 0, .slice none 0 0, .slice none 0 0, .int .i64 0]], []⟩ 8 (by kernel_rfl) (by kernel_rfl) (by kernel_rfl) (by kernel_rfl)) ?_
  intro W base args ds gs before hval0 hW hcnd hsz0 _
  have hsz : (DataW.weightsEach Try.prog (Try.f4.params.toList ++ Rows.channelStepsSpec.plain.varTypes Try.prog) (ds ++ gs)).all (· ≤ reachBytes) = true := hsz0
  have hval : ∀ (j : Nat) t v, Try.f4.params[j]? = some t → args[j]? = some v → Value.okWide Try.prog W .any base t v := hval0
  have hW' := hW
  obtain ⟨p, q, hA0, hV, rfl, hfz, hnd⟩ := hW
  have hA : DataW.TrodAll enc Try.prog W 0 (fun _ => true) true Try.f4.params.toList args.toList ds p := hA0
  rw [Try.params4] at hA hval hsz
  obtain ⟨v0, vs0, d0, ds0, p0, q0, hargs, rfl, rfl, h0, r0⟩ := trodAll_cons hA
  obtain ⟨v1, vs1, d1, ds1, p1, q1, rfl, rfl, rfl, h1, r1⟩ := trodAll_cons r0
  obtain ⟨v2, vs2, d2, ds2, p2, q2, rfl, rfl, rfl, h2, r2⟩ := trodAll_cons r1
  obtain ⟨v3, vs3, d3, ds3, p3, q3, rfl, rfl, rfl, h3, r3⟩ := trodAll_cons r2
  obtain ⟨v4, vs4, d4, ds4, p4, q4, rfl, rfl, rfl, h4, r4⟩ := trodAll_cons r3
  obtain ⟨v5, vs5, d5, ds5, p5, q5, rfl, rfl, rfl, h5, r5⟩ := trodAll_cons r4
  obtain ⟨v6, vs6, d6, ds6, p6, q6, rfl, rfl, rfl, h6, r6⟩ := trodAll_cons r5
  obtain ⟨rfl, rfl, rfl⟩ := trodAll_nil r6
  obtain rfl : args = #[v0, v1, v2, v3, v4, v5, v6] := by cases args; simp_all
  obtain ⟨rfl, rfl⟩ := trodVars_none hV
  obtain ⟨a0, len0, cap0, rfl⟩ := okWide_slice Try.underlying22 (hval 0 22 v0 rfl rfl)
  have k0 := h0
  have lt0 : ∀ x ∈ p0, x.block < W.heap.size := by obtain ⟨m, hm⟩ := k0; exact DataW.trod_lt m _ _ _ hm
  obtain ⟨fuel0, hf0⟩ := h0
  obtain ⟨x0, hx0, hk0⟩ := Sim.opens_bytes _ _ _ _ _ _ _ _ _ hf0
  simp only [Value.cells] at hx0
  have ok0 := hk0 (Sim.sized_of hsz (j := 0) rfl rfl)
  obtain ⟨a1, len1, cap1, rfl⟩ := okWide_slice Try.underlying26 (hval 1 26 v1 rfl rfl)
  have k1 := h1
  have lt1 : ∀ x ∈ p1, x.block < W.heap.size := by obtain ⟨m, hm⟩ := k1; exact DataW.trod_lt m _ _ _ hm
  obtain ⟨fuel1, hf1⟩ := h1
  obtain ⟨x1, hx1, hk1⟩ := Sim.opens_notes _ _ _ _ _ _ _ _ _ hf1
  simp only [Value.cells] at hx1
  have ok1 := hk1 (Sim.sized_of hsz (j := 1) rfl rfl)
  obtain ⟨x2, rfl, rfl, rfl, w2⟩ := open_int Try.underlying3 (hval 2 3 v2 rfl rfl) h2
  have b2 := wf_i64 w2
  obtain ⟨x3, rfl, rfl, rfl, w3⟩ := open_int Try.underlying3 (hval 3 3 v3 rfl rfl) h3
  have b3 := wf_i64 w3
  obtain ⟨x4, rfl, rfl, rfl, w4⟩ := open_int Try.underlying3 (hval 4 3 v4 rfl rfl) h4
  have b4 := wf_i64 w4
  obtain ⟨cs5, rfl, hsz5⟩ := okWide_struct Try.underlying34 (hval 5 34 v5 rfl rfl)
  have k5 := h5
  have lt5 : ∀ x ∈ p5, x.block < W.heap.size := by obtain ⟨m, hm⟩ := k5; exact DataW.trod_lt m _ _ _ hm
  obtain ⟨fuel5, hf5⟩ := h5
  obtain ⟨x5, hx5, hk5⟩ := Sim.opens_note _ _ _ _ _ _ _ _ _ hf5
  simp only [Value.cells] at hx5
  have ok5 := hk5 (Sim.sized_of hsz (j := 5) rfl rfl)
  obtain ⟨cs6, rfl, hsz6⟩ := okWide_struct Try.underlying34 (hval 6 34 v6 rfl rfl)
  have k6 := h6
  have lt6 : ∀ x ∈ p6, x.block < W.heap.size := by obtain ⟨m, hm⟩ := k6; exact DataW.trod_lt m _ _ _ hm
  obtain ⟨fuel6, hf6⟩ := h6
  obtain ⟨x6, hx6, hk6⟩ := Sim.opens_note _ _ _ _ _ _ _ _ _ hf6
  simp only [Value.cells] at hx6
  have ok6 := hk6 (Sim.sized_of hsz (j := 6) rfl rfl)
  clear hA0 hval0
  have hw := args W (.slice a0 len0 cap0) x0 (Sim.cells_one (by simpa using hx0)) ok0 (.slice a1 len1 cap1) x1 (Sim.cells_one (by simpa using hx1)) ok1 x2 b2.1 b2.2 x3 b3.1 b3.2 x4 b4.1 b4.2 cs5 x5 hx5 ok5 cs6 x6 hx6 ok6
  refine hw.mono fun e W' ⟨he, bel⟩ => ?_
  subst he
  exact ⟨_, rfl, _, _, _, [], _, [], hW', trodAll_mk1 (shut_bool Try.underlying4 _), (trodAll_cons_mk (Below.trod laidOut (by kernel_rfl) (of_decide_eq_true (by kernel_rfl)) k0 bel lt0) (trodAll_cons_mk (Below.trod laidOut (by kernel_rfl) (of_decide_eq_true (by kernel_rfl)) k1 bel lt1) (trodAll_cons_mk (shut_int Try.underlying3 w2) (trodAll_cons_mk (shut_int Try.underlying3 w3) (trodAll_cons_mk (shut_int Try.underlying3 w4) (trodAll_cons_mk (Below.trod laidOut (by kernel_rfl) (of_decide_eq_true (by kernel_rfl)) k5 bel lt5) (trodAll_cons_mk (Below.trod laidOut (by kernel_rfl) (of_decide_eq_true (by kernel_rfl)) k6 bel lt6) trodAll_mk0))))))), rfl, bel.frame _, fun h => by cases h⟩

theorem over : Rows.channelStepsRow.holds Try.pinned (OpenSpec.ofChange Rows.channelStepsSpec) :=
  OpenClaim.holds_of_wide 4 Try.f4 rfl rfl rfl rfl rfl rfl rfl ⟨rfl, rfl, rfl, rfl, rfl⟩ rfl rfl rfl rfl rfl (by kernel_rfl) Try.func4 (by kernel_rfl)
    (of_decide_eq_true (by kernel_rfl)) (by unfold Func.isWrapper; first | (rw [if_pos (by decide +kernel)]; kernel_rfl) | (rw [if_neg (by decide +kernel)]; exact ⟨rfl, rfl⟩))
    (fun os started H enc _ => lifted os started H enc)

theorem proved : Rows.ChannelStepsSaid := over
#print axioms proved
end Go.Proofs.Ytejandeehmnibaa.channelSteps
end
