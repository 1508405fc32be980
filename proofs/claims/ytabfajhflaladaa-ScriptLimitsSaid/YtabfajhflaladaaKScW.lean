/- Bytes and lists of numbers, as data. -/
import Derived.Test.YtabfajhflaladaaKWirePuts
import Derived.Test.YtabfajhflaladaaKWireLw
import Derived.Test.YtabfajhflaladaaKLibI
import Derived.Test.YtabfajhflaladaaKSimBr
import Derived.Test.YtabfajhflaladaaKSimSl
namespace Go.Proofs.Ytabfajhflaladaa.Sim
open Go Go.RowKit Go.Deep
set_option maxRecDepth 100000
set_option maxHeartbeats 4000000
set_option linter.unusedVariables false
set_option linter.unusedSimpArgs false
attribute [local irreducible] Go Mean
open Go.Proofs.Ytabfajhflaladaa.Wire (putB putL putB_len wPutInt_any wPutList_any rPutInt_any rPutList_any flat_len Int64 getI getL getC wInt_any wList_any PostL IntPost)
/-- Data are a list, where the elements are. -/
theorem chunks_of {α : Type} [Rep α] (f : α → List D) (Q : α → Prop) {w : World} {S : Nat → Prop} (hf : ∀ cs x, Q x → Cells w S (f x) cs → Rep.is w S cs x) : ∀ (l : List α) (xs : List Value), (∀ x ∈ l, Q x) → Rows w S (Rep.sz α) (l.map f) xs → Chunks w S xs l
  | [], xs, _, h => by simp only [Rows, List.map_nil] at h; exact h
  | a :: l, xs, hq, h => by
    simp only [Rows, List.map_cons] at h
    obtain ⟨x, r, rfl, h1, h2, h3⟩ := h
    exact ⟨x, r, rfl, hf _ _ (hq a (by simp)) h2, chunks_of f Q hf l r (fun y hy => hq y (by simp [hy])) h3⟩
theorem sl_lst {α : Type} [Rep α] (f : α → List D) (Q : α → Prop) {w : World} {S : Nat → Prop} (hf : ∀ cs x, Q x → Cells w S (f x) cs → Rep.is w S cs x) {v : Value} {l : List α} (hq : ∀ x ∈ l, Q x) (h : (D.sl (Rep.sz α) (l.map f)).is w S v) : Lst w S v l := by
  simp only [D.is] at h
  obtain ⟨a, cap, xs, rfl, h1, h2, h3, h4⟩ := h
  rw [List.length_map] at h1 h4 ⊢
  exact ⟨xs, a, cap, rfl, h1, h2, chunks_of f Q hf l xs hq h3, h4⟩
theorem dints_lst {w : World} {S : Nat → Prop} {v : Value} {l : List Int} (hq : ∀ x ∈ l, I64 x) (h : (dInts l).is w S v) : Lst w S v l :=
  sl_lst (α := Int) eI I64 (fun cs x hx hc => by
    simp only [eI, Cells, D.is] at hc
    obtain ⟨u, r, rfl, ⟨rfl, -⟩, rfl⟩ := hc
    exact ⟨rfl, hx⟩) hq h
theorem lst_dints {w : World} {S : Nat → Prop} {v : Value} {l : List Int} (h : Lst w S v l) : (dInts l).is w S v := lst_sl (α := Int) (fun x => [.at (.int .i64 x)]) int_cells h
theorem own_lst {α : Type} [Rep α] {w : World} {B : Nat} {v : Value} {l : List α} (h : OwnT w B (fun b => B ≤ b) v l) : Lst w (fun b => B ≤ b ∧ b < w.heap.size) v l := by
  obtain ⟨xs, ho, hx⟩ := h
  have hx' := hx.keep (w' := w) (S' := fun b => B ≤ b ∧ b < w.heap.size) fun b hb hl => ⟨⟨hb.2, hl⟩, rfl⟩
  rcases ho.2 with ⟨rfl, h0⟩ | ⟨g, off, cap, rfl, hB, hlt, hn, hc, _, hr⟩
  · exact ⟨xs, none, 0, by rw [h0], by omega, Nat.zero_le _, hx', fun h => by omega⟩
  · exact ⟨xs, _, cap, rfl, hn, hc, hx', fun _ => ⟨g, off, rfl, ⟨⟨hB, hlt⟩, hlt⟩, hr⟩⟩
/-- A call that gives a value of one cell, and turns nothing. -/
theorem does_at {P : Program} {f : FuncId} {xs : List V} {r : Value} (hr : r.oneCell' = true) (h : ∀ (w : World) (m : M) (hd : H) (S : Nat → Prop) (us : List Value), (∀ b, S b → b < w.heap.size) → VRs m hd w S xs us → Calls P f us.toArray w fun e w' => e = .returned r ∧ Below w.heap.size w w') : Does P f xs [] (.d (.at r)) [] [] := by
  intro w hd S X us hm hv
  refine (h w _ hd S us hm.lt hv).mono ?_
  rintro e w' ⟨rfl, hb⟩
  refine ⟨_, hd, S, rfl, ⟨hb.os, hb.tape, hb.output, hb.size, fun k hk _ => hb.block k hk⟩, ⟨fun i o h => by simp [ups, fresh] at h, fun i j oi oj b _ h => by simp [ups, fresh] at h, fun b hb' => Nat.lt_of_lt_of_le (hm.lt b hb') hb.size, hb.size, hm.sX⟩, ?_, fun b h => .inl h, Le.refl _ _⟩
  simp only [VR, D.is]
  exact ⟨trivial, hr⟩
abbrev vS (l : List UInt8) : V := .d (.at (.string ⟨l.toArray⟩))
theorem str_one (l : List UInt8) : (Value.string ⟨l.toArray⟩).oneCell' = true := rfl
theorem wPutIntD (s : List UInt8) (n : Int) (hn : I64 n) (hs : s.length + 10 ≤ 140737488355328) : Does Try.prog 9 [vS s, I n] [] (vS (s ++ putB n)) [] [] := by
  refine does_at (str_one _) fun w m hd S us hS hv => ?_
  simp only [VRs, VR, I, D.is] at hv
  obtain ⟨u, r, rfl, ⟨rfl, -⟩, u2, r2, rfl, ⟨rfl, -⟩, rfl⟩ := hv
  exact wPutInt_any s n w hn.1 hn.2 hs
theorem rPutIntD (s : List UInt8) (n : Int) (hn : I64 n) (hs : s.length + 10 ≤ 140737488355328) : Does Try.prog 11 [vS s, I n] [] (vS (s ++ putB n)) [] [] := by
  refine does_at (str_one _) fun w m hd S us hS hv => ?_
  simp only [VRs, VR, I, D.is] at hv
  obtain ⟨u, r, rfl, ⟨rfl, -⟩, u2, r2, rfl, ⟨rfl, -⟩, rfl⟩ := hv
  exact rPutInt_any s n w hn.1 hn.2 (by omega)
theorem wPutListD (s : List UInt8) (l : List Int) (hl : ∀ x ∈ l, I64 x) (hs : s.length + 10 * l.length + 20 ≤ 140737488355328) : Does Try.prog 18 [vS s, .d (dInts l)] [] (vS (s ++ putL l)) [] [] := by
  refine does_at (str_one _) fun w m hd S us hS hv => ?_
  simp only [VRs, VR] at hv
  obtain ⟨u, r, rfl, h1, u2, r2, rfl, h2, rfl⟩ := hv
  simp only [D.is] at h1
  obtain ⟨rfl, -⟩ := h1
  have hq := (dints_lst hl h2).more (S' := Lo w.heap.size) (fun b hb => hS b hb)
  obtain ⟨a, c, rfl, -⟩ := hq.form
  exact wPutList_any s l a c w.heap.size w hl hq.rd (Nat.le_refl _) hs
theorem rPutListD (s : List UInt8) (l : List Int) (hl : ∀ x ∈ l, I64 x) (hs : s.length + 10 * l.length + 20 ≤ 140737488355328) : Does Try.prog 20 [vS s, .d (dInts l)] [] (vS (s ++ putL l)) [] [] := by
  refine does_at (str_one _) fun w m hd S us hS hv => ?_
  simp only [VRs, VR] at hv
  obtain ⟨u, r, rfl, h1, u2, r2, rfl, h2, rfl⟩ := hv
  simp only [D.is] at h1
  obtain ⟨rfl, -⟩ := h1
  have hq := (dints_lst hl h2).more (S' := Lo w.heap.size) (fun b hb => hS b hb)
  obtain ⟨a, c, rfl, -⟩ := hq.form
  exact rPutList_any s l a c w.heap.size w hl hq.rd (Nat.le_refl _) hs
theorem putL_len {l : List Int} (hl : ∀ x ∈ l, I64 x) (h : l.length ≤ 1000) : (putL l).length ≤ 11000 := by
  have h1 := flat_len (l := l) hl
  have h2 := (putB_len (n := (l.length : Int)) (by omega) (by omega)).1
  rw [putL, List.length_append]; omega
theorem flatMap_le {α : Type} {f : α → List UInt8} {m : Nat} : ∀ {l : List α}, (∀ x ∈ l, (f x).length ≤ m) → (l.flatMap f).length ≤ l.length * m
  | [], _ => by simp
  | x :: l, h => by
    have h1 := h x (by simp)
    have h2 := flatMap_le (f := f) (m := m) (l := l) fun y hy => h y (by simp [hy])
    rw [List.flatMap_cons, List.length_append, List.length_cons, Nat.add_mul, Nat.one_mul]; omega
theorem take_flatMap {α : Type} (f : α → List UInt8) (z : α) {l : List α} {k : Nat} (h : k < l.length) : (l.take (k + 1)).flatMap f = (l.take k).flatMap f ++ f (l.getD k z) := by
  rw [take_succ_getD z l k h, List.flatMap_append, List.flatMap_cons, List.flatMap_nil, List.append_nil]
theorem loop_eq (bs : ByteArray) : ∀ (n i : Nat) (r : List UInt8), bs.size - i = n → ByteArray.toList.loop bs i r = r.reverse ++ bs.data.toList.drop i := by
  intro n
  induction n with
  | zero =>
    intro i r h
    rw [ByteArray.toList.loop, if_neg (by omega), List.drop_of_length_le (by show bs.data.toList.length ≤ i; have : bs.size = bs.data.toList.length := rfl; omega), List.append_nil]
  | succ n ih =>
    intro i r h
    have hi : i < bs.data.toList.length := by have : bs.size = bs.data.toList.length := rfl; omega
    rw [ByteArray.toList.loop, if_pos (by omega), ih (i + 1) _ (by omega), List.drop_eq_getElem_cons hi]
    have : bs.get! i = bs.data.toList[i] := by
      show bs.data[i]! = _
      rw [getElem!_pos bs.data i (by simpa using hi)]; simp
    rw [this]; simp
theorem toList_mk (l : List UInt8) : (ByteArray.mk l.toArray).toList = l := by
  rw [ByteArray.toList, loop_eq _ _ 0 [] rfl]; simp
/-- As does_at, for three numbers. -/
theorem wIntD (s : List UInt8) (a : Int) (hs : s.length ≤ 1000000000000) : Does Try.prog 29 [vS s, I a] [] (.tu [I (getI s a).1, I (getI s a).2.1, I (getI s a).2.2]) [] [] := by
  intro w hd S X us hm hv
  simp only [VRs, VR, I, D.is] at hv
  obtain ⟨u, r, rfl, ⟨rfl, -⟩, u2, r2, rfl, ⟨rfl, -⟩, rfl⟩ := hv
  refine (wInt_any s a w (by omega)).mono ?_
  unfold IntPost
  rintro e w' ⟨rfl, rfl⟩
  refine ⟨_, hd, S, rfl, ⟨rfl, rfl, rfl, Nat.le_refl _, fun k hk _ => rfl⟩, ⟨fun i o h => by simp [ups, fresh] at h, fun i j oi oj b _ h => by simp [ups, fresh] at h, hm.lt, Nat.le_refl _, hm.sX⟩, ?_, fun b h => .inl h, Le.refl _ _⟩
  exact ⟨[_, _, _], rfl, by simp [I, VRs, VR, D.is, Value.oneCell']⟩
theorem wListD (s : List UInt8) (a most : Int) (hs : s.length ≤ 1000000000000) (hin : ∀ x ∈ (getL s a most).1, I64 x) : Does Try.prog 32 [vS s, I a, I most] [] (.tu [.d (dInts (getL s a most).1), I (getL s a most).2.1, I (getL s a most).2.2]) [] [] := by
  intro w hd S X us hm hv
  simp only [VRs, VR, I, D.is] at hv
  obtain ⟨u, r, rfl, ⟨rfl, -⟩, u2, r2, rfl, ⟨rfl, -⟩, u3, r3, rfl, ⟨rfl, -⟩, rfl⟩ := hv
  refine (wList_any s a most w (by omega)).mono ?_
  unfold PostL
  rintro e w' ⟨ad, c, rfl, ho, hb⟩
  generalize (getL s a most).1 = l at *
  have hlv := (own_lst (ho.ownT (T := fun b => w.heap.size ≤ b) hin)).more (S' := fun b => S b ∨ (w.heap.size ≤ b ∧ b < w'.heap.size)) fun b h => .inr h
  have hd1 := lst_dints hlv
  refine ⟨_, hd, fun b => S b ∨ (w.heap.size ≤ b ∧ b < w'.heap.size), rfl, ⟨hb.os, hb.tape, hb.output, hb.size, fun k hk _ => hb.block k hk⟩, ⟨fun i o h => by simp [ups, fresh] at h, fun i j oi oj b _ h => by simp [ups, fresh] at h, fun b hb' => hb'.elim (fun h => Nat.lt_of_lt_of_le (hm.lt b h) hb.size) (fun h => h.2), hb.size, hm.sX⟩, ?_, fun b h => h.elim .inl fun h => .inr (.inl h.1), Le.refl _ _⟩
  refine ⟨[_, _, _], rfl, ?_⟩
  simp only [I, VRs, VR]
  exact ⟨_, _, rfl, hd1, _, _, rfl, by simp [D.is, Value.oneCell'], _, _, rfl, by simp [D.is, Value.oneCell'], rfl⟩
end Go.Proofs.Ytabfajhflaladaa.Sim
