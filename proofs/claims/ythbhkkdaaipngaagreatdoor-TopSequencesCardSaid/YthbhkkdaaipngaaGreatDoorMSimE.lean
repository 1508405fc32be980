/- Arrays of the call's own are written and grow: of no program. Conditions: none. -/
import Derived.Test.YthbhkkdaaipngaaGreatDoorMSimD
namespace Go.Proofs.YthbhkkdaaipngaaGreatDoor.Sim
open Go Go.RowKit Go.Deep
set_option linter.unusedVariables false

section
variable {w w' : World} {S T : Nat → Prop}
theorem splice_left {α : Type} {a r c : List α} {o : Nat} (h : o + c.length ≤ a.length) : splice (a ++ r) o c = splice a o c ++ r := by
  unfold splice
  rw [List.take_append_of_le_length (by omega), List.drop_append_of_le_length h]
  simp
theorem splice_right {α : Type} {a r c : List α} {o : Nat} : splice (a ++ r) (a.length + o) c = a ++ splice r o c := by
  unfold splice
  rw [List.take_append, List.drop_append]
  simp only [Nat.add_sub_cancel_left, List.append_assoc]
  rw [List.take_of_length_le (by omega), List.drop_of_length_le (by omega), List.nil_append, show a.length + o + c.length - a.length = o + c.length by omega]
theorem length_splice {α : Type} {l c : List α} {o : Nat} (h : o + c.length ≤ l.length) : (splice l o c).length = l.length := by
  unfold splice; simp; omega
theorem range_splice {g off o : Nat} {xs vs : List Value} (h : w.rangeAt g off xs) (ht : w.there g (off + o) vs.length) (hle : o + vs.length ≤ xs.length) : (w.setCells g (off + o) vs).rangeAt g off (splice xs o vs) := by
  intro j v hj
  unfold splice at hj
  have htl : (xs.take o).length = o := by rw [List.length_take]; omega
  rcases Nat.lt_or_ge j o with h1 | h1
  · rw [List.getElem?_append_left (by omega), List.getElem?_take_of_lt h1] at hj
    rw [World.cell?_setCells_out g vs (off + o) w ⟨g, off + j, none⟩ (fun _ _ => .inl (by show off + j < _; omega))]
    exact h j v hj
  · rw [List.getElem?_append_right (by omega), htl] at hj
    rcases Nat.lt_or_ge (j - o) vs.length with h2 | h2
    · rw [List.getElem?_append_left h2] at hj
      have := World.rangeAt_setCells_same w g (off + o) vs ht (j - o) v hj
      rw [show off + o + (j - o) = off + j by omega] at this
      exact this
    · rw [List.getElem?_append_right h2, List.getElem?_drop] at hj
      rw [World.cell?_setCells_out g vs (off + o) w ⟨g, off + j, none⟩ (fun _ _ => .inr (by show _ ≤ off + j; omega))]
      refine h j v ?_
      rw [← hj]; congr 1; omega
theorem Cells.append {l l' : List D} {xs xs' : List Value} (h : Cells w S l xs) (h' : Cells w S l' xs') : Cells w S (l ++ l') (xs ++ xs') := by
  induction l generalizing xs with
  | nil => simp only [Cells] at h; subst h; exact h'
  | cons d l ih => simp only [Cells] at h; obtain ⟨x, r, rfl, h1, h2⟩ := h; exact ⟨x, r ++ xs', rfl, h1, ih h2⟩
theorem Cells.drop {l : List D} {xs : List Value} (h : Cells w S l xs) : ∀ n, Cells w S (l.drop n) (xs.drop n) := by
  induction l generalizing xs with
  | nil => simp only [Cells] at h; subst h; intro n; simp [Cells]
  | cons d l ih =>
    have h0 := h
    simp only [Cells] at h; obtain ⟨x, r, rfl, h1, h2⟩ := h
    intro n
    cases n with
    | zero => exact h0
    | succ n => exact ih h2 n
theorem Cells.take {l : List D} {xs : List Value} (h : Cells w S l xs) : ∀ n, Cells w S (l.take n) (xs.take n) := by
  induction l generalizing xs with
  | nil => simp only [Cells] at h; subst h; intro n; simp [Cells]
  | cons d l ih =>
    simp only [Cells] at h; obtain ⟨x, r, rfl, h1, h2⟩ := h
    intro n
    cases n with
    | zero => simp [Cells]
    | succ n => exact ⟨x, _, by simp, h1, ih h2 n⟩
theorem Rows.append {k : Nat} {l l' : List (List D)} {xs xs' : List Value} (h : Rows w S k l xs) (h' : Rows w S k l' xs') : Rows w S k (l ++ l') (xs ++ xs') := by
  induction l generalizing xs with
  | nil => simp only [Rows] at h; subst h; exact h'
  | cons c l ih => simp only [Rows] at h; obtain ⟨a, r, rfl, h0, h1, h2⟩ := h; exact ⟨a, r ++ xs', by rw [List.append_assoc], h0, h1, ih h2⟩
theorem Rows.len {k : Nat} {l : List (List D)} {xs : List Value} (h : Rows w S k l xs) : xs.length = l.length * k := by
  induction l generalizing xs with
  | nil => simp only [Rows] at h; simp [h]
  | cons c l ih => simp only [Rows] at h; obtain ⟨a, r, rfl, h0, h1, h2⟩ := h; rw [List.length_append, h1.len, ih h2, h0, List.length_cons, Nat.add_mul]; omega
theorem Rows.one {k : Nat} {l : List (List D)} {xs : List Value} (h : Rows w S k l xs) : ∀ u ∈ xs, u.oneCell' = true := by
  induction l generalizing xs with
  | nil => simp only [Rows] at h; simp [h]
  | cons c l ih =>
    simp only [Rows] at h
    obtain ⟨a, r, rfl, h0, h1, h2⟩ := h
    intro u hu
    rcases List.mem_append.1 hu with hu | hu
    · exact h1.one u hu
    · exact ih h2 u hu
/-- Cells of an element are written. -/
theorem Rows.put {k o : Nat} {ds : List D} {vs : List Value} (hd : Cells w S ds vs) (ho : o + ds.length ≤ k) : ∀ {l : List (List D)} {xs : List Value} {e : Nat}, Rows w S k l xs → e < l.length → Rows w S k (l.set e (splice (l.getD e []) o ds)) (splice xs (e * k + o) vs)
  | [], _, _, _, he => by simp at he
  | c :: l, xs, e, h, he => by
    simp only [Rows] at h
    obtain ⟨a, r, rfl, h0, h1, h2⟩ := h
    have hal := h1.len
    have hvl := hd.len
    cases e with
    | zero =>
      rw [Nat.zero_mul, Nat.zero_add, splice_left (by omega)]
      refine ⟨splice a o vs, r, rfl, ?_, ?_, h2⟩
      · simp only [List.getD_cons_zero]; rw [length_splice (by omega)]; exact h0
      · simp only [List.getD_cons_zero]
        unfold splice
        rw [hvl]
        exact (h1.take _).append (hd.append (h1.drop _))
    | succ e =>
      rw [show (e + 1) * k + o = a.length + (e * k + o) by rw [Nat.add_mul, hal, h0]; omega, splice_right]
      exact ⟨a, _, rfl, h0, h1, Rows.put hd ho h2 (by simpa using he)⟩
/-- Element e. -/
theorem Rows.get {k : Nat} : ∀ {l : List (List D)} {xs : List Value} {e : Nat}, Rows w S k l xs → e < l.length → (l.getD e []).length = k ∧ ∃ cs, Cells w S (l.getD e []) cs ∧ ∀ j u, cs[j]? = some u → xs[e * k + j]? = some u
  | [], _, _, _, he => by simp at he
  | c :: l, xs, e, h, he => by
    simp only [Rows] at h
    obtain ⟨a, r, rfl, h0, h1, h2⟩ := h
    have hal := h1.len
    cases e with
    | zero =>
      refine ⟨by simpa using h0, a, by simpa using h1, fun j u hu => ?_⟩
      rw [Nat.zero_mul, Nat.zero_add, List.getElem?_append_left (List.getElem?_eq_some_iff.1 hu).1]
      exact hu
    | succ e =>
      obtain ⟨h3, cs, h4, h5⟩ := Rows.get h2 (e := e) (by simpa using he)
      refine ⟨by simpa using h3, cs, by simpa using h4, fun j u hu => ?_⟩
      rw [show (e + 1) * k + j = a.length + (e * k + j) by rw [Nat.add_mul, hal, h0]; omega, List.getElem?_append_right (by omega), Nat.add_sub_cancel_left]
      exact h5 j u hu
theorem Rows.take {k : Nat} : ∀ {l : List (List D)} {xs : List Value} (n : Nat), Rows w S k l xs → Rows w S k (l.take n) (xs.take (n * k))
  | [], xs, n, h => by simp only [Rows] at h; subst h; simp [Rows]
  | c :: l, xs, 0, h => by simp [Rows]
  | c :: l, xs, n + 1, h => by
    simp only [Rows] at h
    obtain ⟨a, r, rfl, h0, h1, h2⟩ := h
    have hal := h1.len
    refine ⟨a, r.take (n * k), ?_, h0, h1, Rows.take n h2⟩
    rw [Nat.add_mul, Nat.one_mul, List.take_append, List.take_of_length_le (by omega), show n * k + k - a.length = n * k by omega]
theorem Rows.drop {k : Nat} : ∀ {l : List (List D)} {xs : List Value} (n : Nat), Rows w S k l xs → Rows w S k (l.drop n) (xs.drop (n * k))
  | [], xs, n, h => by simp only [Rows] at h; subst h; simp [Rows]
  | c :: l, xs, 0, h => by simpa using h
  | c :: l, xs, n + 1, h => by
    simp only [Rows] at h
    obtain ⟨a, r, rfl, h0, h1, h2⟩ := h
    have hal := h1.len
    have e0 : a.drop (n * k + k) = [] := List.drop_of_length_le (by omega)
    rw [List.drop_succ_cons, Nat.add_mul, Nat.one_mul, List.drop_append, e0, List.nil_append, show n * k + k - a.length = n * k by omega]
    exact Rows.drop n h2

/-- APPEND. -/
theorem run_append_arr {P : Program} {X : Nat → Prop} {B k : Nat} {v : Value} {l ns : List (List D)} (t tx ty e : TypeId) (i : TypeInfo) (z : Value) (bytes : Nat) (ht : P.underlying t = some (.slice e)) (hi : P.info? e = some i) (hz : i.zero = some z) (hsize : i.size = k) (hby : i.bytes = bytes) (hzs : z.cells.size = k)
    (h : Arr w B X T k v l) (hBw : B ≤ w.heap.size) (hT : ∀ b, T b → b < w.heap.size) (x : Value) (news : List Value) (hs : Src P k tx x ns.length news w) (hn : Rows w T k ns news) (h63 : l.length + ns.length ≤ 140737488355328) (hbytes : (l.length + ns.length) * bytes ≤ 140737488355328) :
    ∃ v' w', (Builtin.append_ #[t, tx] ty #[v, x]).run P w = .ok v' w' ∧ Arr w' B X T k v' (l ++ ns) ∧ w.grownBy w' (blk v) ∧ (∀ b, blk v' = some b → blk v = some b ∨ b = w.heap.size) := by
  obtain ⟨xs, hx, h⟩ := h
  have hmax : l.length + ns.length ≤ maxLen := by unfold maxLen; omega
  have hlen := hn.len
  have fin : ∀ (row : Option Nat) (v' : Value) (w' : World), w.grownBy w' row → row = blk v → (∀ b, row = some b → ¬ T b ∧ (B ≤ b ∨ X b)) → Own w' 0 k v' (l.length + ns.length) (xs ++ news) → (v'.ownBlock = row ∨ v'.ownBlock = some w.heap.size ∨ ∃ a, v' = .slice a 0 0) → (l.length + ns.length = 0 ∨ 0 < l.length + ns.length) →
      Arr w' B X T k v' (l ++ ns) ∧ w.grownBy w' (blk v) ∧ (∀ b, blk v' = some b → blk v = some b ∨ b = w.heap.size) := by
    intro row v' w' hg hrow hTr ho hb _
    have hkeep : ∀ b, T b → b < w.heap.size → T b ∧ w'.heap[b]? = w.heap[b]? := fun b hb hlt => ⟨hb, hg.block b hlt fun e => (hTr b e.symm).1 hb⟩
    have hrows : Rows w' T k (l ++ ns) (xs ++ news) := (Rows.keep hkeep _ _ _ hx).append (Rows.keep hkeep _ _ _ hn)
    have hbk : ∀ b, blk v' = some b → row = some b ∨ b = w.heap.size := by
      intro b hb'
      rcases hb with e | e | ⟨a, e⟩
      · left
        rw [← e]
        cases v' with
        | slice a n c => cases a <;> cases c <;> simp_all [blk, Value.ownBlock]
        | pointer a =>
          rcases ho.2 with ⟨e', _⟩ | ⟨_, _, _, e', _⟩ <;> cases e'
        | map a =>
          rcases ho.2 with ⟨e', _⟩ | ⟨_, _, _, e', _⟩ <;> cases e'
        | _ => simp [blk] at hb'
      · right
        cases v' with
        | slice a n c => cases a <;> cases c <;> simp_all [blk, Value.ownBlock]
        | pointer a =>
          rcases ho.2 with ⟨e', _⟩ | ⟨_, _, _, e', _⟩ <;> cases e'
        | map a =>
          rcases ho.2 with ⟨e', _⟩ | ⟨_, _, _, e', _⟩ <;> cases e'
        | _ => simp [blk] at hb'
      · rw [e] at hb'; cases a <;> simp [blk] at hb'
    refine ⟨⟨_, hrows, ?_⟩, hrow ▸ hg, fun b hb' => by rw [← hrow]; exact hbk b hb'⟩
    rcases ho.2 with ⟨rfl, h0⟩ | ⟨g, off, cap, rfl, hB, hlt, hnc, hc, hth, hr⟩
    · exact .inl ⟨none, rfl, List.eq_nil_of_length_eq_zero (by rw [List.length_append]; exact h0)⟩
    · rcases Nat.eq_zero_or_pos cap with hc0 | hc0
      · exact .inl ⟨_, by rw [hc0, show l.length + ns.length = 0 by omega], List.eq_nil_of_length_eq_zero (by rw [List.length_append]; omega)⟩
      · refine .inr ⟨g, off, cap, by rw [List.length_append], hc0, ?_, hlt, fun hTg => ?_, by rw [List.length_append]; exact hnc, hc, hth, hr⟩
        · rcases hbk g (by cases cap with | zero => omega | succ c => rfl) with e | e
          · exact (hTr g e).2
          · exact .inl (by omega)
        · rcases hbk g (by cases cap with | zero => omega | succ c => rfl) with e | e
          · exact (hTr g e).1 hTg
          · have := hT g hTg; omega
  rcases h with ⟨a, rfl, rfl⟩ | ⟨g, off, cap, rfl, h0, hB, hlt, hTg, hn', hc, hth, hr⟩
  · simp only [Rows] at hx
    subst hx
    rcases Nat.eq_zero_or_pos ns.length with hm0 | hm0
    · have hns : ns = [] := List.eq_nil_of_length_eq_zero hm0
      subst hns
      have hnw : news = [] := List.eq_nil_of_length_eq_zero (by simpa using hlen)
      subst hnw
      refine ⟨_, w, run_append_nothing w t tx ty e i ht hi a 0 0 (Nat.le_refl _) x (by rw [hsize]; exact hs), ⟨[], by simp [Rows], .inl ⟨a, rfl, rfl⟩⟩, World.grownBy.refl w _, fun b hb => by cases a <;> simp [blk] at hb⟩
    · have hfit := growslice_fits (old := 0) (need := 0 + ns.length) (bytes := i.bytes) (by omega) (by rw [hby]; simpa using hbytes)
      have hold : (Builtin.firstCells i.size 0 (.slice a 0 0)).run P w.drew = .ok ([] : List Value).toArray w.drew := by
        cases a with
        | none => exact run_firstCells_none (P := P) w.drew i.size 0 0 0
        | some a => exact run_firstCells_some (P := P) w.drew i.size 0 a 0 0 [] (by simp) (fun j u hu => by simp at hu)
      have hrun := run_append_grow_src (P := P) w t tx ty e i z ht hi hz a 0 0 [] hold x ns.length news (by rw [hsize]; exact hs) (by omega) (by omega) hfit
      have hge := grownCap_ge w (0 + ns.length) 0 e
      have hcm := grownCap_le_maxLen w (0 + ns.length) 0 e (by simpa using hmax)
      have hsz : (([] ++ news).toArray ++ Builtin.zeroCells z.cells (grownCap w (0 + ns.length) 0 e - (0 + ns.length))).size = grownCap w (0 + ns.length) 0 e * k := by
        rw [Array.size_append, List.size_toArray, List.nil_append, hlen, size_zeroCells, hzs, ← Nat.add_mul]
        congr 1
        omega
      have hg : w.grownBy (w.drew.alloc (.cells (([] ++ news).toArray ++ Builtin.zeroCells z.cells (grownCap w (0 + ns.length) 0 e - (0 + ns.length))) e)) none := ⟨rfl, rfl, rfl, by simp, fun k hk _ => Below.heap_alloc w.drew _ k hk⟩
      refine ⟨_, _, hrun, fin none _ _ hg (by cases a <;> rfl) (fun b e => by cases e) ⟨by simpa using hlen, .inr ⟨w.heap.size, 0, _, by simp, Nat.zero_le _, by simp, by simpa using hge, hcm, fun j hj => ?_, fun j u hu => ?_⟩⟩ (.inr (.inl rfl)) (.inr (by omega))⟩
      · have e1 := World.cell?_alloc_new w.drew (([] ++ news).toArray ++ Builtin.zeroCells z.cells (grownCap w (0 + ns.length) 0 e - (0 + ns.length))) e j
        have e2 : w.drew.heap.size = w.heap.size := rfl
        rw [e2] at e1
        simp only [Nat.zero_add] at e1 hsz hj ⊢
        rw [e1, Array.getElem?_eq_getElem (by rw [hsz]; exact hj)]
        exact ⟨rfl, World.frozen?_alloc_new w.drew _ _ j⟩
      · have e1 := World.cell?_alloc_new w.drew (([] ++ news).toArray ++ Builtin.zeroCells z.cells (grownCap w (0 + ns.length) 0 e - (0 + ns.length))) e j
        have e2 : w.drew.heap.size = w.heap.size := rfl
        rw [e2] at e1
        have hj : j < news.length := by
          rcases Nat.lt_or_ge j news.length with h | h
          · exact h
          · rw [List.getElem?_eq_none (by simpa using h)] at hu; cases hu
        simp only [Nat.zero_add] at e1 ⊢
        rw [e1, Array.getElem?_append_left (by simpa using hj), List.getElem?_toArray]
        exact hu
  · have hown : Own w 0 k (.slice (some ⟨g, off, none⟩) l.length cap) l.length xs := ⟨hx.len, .inr ⟨g, off, cap, rfl, Nat.zero_le _, hlt, hn', hc, hth, hr⟩⟩
    obtain ⟨v', w', r1, r2, r3, r4⟩ := run_append_mine (P := P) t tx ty e i z bytes ht hi hz hsize hby hzs hown (Nat.zero_le _) x ns.length news hs hmax hbytes
    have hbl : blk (.slice (some ⟨g, off, none⟩) l.length cap) = some g := by cases cap with | zero => omega | succ c => rfl
    exact ⟨v', w', r1, fin (some g) v' w' r3 hbl.symm (fun b e => by cases e; exact ⟨hTg, hB⟩) r2 (r4.elim .inl fun h => .inr (.inl h)) (by omega)⟩
/-- .. to a slice that has no room. -/
theorem run_append_full {P : Program} {X : Nat → Prop} {B k g off : Nat} {l ns : List (List D)} {xs : List Value} (t tx ty e : TypeId) (i : TypeInfo) (z : Value) (bytes : Nat) (ht : P.underlying t = some (.slice e)) (hi : P.info? e = some i) (hz : i.zero = some z) (hsize : i.size = k) (hby : i.bytes = bytes) (hzs : z.cells.size = k)
    (hx : Rows w T k l xs) (hra : w.rangeAt g off xs) (hBw : B ≤ w.heap.size) (hT : ∀ b, T b → b < w.heap.size) (x : Value) (news : List Value) (hs : Src P k tx x ns.length news w) (hn : Rows w T k ns news) (hn0 : 0 < ns.length) (h63 : l.length + ns.length ≤ 140737488355328) (hbytes : (l.length + ns.length) * bytes ≤ 140737488355328) :
    ∃ v' w', (Builtin.append_ #[t, tx] ty #[.slice (some ⟨g, off, none⟩) l.length l.length, x]).run P w = .ok v' w' ∧ Arr w' B X T k v' (l ++ ns) ∧ w.grownBy w' none ∧ (∀ b, blk v' = some b → b = w.heap.size) := by
  have hmax : l.length + ns.length ≤ maxLen := by unfold maxLen; omega
  have hlen := hn.len
  have hxl := hx.len
  have hfit := growslice_fits (old := l.length) (need := l.length + ns.length) (bytes := i.bytes) (by omega) (by rw [hby]; exact hbytes)
  have hold : (Builtin.firstCells i.size l.length (.slice (some ⟨g, off, none⟩) l.length l.length)).run P w.drew = .ok xs.toArray w.drew := by
    refine run_firstCells_some (P := P) w.drew i.size l.length ⟨g, off, none⟩ l.length l.length xs (by rw [hxl, hsize]) (fun j u hu => ?_)
    rw [Addr.add_lit]
    exact hra j u hu
  have hrun := run_append_grow_src (P := P) w t tx ty e i z ht hi hz (some ⟨g, off, none⟩) l.length l.length xs hold x ns.length news (by rw [hsize]; exact hs) (by omega) (by omega) hfit
  have hge := grownCap_ge w (l.length + ns.length) l.length e
  have hcm := grownCap_le_maxLen w (l.length + ns.length) l.length e hmax
  have hxn : (xs ++ news).length = (l.length + ns.length) * k := by rw [List.length_append, hxl, hlen, Nat.add_mul]
  have hsz : ((xs ++ news).toArray ++ Builtin.zeroCells z.cells (grownCap w (l.length + ns.length) l.length e - (l.length + ns.length))).size = grownCap w (l.length + ns.length) l.length e * k := by
    rw [Array.size_append, List.size_toArray, hxn, size_zeroCells, hzs, ← Nat.add_mul]
    congr 1
    omega
  have hg : w.grownBy (w.drew.alloc (.cells ((xs ++ news).toArray ++ Builtin.zeroCells z.cells (grownCap w (l.length + ns.length) l.length e - (l.length + ns.length))) e)) none := ⟨rfl, rfl, rfl, by simp, fun k hk _ => Below.heap_alloc w.drew _ k hk⟩
  have hkeep : ∀ b, T b → b < w.heap.size → T b ∧ (w.drew.alloc (.cells ((xs ++ news).toArray ++ Builtin.zeroCells z.cells (grownCap w (l.length + ns.length) l.length e - (l.length + ns.length))) e)).heap[b]? = w.heap[b]? := fun b hb hlt => ⟨hb, hg.block b hlt fun e => by cases e⟩
  have hrows := (Rows.keep hkeep _ _ _ hx).append (Rows.keep hkeep _ _ _ hn)
  have hbl : ∀ b c, blk (.slice (some ⟨w.heap.size, 0, none⟩) c (grownCap w (l.length + ns.length) l.length e)) = some b → b = w.heap.size := fun b c hb => by
    revert hb
    cases grownCap w (l.length + ns.length) l.length e with
    | zero => intro hb; simp [blk] at hb
    | succ n => intro hb; simp [blk] at hb; exact hb.symm
  refine ⟨_, _, hrun, ⟨_, hrows, .inr ⟨w.heap.size, 0, _, by rw [List.length_append], by omega, .inl hBw, by simp, fun h => by have := hT _ h; omega, by rw [List.length_append]; exact hge, hcm, fun j hj => ?_, fun j u hu => ?_⟩⟩, hg, fun b hb => hbl b _ hb⟩
  · have e1 := World.cell?_alloc_new w.drew ((xs ++ news).toArray ++ Builtin.zeroCells z.cells (grownCap w (l.length + ns.length) l.length e - (l.length + ns.length))) e j
    have e2 : w.drew.heap.size = w.heap.size := rfl
    rw [e2] at e1
    simp only [Nat.zero_add]
    rw [e1, Array.getElem?_eq_getElem (by rw [hsz]; exact hj)]
    exact ⟨rfl, World.frozen?_alloc_new w.drew _ _ j⟩
  · have e1 := World.cell?_alloc_new w.drew ((xs ++ news).toArray ++ Builtin.zeroCells z.cells (grownCap w (l.length + ns.length) l.length e - (l.length + ns.length))) e j
    have e2 : w.drew.heap.size = w.heap.size := rfl
    rw [e2] at e1
    have hj : j < (xs ++ news).length := by
      rcases Nat.lt_or_ge j (xs ++ news).length with h | h
      · exact h
      · rw [List.getElem?_eq_none h] at hu; cases hu
    simp only [Nat.zero_add]
    rw [e1, Array.getElem?_append_left (by simpa using hj), List.getElem?_toArray]
    exact hu
end
end Go.Proofs.YthbhkkdaaipngaaGreatDoor.Sim
