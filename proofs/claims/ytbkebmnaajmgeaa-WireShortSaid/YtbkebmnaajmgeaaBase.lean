/- Slices of the call's own, appended to again and again, and slices that are only read: of no program. Conditions: none. -/
import Derived.Deep.Upon
import Derived.Deep.DeepAppendWide
import Derived.WalkSpells
import Derived.WalkLawsBesides
import Derived.Outline
import Derived.OwnWalk
import Derived.Deep.DeepFit
import Derived.Deep.LoopGhost
import Derived.Deep.QuietTactic
import Derived.BigQuiet
import Derived.Deep.DeepCutAuto
import Derived.Deep.RegionHeld3
import Derived.Deep.MidRow
import Derived.Deep.RegionLaw
import Derived.Below
import Derived.Maps.AppendAt
import Derived.OwnWalkIn
import Derived.WalkKit
import Derived.Lib.ConvBytes
import Derived.Lib.Hide
import Derived.Deep.OwnShut
import Derived.Deep.Draws
import Derived.Laws.BytesArg
namespace Go.Proofs.Ytbkebmnaajmgeaa
open Go Go.RowKit Go.Deep
set_option linter.unusedVariables false

/-- A slice whose cells lie in a block from B on, all of them there and none frozen: the call's own. -/
def Own (w : World) (B sz : Nat) (v : Value) (n : Nat) (xs : List Value) : Prop :=
  xs.length = n * sz ∧ ((v = .slice none 0 0 ∧ n = 0) ∨ ∃ g off cap, v = .slice (some ⟨g, off, none⟩) n cap ∧ B ≤ g ∧ g < w.heap.size ∧ n ≤ cap ∧ cap ≤ maxLen ∧ w.there g off (cap * sz) ∧ w.rangeAt g off xs)

/-- A slice that is read: its cells lie in a block below B. -/
def Rd (w : World) (B sz : Nat) (v : Value) (n : Nat) (xs : List Value) : Prop :=
  xs.length = n * sz ∧ ∃ a cap, v = .slice a n cap ∧ n ≤ cap ∧ cap ≤ maxLen ∧ (0 < n → ∃ g off, a = some ⟨g, off, none⟩ ∧ g < B ∧ w.rangeAt g off xs)

section
variable {w w' : World} {B B' sz n : Nat} {v : Value} {xs : List Value}

theorem size_setCells (g : Nat) : ∀ (vs : List Value) (o : Nat) (w : World), (w.setCells g o vs).heap.size = w.heap.size ∧ (w.setCells g o vs).tape = w.tape
  | [], o, w => ⟨rfl, rfl⟩
  | v :: vs, o, w => by
    have := size_setCells g vs (o + 1) (w.setCell ⟨g, o, none⟩ v)
    exact ⟨this.1.trans (by simp [World.setCell]), this.2.trans rfl⟩
theorem Own.nil (w : World) (B sz : Nat) : Own w B sz (.slice none 0 0) 0 [] := ⟨by simp, .inl ⟨rfl, rfl⟩⟩
theorem Own.mono (h : Own w B sz v n xs) (hB : B' ≤ B) : Own w B' sz v n xs :=
  ⟨h.1, h.2.imp id fun ⟨g, off, cap, hv, hg, r⟩ => ⟨g, off, cap, hv, Nat.le_trans hB hg, r⟩⟩

theorem rangeAt_congr {g off : Nat} {xs : List Value} (h : w.rangeAt g off xs) (hb : w'.heap[g]? = w.heap[g]?) : w'.rangeAt g off xs :=
  fun j u hu => (World.cell?_of_block (a := ⟨g, off + j, none⟩) hb).trans (h j u hu)
theorem there_congr {g off k : Nat} (h : w.there g off k) (hb : w'.heap[g]? = w.heap[g]?) : w'.there g off k :=
  fun j hj => ⟨by rw [World.cell?_of_block (a := ⟨g, off + j, none⟩) hb]; exact (h j hj).1, by rw [World.frozen?_of_block (a := ⟨g, off + j, none⟩) hb]; exact (h j hj).2⟩

theorem Own.congr (h : Own w B sz v n xs) (hs : w.heap.size ≤ w'.heap.size) (hb : ∀ g, v.ownBlock = some g → w'.heap[g]? = w.heap[g]?) : Own w' B sz v n xs := by
  refine ⟨h.1, h.2.imp id fun ⟨g, off, cap, hv, hg, hlt, hn, hc, ht, hr⟩ => ?_⟩
  have hb' := hb g (by rw [hv]; rfl)
  exact ⟨g, off, cap, hv, hg, Nat.lt_of_lt_of_le hlt hs, hn, hc, there_congr ht hb', rangeAt_congr hr hb'⟩
theorem Own.lt (h : Own w B sz v n xs) {g : Nat} (hg : v.ownBlock = some g) : g < w.heap.size ∧ B ≤ g := by
  rcases h.2 with ⟨rfl, _⟩ | ⟨g', off, cap, rfl, hB, hlt, _⟩
  · simp [Value.ownBlock] at hg
  · simp [Value.ownBlock] at hg; subst hg; exact ⟨hlt, hB⟩
theorem Own.grown (h : Own w B sz v n xs) {row : Option Nat} (hg : w.grownBy w' row) (hne : v.ownBlock ≠ row) : Own w' B sz v n xs :=
  h.congr hg.size fun g e => hg.block g (h.lt e).1 (fun e' => hne (e.trans e'))
theorem Own.below (h : Own w B sz v n xs) {k : Nat} (hb : Below k w w') (hk : ∀ g, v.ownBlock = some g → g < k) : Own w' B sz v n xs :=
  h.congr hb.size fun g e => hb.block g (hk g e)
theorem Own.alloc (h : Own w B sz v n xs) (o : Obj) : Own (w.alloc o) B sz v n xs :=
  h.congr (by simp) fun g e => Below.heap_alloc w o g (h.lt e).1
theorem Own.drew (h : Own w B sz v n xs) : Own w.drew B sz v n xs := h
theorem Own.drewN (h : Own w B sz v n xs) (k : Nat) : Own (w.drewN k) B sz v n xs := h
theorem Own.far (h : Own w B sz v n xs) {p : Addr} (hp : v.ownBlock ≠ some p.block) (u : Value) : Own (w.setCell p u) B sz v n xs :=
  h.congr (by simp [World.setCell]) fun g e => Below.heap_setCell w p u g (fun e' => hp (by rw [e, e']))
theorem Own.len (h : Own w B sz v n xs) : n ≤ maxLen := by
  rcases h.2 with ⟨_, rfl⟩ | ⟨_, _, _, _, _, _, hn, hc, _⟩
  · exact Nat.zero_le _
  · omega
theorem Own.form (h : Own w B sz v n xs) : ∃ a cap, v = .slice a n cap := by
  rcases h.2 with ⟨rfl, rfl⟩ | ⟨g, off, cap, rfl, _⟩
  · exact ⟨_, _, rfl⟩
  · exact ⟨_, _, rfl⟩
theorem Own.rd (h : Own w B sz v n xs) : Rd w w.heap.size sz v n xs := by
  refine ⟨h.1, ?_⟩
  rcases h.2 with ⟨rfl, rfl⟩ | ⟨g, off, cap, rfl, _, hlt, hn, hc, _, hr⟩
  · exact ⟨none, 0, rfl, Nat.le_refl _, Nat.zero_le _, fun h => absurd h (Nat.lt_irrefl _)⟩
  · exact ⟨_, cap, rfl, hn, hc, fun _ => ⟨g, off, rfl, hlt, hr⟩⟩

/-- A cell of a slice of the call's own is written. -/
theorem Own.set_ {a : Option Addr} {c : Nat} (h : Own w B 1 (.slice a n c) n xs) {i : Nat} (hi : i < n) (u : Value) :
    ∃ g off, a = some ⟨g, off, none⟩ ∧ B ≤ g ∧ g < w.heap.size ∧ w.cell? ⟨g, off + i, none⟩ = xs[i]? ∧ w.frozen? ⟨g, off + i, none⟩ = false ∧ Own (w.setCell ⟨g, off + i, none⟩ u) B 1 (.slice a n c) n (xs.set i u) := by
  rcases h.2 with ⟨he, rfl⟩ | ⟨g, off, cap, he, hB, hlt, hn, hc, ht, hr⟩
  · omega
  · injection he with h1 h2 h3
    subst h1
    subst h3
    have hl : xs.length = n := by simpa using h.1
    have hx : xs[i]? = some (xs[i]'(by omega)) := List.getElem?_eq_getElem (by omega)
    have hcell := hr i _ hx
    refine ⟨g, off, rfl, hB, hlt, by rw [hcell, hx], (ht i (by omega)).2, ⟨by simp [hl], .inr ⟨g, off, c, rfl, hB, by simpa [World.setCell] using hlt, hn, hc, fun j hj => ?_, fun j v hj => ?_⟩⟩⟩
    · have := ht j hj
      refine ⟨?_, by rw [World.frozen?_setCell]; exact this.2⟩
      by_cases hij : j = i
      · subst hij
        rw [World.cell?_setCell_same' _ _ _ this.1]; rfl
      · rw [World.cell?_setCell_other _ _ _ _ (fun e => hij (by injection e with e1 e2; omega))]
        exact this.1
    · by_cases hij : j = i
      · subst hij
        rw [List.getElem?_set_self (by omega)] at hj
        rw [World.cell?_setCell_same' _ _ _ (by rw [hcell]; rfl)]
        exact hj
      · rw [List.getElem?_set_ne (fun e => hij e.symm)] at hj
        rw [World.cell?_setCell_other _ _ _ _ (fun e => hij (by injection e with e1 e2; omega))]
        exact hr j v hj
/-- A row just as the argument's. -/
theorem rd_row {k : IntKind} {x : Addr} {n cap : Nat} {zs : List Int} (hl : n ≤ cap) (hm : cap ≤ maxLen) (hz : zs.length = cap) (hcell : ∀ i, i < zs.length → w.cell? (x.add i) = some (.int k (zs.getD i 0))) :
    Rd w w.heap.size 1 (.slice (some x) n cap) n ((zs.take n).map (Value.int k)) := by
  refine ⟨by simp; omega, _, _, rfl, hl, hm, fun h0 => ?_⟩
  obtain ⟨b, off, spot⟩ := x
  have hc := hcell 0 (by omega)
  have hspot : spot = none := by simpa [Addr.add] using World.cell?_spot hc
  subst hspot
  refine ⟨b, off, rfl, block_lt_of_cell hc, fun j u hu => ?_⟩
  have hj : j < n := by
    rcases Nat.lt_or_ge j n with h | h
    · exact h
    · rw [List.getElem?_eq_none (by simp; omega)] at hu; cases hu
  have := hcell j (by omega)
  rw [show (⟨b, off, none⟩ : Addr).add j = ⟨b, off + j, none⟩ from Addr.add_lit _ _ _] at this
  rw [this]
  rw [List.getElem?_map, List.getElem?_take_of_lt hj] at hu
  rw [List.getD_eq_getElem?_getD]
  cases h : zs[j]? with
  | none => rw [h] at hu; cases hu
  | some y => rw [h] at hu; exact hu
theorem rd_nil (w : World) (B : Nat) (k : IntKind) : Rd w B 1 (.slice none 0 0) 0 (([] : List Int).map (Value.int k)) :=
  ⟨by simp, none, 0, rfl, Nat.le_refl _, Nat.zero_le _, fun h => absurd h (Nat.lt_irrefl _)⟩

theorem Rd.below (h : Rd w B sz v n xs) {k : Nat} (hb : Below k w w') (hk : B ≤ k) : Rd w' B sz v n xs := by
  obtain ⟨hl, a, cap, hv, hn, hc, hr⟩ := h
  exact ⟨hl, a, cap, hv, hn, hc, fun h0 => let ⟨g, off, ha, hg, hr'⟩ := hr h0; ⟨g, off, ha, hg, rangeAt_congr hr' (hb.block g (by omega))⟩⟩
theorem Rd.more (h : Rd w B sz v n xs) (hB : B ≤ B') : Rd w B' sz v n xs := by
  obtain ⟨hl, a, cap, hv, hn, hc, hr⟩ := h
  exact ⟨hl, a, cap, hv, hn, hc, fun h0 => let ⟨g, off, ha, hg, hr'⟩ := hr h0; ⟨g, off, ha, by omega, hr'⟩⟩
theorem Rd.drew (h : Rd w B sz v n xs) : Rd w.drew B sz v n xs := h
theorem Rd.drewN (h : Rd w B sz v n xs) (k : Nat) : Rd (w.drewN k) B sz v n xs := h
theorem Rd.form (h : Rd w B sz v n xs) : ∃ a cap, v = .slice a n cap ∧ n ≤ cap ∧ cap ≤ maxLen := by
  obtain ⟨_, a, cap, hv, hn, hc, _⟩ := h
  exact ⟨a, cap, hv, hn, hc⟩

/-- Nothing is there, or it lies at an address. -/
theorem Rd.addr {a : Option Addr} {c : Nat} (h : Rd w B sz (.slice a n c) n xs) : n = 0 ∨ ∃ g off, a = some ⟨g, off, none⟩ ∧ g < B ∧ w.rangeAt g off xs := by
  obtain ⟨hl, a', cap, hv, hn, hc, hr⟩ := h
  injection hv with h1 h2 h3
  subst h1
  rcases Nat.eq_zero_or_pos n with h0 | h0
  · exact .inl h0
  · exact .inr (hr h0)

/-- What is appended, out of a slice that is read. -/
theorem Rd.src {P : Program} {tx e' : TypeId} (hk : P.underlying tx = some (.slice e')) (h : Rd w B sz v n xs) (h1 : ∀ u ∈ xs, u.oneCell' = true) : Src P sz tx v n xs w := by
  obtain ⟨hl, a, cap, rfl, hn, hc, hr⟩ := h
  rcases Nat.eq_zero_or_pos n with h0 | h0
  · subst h0
    have hx : xs = [] := List.eq_nil_of_length_eq_zero (by simpa using hl)
    subst hx
    cases a with
    | none => exact Src.ofNil w hk cap
    | some a => exact Src.ofSlice w hk a 0 cap [] hl (fun j u hu => by simp at hu) h1
  · obtain ⟨g, off, rfl, _, hr'⟩ := hr h0
    exact Src.ofSlice w hk _ n cap xs hl (fun j u hu => by rw [Addr.add_lit]; exact hr' j u hu) h1

/-- n ELEMENTS MORE onto a slice of the call's own. -/
theorem run_append_mine {P : Program} (t tx ty e : TypeId) (i : TypeInfo) (z : Value) (bytes : Nat) (ht : P.underlying t = some (.slice e)) (hi : P.info? e = some i) (hz : i.zero = some z) (hsize : i.size = sz) (hby : i.bytes = bytes) (hzs : z.cells.size = sz)
    (h : Own w B sz v n xs) (hBw : B ≤ w.heap.size) (x : Value) (m : Nat) (news : List Value) (hs : Src P sz tx x m news w) (h63 : n + m ≤ maxLen) (hbytes : ((n + m) + (n + m) / 4 + 192) * bytes ≤ 281474976710656) :
    ∃ v' w', (Builtin.append_ #[t, tx] ty #[v, x]).run P w = .ok v' w' ∧ Own w' B sz v' (n + m) (xs ++ news) ∧ w.grownBy w' v.ownBlock ∧ (v'.ownBlock = v.ownBlock ∨ v'.ownBlock = some w.heap.size) := by
  subst hsize
  subst hby
  have hL : (xs ++ news).length = (n + m) * i.size := by rw [List.length_append, h.1, hs.newsLen, Nat.add_mul]
  have hsmall : n + m ≤ 9223372036854775807 := by simp only [maxLen] at h63; omega
  have grow : ∀ (bs : Option Addr) (sc : Nat), v = .slice bs n sc → sc < n + m →
      (Builtin.firstCells i.size n (.slice bs n sc)).run P w.drew = .ok xs.toArray w.drew →
      ∃ v' w', (Builtin.append_ #[t, tx] ty #[v, x]).run P w = .ok v' w' ∧ Own w' B i.size v' (n + m) (xs ++ news) ∧ w.grownBy w' v.ownBlock ∧ (v'.ownBlock = v.ownBlock ∨ v'.ownBlock = some w.heap.size) := by
    rintro bs sc rfl hg hold
    have hrun := run_append_grow_src (P := P) w t tx ty e i z ht hi hz bs n sc xs hold x m news hs hg (by omega) (growslice_fits_wide hg hbytes)
    have hge := grownCap_ge w (n + m) sc e
    have hcm := grownCap_le_maxLen w (n + m) sc e h63
    have hsz : ((xs ++ news).toArray ++ Builtin.zeroCells z.cells (grownCap w (n + m) sc e - (n + m))).size = grownCap w (n + m) sc e * i.size := by
      rw [Array.size_append, List.size_toArray, hL, size_zeroCells, hzs, ← Nat.add_mul]
      congr 1
      omega
    refine ⟨_, _, hrun, ⟨hL, .inr ⟨w.heap.size, 0, _, rfl, hBw, by simp, by omega, hcm, fun j hj => ?_, fun j u hu => ?_⟩⟩, ⟨rfl, rfl, rfl, by simp, fun k hk _ => Below.heap_alloc w.drew _ k hk⟩, .inr rfl⟩
    · have e1 : (w.drew.alloc (.cells ((xs ++ news).toArray ++ Builtin.zeroCells z.cells (grownCap w (n + m) sc e - (n + m))) e)).cell? ⟨w.heap.size, j, none⟩ = _ := World.cell?_alloc_new w.drew _ _ j
      rw [Nat.zero_add, e1, Array.getElem?_eq_getElem (by rw [hsz]; exact hj)]
      exact ⟨rfl, World.frozen?_alloc_new w.drew _ _ j⟩
    · have e1 : (w.drew.alloc (.cells ((xs ++ news).toArray ++ Builtin.zeroCells z.cells (grownCap w (n + m) sc e - (n + m))) e)).cell? ⟨w.heap.size, j, none⟩ = _ := World.cell?_alloc_new w.drew _ _ j
      have hj : j < (xs ++ news).length := by
        rcases Nat.lt_or_ge j (xs ++ news).length with h | h
        · exact h
        · rw [List.getElem?_eq_none h] at hu; cases hu
      rw [Nat.zero_add, e1, Array.getElem?_append_left (by simpa using hj), List.getElem?_toArray]
      exact hu
  rcases h.2 with ⟨rfl, rfl⟩ | ⟨g, off, cap, rfl, hB, hlt, hn, hc, ht', hr⟩
  · rcases Nat.eq_zero_or_pos m with h0 | h0
    · subst h0
      have hnw : news = [] := List.eq_nil_of_length_eq_zero (by simpa using hs.newsLen)
      subst hnw
      refine ⟨_, w, run_append_nothing w t tx ty e i ht hi none 0 0 (Nat.le_refl _) x hs, ?_, World.grownBy.refl w _, .inl rfl⟩
      simpa using h
    · refine grow none 0 rfl (by omega) ?_
      have hx : xs = [] := List.eq_nil_of_length_eq_zero (by simpa using h.1)
      subst hx
      exact run_firstCells_none (P := P) w.drew i.size 0 0 0
  · by_cases hfit : n + m ≤ cap
    · have hnl := hs.newsLen
      have hfit' : n * i.size + m * i.size ≤ cap * i.size := by rw [← Nat.add_mul]; exact Nat.mul_le_mul_right _ hfit
      have hth : w.there g (off + n * i.size) news.length := fun j hj => by
        have := ht' (n * i.size + j) (by omega)
        rwa [← Nat.add_assoc] at this
      have hrun := run_append_room_src (P := P) w t tx ty e i ht hi g off n cap x m news hs hfit (fun j hj => (hth j hj).1) (fun j hj => (hth j hj).2)
      refine ⟨_, _, hrun, ⟨hL, .inr ⟨g, off, cap, rfl, hB, by rw [(size_setCells _ _ _ _).1]; exact hlt, hfit, hc, World.there_setCells ht' _ _ _, fun j u hu => ?_⟩⟩, ⟨World.os_setCells _ _ _ _, (size_setCells _ _ _ _).2, World.output_setCells _ _ _ _, by rw [(size_setCells _ _ _ _).1]; exact Nat.le_refl _, fun k hk hne => World.heap_setCells_other _ _ _ _ hk (fun e => hne (by rw [e]; rfl))⟩, .inl rfl⟩
      rcases Nat.lt_or_ge j xs.length with hj | hj
      · rw [List.getElem?_append_left hj] at hu
        rw [World.cell?_setCells_out g news (off + n * i.size) w ⟨g, off + j, none⟩ (fun _ _ => .inl (by show off + j < _; have := h.1; omega))]
        exact hr j u hu
      · rw [List.getElem?_append_right hj] at hu
        have hx := h.1
        have := World.rangeAt_setCells_same w g (off + n * i.size) news hth (j - xs.length) u hu
        rw [show off + n * i.size + (j - xs.length) = off + j by omega] at this
        exact this
    · exact grow _ cap rfl (by omega) (run_firstCells_some (P := P) w.drew i.size n _ n cap xs h.1 (fun j u hu => by rw [Addr.add_lit]; exact hr j u hu))

/-- .. FOR THE WALK. -/
theorem wpList_append_mine {P : Program} {ops : Array Oper} {rest : List Oper} {o : Oper} {a : Act} {Q : Exit → Act → World → Prop} (hgd : o.guard = none) (so xo : Operand) (t tx : TypeId)
    (ho : o.op = .call { callee := .builtin .append, args := #[so, xo], argTypes := #[t, tx] })
    (e : TypeId) (i : TypeInfo) (z : Value) (bytes : Nat) (ht : P.underlying t = some (.slice e)) (hi : P.info? e = some i) (hz : i.zero = some z) (hsize : i.size = sz) (hby : i.bytes = bytes) (hzs : z.cells.size = sz)
    (hv : a.eval so = v) (h : Own w B sz v n xs) (hBw : B ≤ w.heap.size) (x : Value) (hx : a.eval xo = x) (m : Nat) (news : List Value) (hs : Src P sz tx x m news w) (h63 : n + m ≤ maxLen) (hbytes : ((n + m) + (n + m) / 4 + 192) * bytes ≤ 281474976710656)
    (hK : ∀ ad c w', Own w' B sz (.slice ad (n + m) c) (n + m) (xs ++ news) → w.grownBy w' v.ownBlock → ((Value.slice ad (n + m) c).ownBlock = v.ownBlock ∨ (Value.slice ad (n + m) c).ownBlock = some w.heap.size) → wpList P ops Q rest (a.put o.dst (.slice ad (n + m) c)) w') :
    wpList P ops Q (o :: rest) a w := by
  refine wpList_plain hgd fun K hK' => ?_
  obtain ⟨v', w', hrun, r1, r2, r3⟩ := run_append_mine (P := P) t tx o.type e i z bytes ht hi hz hsize hby hzs h hBw x m news hs h63 hbytes
  obtain ⟨ad, c, rfl⟩ := r1.form
  unfold Oper.wp
  simp [execOp, ho, resolve, invoke, builtin, hv, hx, hrun, Result.andThen]
  exact hK' _ _ (hK ad c w' r1 r2 r3)

/-- .. INSIDE A FENCE. -/
theorem wpListIn_append_mine {F : Fence} {k : Nat} {P : Program} {ops : Array Oper} {rest : List Oper} {o : Oper} {a : Act} {Q : Exit → Act → World → Prop} (hgd : o.guard = none) (so xo : Operand) (t tx : TypeId)
    (ho : o.op = .call { callee := .builtin .append, args := #[so, xo], argTypes := #[t, tx] })
    (e : TypeId) (i : TypeInfo) (z : Value) (bytes : Nat) (ht : P.underlying t = some (.slice e)) (hi : P.info? e = some i) (hz : i.zero = some z) (hsize : i.size = sz) (hby : i.bytes = bytes) (hzs : z.cells.size = sz)
    (hv : a.eval so = v) (h : Own w B sz v n xs) (hBw : B ≤ w.heap.size) (x : Value) (hx : a.eval xo = x) (m : Nat) (news : List Value) (hs : Src P sz tx x m news w) (h63 : n + m ≤ maxLen) (hbytes : ((n + m) + (n + m) / 4 + 192) * bytes ≤ 281474976710656)
    (hK : ∀ ad c w', Own w' B sz (.slice ad (n + m) c) (n + m) (xs ++ news) → w.grownBy w' v.ownBlock → ((Value.slice ad (n + m) c).ownBlock = v.ownBlock ∨ (Value.slice ad (n + m) c).ownBlock = some w.heap.size) → wpListIn F k P ops Q rest (a.put o.dst (.slice ad (n + m) c)) w') :
    wpListIn F k P ops Q (o :: rest) a w := by
  refine wpListIn_plain hgd fun K hK' => ?_
  obtain ⟨v', w', hrun, r1, r2, r3⟩ := run_append_mine (P := P) t tx o.type e i z bytes ht hi hz hsize hby hzs h hBw x m news hs h63 hbytes
  obtain ⟨ad, c, rfl⟩ := r1.form
  unfold Oper.wpIn
  refine ⟨?_, ?_⟩
  · simp [Oper.about, ho, resolve, Target.leads, Sem.run_pure]
  · rw [Oper.semAt_plain F _ _ (by rw [ho]; intro c hc'; cases hc')]
    simp [execOp, ho, resolve, invoke, builtin, hv, hx, hrun, Result.andThen]
    exact hK' _ _ (hK ad c w' r1 r2 r3)
end

/-- A call that leaves the world alone, in a region that draws. -/
theorem quiet_left {P : Program} {f : FuncId} {args : Array Value} {w : World} {n : Nat} {v : Value}
    (h : Calls P f args (w.drewN n) fun e w' => e = .returned v ∧ w.drewN n = w') : Calls P f args (w.drewN n) fun e w'' => e = .returned v ∧ ∃ m, w'' = w.drewN m :=
  h.mono fun _ _ ⟨he, hm⟩ => ⟨he, n, hm.symm⟩
theorem quiet_add_left {P : Program} {f : FuncId} {args : Array Value} {w : World} {a n : Nat} {v : Value}
    (h : Calls P f args (w.drewN (a + n)) fun e w' => e = .returned v ∧ w.drewN (a + n) = w') :
    Calls P f args (w.drewN (a + n)) fun e w'' => e = .returned v ∧ ∃ m, w'' = w.drewN (a + m) :=
  h.mono fun _ _ ⟨he, hm⟩ => ⟨he, n, hm.symm⟩
end Go.Proofs.Ytbkebmnaajmgeaa
