/- A word is looked through. -/
import Derived.Test.YthbhkkdaaipngaaGreatDoorMTpK
import Derived.Test.YthbhkkdaaipngaaGreatDoorMFieldOf
namespace Go.Proofs.YthbhkkdaaipngaaGreatDoor.Tw
open Go Go.RowKit Go.Shelf
open Go.Proofs.YthbhkkdaaipngaaGreatDoor.Field
set_option linter.unusedVariables false
attribute [local go_sem] Oper.semAt_some
/-- Between two rounds of a look through. -/
structure CntI (q : Int) (w : World) (s : Nat) (pre : List (Nat × Int)) (W : World) : Prop where
  n : W.heap[s + 1]? = some (.cells #[.int .i64 pre.length] 3 (0, 0))
  p : W.heap[s]? = some (.cells #[.int .i64 q] 76 (0, 0))
  r4 : W.heap[w.heap.size + 1]? = some (.cells #[.int .i64 0] 76 (0, 0))
  r5 : W.heap[w.heap.size + 2]? = some (.cells #[.int .i64 0] 3 (0, 0))
  r6 : W.heap[w.heap.size + 3]? = some (.cells #[.int .i64 0] 32 (0, 0))
  below : Below w.heap.size w W
  size : s + 3 ≤ W.heap.size
theorem kn_len : ∀ (i : Nat) (l : List WCell), (kn i l).length ≤ l.length
  | _, [] => Nat.le_refl _
  | i, c :: r => by
    have := kn_len (i + 1) r
    simp only [kn]
    split <;> simp only [List.length_cons] <;> omega
theorem kn_all {q : Int} : ∀ {i : Nat} {l : List WCell} {y : Nat × Int}, (∀ y ∈ l, 0 ≤ y.v ∧ y.v < q) → y ∈ kn i l → 0 ≤ y.2 ∧ y.2 < q
  | _, [], _, _, h => by cases h
  | i, c :: r, y, hl, h => by
    simp only [kn] at h
    split at h
    · rcases List.mem_cons.1 h with rfl | h
      · exact hl c List.mem_cons_self
      · exact kn_all (fun z hz => hl z (List.mem_cons_of_mem _ hz)) h
    · exact kn_all (fun z hz => hl z (List.mem_cons_of_mem _ hz)) h
theorem cells_body (l : Nat) (q y m : Int) (B4 B5 B6 s : Nat) (W : World) (u0 u1 u2 u3 u8 u10 u12 u13 u14 u15 u16 u17 u18 u19 u20 u21 u22 u23 u24 u25 u26 u27 u28 u29 u30 u31 u32 : Value) (Q : Exit → Act → World → Prop) (hy : 0 ≤ y ∧ y < q) (hm : 0 ≤ m ∧ m ≤ 1000)
    (hcn : W.cell? ⟨s + 1, 0, none⟩ = some (.int .i64 m)) (hcp : W.cell? ⟨s, 0, none⟩ = some (.int .i64 q)) (hfn : W.frozen? ⟨s + 1, 0, none⟩ = false)
    (hQ : ∀ a, Q .normal a (W.setCell ⟨s + 1, 0, none⟩ (.int .i64 (m + 1)))) :
    (Code.block 1 (Code.seq (Code.seq (Code.region 9 #[⟨some 33, .load 76 (.tmp 7), 76, "code.go:34", #[], none⟩, ⟨some 34, .move (.tmp 11), 3, "code.go:34", #[], none⟩, ⟨some 35, .call { callee := .value (.func 39), args := #[.tmp 33, .tmp 34], argTypes := #[76, 3] }, 4, "code.go:34", #[⟨0, .data⟩, ⟨1, .data⟩], none⟩, ⟨some 36, .unOp .not 4 (.tmp 35), 4, "code.go:34", #[⟨2, .data⟩], none⟩] false)
      (Code.cond (.tmp 36) (Code.seq (Code.region 10 #[⟨none, .store 76 (.tmp 4) (.const (.int .i64 0)), 0, "code.go:35", #[], none⟩, ⟨none, .store 3 (.tmp 5) (.const (.int .i64 0)), 0, "code.go:35", #[⟨0, .chain⟩, ⟨0, .phase⟩], none⟩, ⟨none, .store 32 (.tmp 6) (.const (.int .i64 9)), 0, "code.go:35", #[⟨1, .chain⟩, ⟨0, .phase⟩, ⟨1, .phase⟩], none⟩] false) Code.ret) Code.skip))
      (Code.region 11 #[⟨some 37, .load 3 (.tmp 9), 3, "code.go:37", #[], none⟩, ⟨some 38, .binOp .add 3 (.tmp 37) (.const (.int .i64 1)) 3, 3, "code.go:37", #[⟨0, .data⟩], none⟩, ⟨none, .store 3 (.tmp 9) (.tmp 38), 0, "code.go:37", #[⟨1, .data⟩, ⟨0, .phase⟩, ⟨1, .phase⟩], none⟩] false))).wpIn (Fence.wide.inRound l) 1 Tryz.prog Q { tmps := #[u0, u1, u2, u3, .pointer (some ⟨B4, 0, none⟩), .pointer (some ⟨B5, 0, none⟩), .pointer (some ⟨B6, 0, none⟩), .pointer (some ⟨s, 0, none⟩), u8, .pointer (some ⟨s + 1, 0, none⟩), u10, .int .i64 y, u12, u13, u14, u15, u16, u17, u18, u19, u20, u21, u22, u23, u24, u25, u26, u27, u28, u29, u30, u31, u32, undef, undef, undef, undef, undef, undef, undef, undef], defers := [] } W := by
  have e1 := pHas_any q y W
  have hB : hasB q y = true := by simp [hasB]; omega
  rw [hB] at e1
  gi_wp2
  refine ⟨trivial, (CallsIn.inRound l (callsIn_wide.2 e1)).mono ?_⟩
  rintro e w' ⟨rfl, rfl⟩
  gi_wp2
  exact hQ _
set_option maxHeartbeats 4000000 in
theorem cells_any (p : Int) (L : List WCell) (v : Value) (w : World) (hp : 2 ≤ p) (hp2 : p ≤ 65521) (hP : isP p.toNat) (hL : ∀ y ∈ L, 0 ≤ y.v ∧ y.v < p) (hq : Lst w (Lo w.heap.size) v L) (hlen : L.length ≤ 32) (hlp : L.length < p) :
    Calls Tryz.prog 87 #[.agg #[.int .i64 p], v] w fun e w' => e = .returned (.tuple #[.int .i64 p, .int .i64 (kn 0 L).length, .int .i64 0]) ∧ Below w.heap.size w w' := by
  obtain ⟨aq, cq, rfl, hq1, hq2⟩ := hq.form
  refine (callsIn_wide (n := 3)).1 ?_
  refine callsIn_of_wp_marks Tryz.func87 rfl trivial ?_ rfl
  simp only [Tryz.ntmps87, List.size_toArray, List.length_cons, List.length_nil, Nat.reduceAdd, Nat.reduceSub, Array.replicate_succ, Array.replicate_zero, List.push_toArray, List.append_toArray, List.nil_append, List.cons_append]
  have hV : Valid p := ⟨hp, hp2, hP⟩
  gi_wp2
  refine ⟨trivial, (callsIn_wide (n := 2)).2 ((of_any _ _).mono ?_)⟩
  intro e w' ho
  obtain ⟨q, b, rfl, ⟨rfl, rfl, -⟩ | ⟨-, -, hno⟩, hb⟩ := ho
  · obtain ⟨w0, hw0⟩ : ∃ w0, w0 = (((w.alloc (.cells #[.int .i64 q] 28)).alloc (.cells #[.int .i64 0] 76)).alloc (.cells #[.int .i64 0] 3)).alloc (.cells #[.int .i64 0] 32) := ⟨_, rfl⟩
    have hs0 : w0.heap.size = w.heap.size + 4 := by rw [hw0]; simp
    have hbw : Below w.heap.size w w0 := by rw [hw0]; exact ((((Below.refl _ w).alloc (Nat.le_refl _) _).alloc (by simp) _).alloc (by simp; omega) _).alloc (by simp; omega) _
    have h1 : ∀ (V : World) (o o' : Obj) (k : Nat), V.heap[k]? = some o → (V.alloc o').heap[k]? = some o := fun V o o' k h => (Below.heap_alloc V o' k (Array.getElem?_eq_some_iff.1 h).1).trans h
    have hp0 : w0.heap[w.heap.size]? = some (.cells #[.int .i64 q] 28 (0, 0)) := by rw [hw0]; exact h1 _ _ _ _ (h1 _ _ _ _ (h1 _ _ _ _ (World.alloc_heap_new w _)))
    have h40 : w0.heap[w.heap.size + 1]? = some (.cells #[.int .i64 0] 76 (0, 0)) := by
      rw [hw0]; refine h1 _ _ _ _ (h1 _ _ _ _ ?_)
      simpa using World.alloc_heap_new (w.alloc (.cells #[.int .i64 q] 28)) (.cells #[.int .i64 0] 76)
    have h50 : w0.heap[w.heap.size + 2]? = some (.cells #[.int .i64 0] 3 (0, 0)) := by
      rw [hw0]; refine h1 _ _ _ _ ?_
      simpa using World.alloc_heap_new ((w.alloc (.cells #[.int .i64 q] 28)).alloc (.cells #[.int .i64 0] 76)) (.cells #[.int .i64 0] 3)
    have h60 : w0.heap[w.heap.size + 3]? = some (.cells #[.int .i64 0] 32 (0, 0)) := by
      rw [hw0]
      simpa using World.alloc_heap_new (((w.alloc (.cells #[.int .i64 q] 28)).alloc (.cells #[.int .i64 0] 76)).alloc (.cells #[.int .i64 0] 3)) (.cells #[.int .i64 0] 32)
    rw [← hw0] at hb
    have hb' : Below (w.heap.size + 4) w0 w' := by rw [← hs0]; exact hb
    have hp1 := (hb'.block _ (by omega)).trans hp0
    have h41 := (hb'.block _ (by omega)).trans h40
    have h51 := (hb'.block _ (by omega)).trans h50
    have h61 := (hb'.block _ (by omega)).trans h60
    have hbw' : Below w.heap.size w w' := hbw.trans ⟨hb'.os, hb'.tape, hb'.output, hb'.size, fun k hk => hb'.block k (by omega)⟩
    have hsz : w.heap.size + 4 ≤ w'.heap.size := by have := hb'.size; omega
    clear hb hb' hp0 h40 h50 h60 hbw hw0 hs0 h1
    clear w0
    have hcp : (w'.alloc (.cells #[.int .i64 q] 76)).cell? ⟨w.heap.size, 0, none⟩ = some (.int .i64 q) := (World.cell?_of_block (a := ⟨w.heap.size, 0, none⟩) (Below.heap_alloc w' _ _ (show w.heap.size < w'.heap.size by omega))).trans (by simp [World.cell?, hp1])
    have d1 : decide ((32 : Int) < (L.length : Int)) = false := decide_eq_false (by omega)
    have d2 : decide (q ≤ (L.length : Int)) = false := decide_eq_false (by omega)
    have d3 : ¬ ((32 : Int) < (L.length : Int)) := by omega
    have d4 : ¬ (q ≤ (L.length : Int)) := by omega
    have Hp1 := Lib.hid hp1
    have H41 := Lib.hid h41
    have H51 := Lib.hid h51
    have H61 := Lib.hid h61
    clear hp1 h41 h51 h61
    gi_wp2
    refine ⟨trivial, (callsIn_wide (n := 2)).2 ((known_any _ _ rfl).mono ?_)⟩
    rintro e wk ⟨rfl, rfl⟩
    gi_wp2
    obtain ⟨s, hs⟩ : ∃ s, s = w'.heap.size := ⟨_, rfl⟩
    obtain ⟨ws, hws⟩ : ∃ ws, ws = ((w'.alloc (.cells #[.int .i64 q] 76)).alloc (.cells #[.int .i64 0] 3)).alloc (.cells #[.slice aq L.length cq] 103) := ⟨_, rfl⟩
    have hbs : ws.heap.size = s + 3 := by rw [hws, hs]; simp
    have hsk : Below s w' ws := by rw [hws, hs]; exact (((Below.refl _ w').alloc (Nat.le_refl _) _).alloc (by simp) _).alloc (by simp; omega) _
    have h1 : ∀ (V : World) (o o' : Obj) (k : Nat), V.heap[k]? = some o → (V.alloc o').heap[k]? = some o := fun V o o' k h => (Below.heap_alloc V o' k (Array.getElem?_eq_some_iff.1 h).1).trans h
    have hkb : ws.heap[s + 2]? = some (.cells #[.slice aq L.length cq] 103 (0, 0)) := by
      rw [hws, hs]
      simpa using World.alloc_heap_new ((w'.alloc (.cells #[.int .i64 q] 76)).alloc (.cells #[.int .i64 0] 3)) (.cells #[.slice aq L.length cq] 103)
    have hI0 : CntI q w s [] ws := by
      refine ⟨?_, ?_, (hsk.block _ (by omega)).trans H41.out, (hsk.block _ (by omega)).trans H51.out, (hsk.block _ (by omega)).trans H61.out, hbw'.trans ⟨hsk.os, hsk.tape, hsk.output, hsk.size, fun k hk => hsk.block k (by omega)⟩, by omega⟩
      · rw [hws, hs]
        refine h1 _ _ _ _ ?_
        simpa using World.alloc_heap_new (w'.alloc (.cells #[.int .i64 q] 76)) (.cells #[.int .i64 0] 3)
      · rw [hws, hs]; exact h1 _ _ _ _ (h1 _ _ _ _ (World.alloc_heap_new w' _))
    have hsw : w.heap.size + 4 ≤ s := by omega
    rw [← hws]
    rw [← hs]
    clear hws hs h1 hsk hcp Hp1 H41 H51 H61 hbw' hsz
    clear w'
    refine wpIn_range_keep rfl (by decide) (gf := 102) (lb := #[.pointer (some ⟨s + 2, 0, none⟩)]) (by simp [go_sem]) trivial (enters_of Tryz.func102 (by kernel_rfl) rfl)
      encK (fun _ => rfl) (kn 0 L) (fun k => k < w.heap.size ∨ k = s + 2) ?hK (CntI q w s) ?hI ?h0 ?hIb ?hseq
      (fun y => { tmps := #[.agg #[.int .i64 q], .slice aq L.length cq, .pointer (some ⟨w.heap.size, 0, none⟩), undef, .pointer (some ⟨w.heap.size + 1, 0, none⟩), .pointer (some ⟨w.heap.size + 2, 0, none⟩), .pointer (some ⟨w.heap.size + 3, 0, none⟩), .pointer (some ⟨s, 0, none⟩), .bool true, .pointer (some ⟨s + 1, 0, none⟩), undef, .int .i64 y.2, .tuple #[.int .i64 q, .bool true], .agg #[.int .i64 q], .tuple #[.int .i64 q, .bool true], .int .i64 q, .bool true, .bool true, .bool false, .slice aq L.length cq, .int .i64 L.length, .bool false, .bool false, .slice aq L.length cq, .int .i64 L.length, .pointer (some ⟨w.heap.size, 0, none⟩), .int .i64 q, .bool false, .bool false, .slice aq L.length cq, .func (.func 102) #[] #[.pointer (some ⟨s + 2, 0, none⟩)], .int .i64 y.1, .int .i64 y.2, undef, undef, undef, undef, undef, undef, undef, undef], defers := [] }) ?assign ?body ?done
    case hK =>
      intro k hk
      omega
    case hI =>
      intro pre W W' hi hb
      have hsz := hi.size
      have hn : ∀ k, k < s + 3 → W'.heap[k]? = W.heap[k]? := fun k hk => hb.block k (by omega) (by omega)
      exact ⟨(hn _ (by omega)).trans hi.n, (hn _ (by omega)).trans hi.p, (hn _ (by omega)).trans hi.r4, (hn _ (by omega)).trans hi.r5, (hn _ (by omega)).trans hi.r6, hi.below.trans ⟨hb.os, hb.tape, hb.output, hb.size, fun k hk => hn k (by omega)⟩, by have := hb.size; omega⟩
    case h0 => exact hI0
    case hIb =>
      intro pre W W' hi hb
      have hsz := hi.size
      exact ⟨(hb.block _ (by omega)).trans hi.n, (hb.block _ (by omega)).trans hi.p, (hb.block _ (by omega)).trans hi.r4, (hb.block _ (by omega)).trans hi.r5, (hb.block _ (by omega)).trans hi.r6, hi.below.trans ⟨hb.os, hb.tape, hb.output, hb.size, fun k hk => hb.block k (by omega)⟩, Nat.le_trans hsz hb.size⟩
    case hseq =>
      intro l J W hJb hY hj hb
      have hWs : s + 3 ≤ W.heap.size := by have := hb.size; omega
      refine known_in Fence.wide 2 trivial rfl (by decide) l (s + 2) (fun k => k < w.heap.size ∨ k = s + 2) (Lo w.heap.size) (.inr rfl) (fun b hb => .inl hb) (.slice aq L.length cq) L J W (fun k hk => by omega) ((hb.block _ (.inr rfl)).trans hkb) ?_ (by omega) hJb hY hj
      have hw : Below w.heap.size w W := hI0.below.trans ⟨hb.os, hb.tape, hb.output, hb.size, fun k hk => hb.block k (.inl hk)⟩
      exact hq.below hw (Nat.le_refl _)
    case assign =>
      intro l y W K hK
      simp only [encK]
      gi_wp2
      exact hK
    case body =>
      rintro l pre y W hi hpl hpt hlt
      have hy : 0 ≤ y.2 ∧ y.2 < q := by
        have : y ∈ (kn 0 L).take (pre.length + 1) := by rw [hpt]; simp
        have h2 := List.mem_of_mem_take this
        exact kn_all hL h2
      have hkl : (kn 0 L).length ≤ L.length := kn_len 0 L
      have hcn : W.cell? ⟨s + 1, 0, none⟩ = some (.int .i64 pre.length) := by simp [World.cell?, hi.n]
      have hcp : W.cell? ⟨s, 0, none⟩ = some (.int .i64 q) := by simp [World.cell?, hi.p]
      have hfn : W.frozen? ⟨s + 1, 0, none⟩ = false := by simp [World.frozen?, hi.n]
      have Hi := Lib.hid hi
      have Hpl := Lib.hid hpl
      clear hi hpt
      refine cells_body l q y.2 pre.length (w.heap.size + 1) (w.heap.size + 2) (w.heap.size + 3) s W _ _ _ _ _ _ _ _ _ _ _ _ _ _ _ _ _ _ _ _ _ _ _ _ _ _ _ _ hy ⟨by omega, by omega⟩ hcn hcp hfn (fun a => ?_)
      have hi := Hi.out
      have hsz := hi.size
      have hset : ∀ k, k ≠ s + 1 → (W.setCell ⟨s + 1, 0, none⟩ (.int .i64 ((pre.length : Int) + 1))).heap[k]? = W.heap[k]? := fun k hk => Below.heap_setCell W ⟨s + 1, 0, none⟩ _ k hk
      have hss : (W.setCell ⟨s + 1, 0, none⟩ (.int .i64 ((pre.length : Int) + 1))).heap.size = W.heap.size := by simp [World.setCell]
      refine ⟨rfl, ⟨?_, (hset _ (by omega)).trans hi.p, (hset _ (by omega)).trans hi.r4, (hset _ (by omega)).trans hi.r5, (hset _ (by omega)).trans hi.r6, hi.below.trans ⟨rfl, rfl, rfl, by rw [hss]; exact Nat.le_refl _, fun k hk => hset k (by omega)⟩, by rw [hss]; exact hsz⟩, ⟨rfl, rfl, rfl, by rw [hss]; exact Nat.le_refl _, fun k hk => hset k (by omega)⟩, fun k hk => hset k (by rw [hbs] at hk; omega)⟩
      simp [World.setCell, Array.getElem?_modify, hi.n]
    case done =>
      rintro W hi hD
      have hcn : W.cell? ⟨s + 1, 0, none⟩ = some (.int .i64 (kn 0 L).length) := by simp [World.cell?, hi.n]
      have hcp : W.cell? ⟨s, 0, none⟩ = some (.int .i64 q) := by simp [World.cell?, hi.p]
      have hf4 : W.frozen? ⟨w.heap.size + 1, 0, none⟩ = false := by simp [World.frozen?, hi.r4]
      have hf5 : W.frozen? ⟨w.heap.size + 2, 0, none⟩ = false := by simp [World.frozen?, hi.r5]
      have hf6 : W.frozen? ⟨w.heap.size + 3, 0, none⟩ = false := by simp [World.frozen?, hi.r6]
      have hc4 : W.cell? ⟨w.heap.size + 1, 0, none⟩ = some (.int .i64 0) := by simp [World.cell?, hi.r4]
      have hc5 : W.cell? ⟨w.heap.size + 2, 0, none⟩ = some (.int .i64 0) := by simp [World.cell?, hi.r5]
      have hc6 : W.cell? ⟨w.heap.size + 3, 0, none⟩ = some (.int .i64 0) := by simp [World.cell?, hi.r6]
      have hm : Tryz.prog.follows .mixedOrders = true := by kernel_rfl
      obtain ⟨W3, hW3⟩ : ∃ W3, W3 = (((W.setCell ⟨w.heap.size + 1, 0, none⟩ (.int .i64 q)).setCell ⟨w.heap.size + 1 + 1, 0, none⟩ (.int .i64 (kn 0 L).length)).setCell ⟨w.heap.size + 1 + 1 + 1, 0, none⟩ (.int .i64 0)).drew := ⟨_, rfl⟩
      have hset : ∀ k, k ≠ w.heap.size + 1 → k ≠ w.heap.size + 2 → k ≠ w.heap.size + 3 → W3.heap[k]? = W.heap[k]? := fun k e4 e5 e6 => by
        rw [hW3]
        exact (Below.heap_setCell _ ⟨w.heap.size + 1 + 1 + 1, 0, none⟩ _ k e6).trans ((Below.heap_setCell _ ⟨w.heap.size + 1 + 1, 0, none⟩ _ k e5).trans (Below.heap_setCell _ ⟨w.heap.size + 1, 0, none⟩ _ k e4))
      have hD3 : W3.heap[s + 3]? = some (.deferred (some [])) := (hset _ (by omega) (by omega) (by omega)).trans (by rw [← hbs]; exact hD)
      have hsz := hi.size
      have hput : ∀ k, k ≠ s + 3 → (W3.putObj (s + 3) (.deferred none)).heap[k]? = W3.heap[k]? := fun k hk => World.putObj_heap_other hk
      have b4 : W3.heap[w.heap.size + 1]? = some (.cells #[.int .i64 q] 76 (0, 0)) := by
        rw [hW3]
        simp [World.drew, World.setCell, Array.getElem?_modify, hi.r4]
        try (intro h; omega)
      have b5 : W3.heap[w.heap.size + 1 + 1]? = some (.cells #[.int .i64 (kn 0 L).length] 3 (0, 0)) := by
        rw [hW3]
        simp [World.drew, World.setCell, Array.getElem?_modify, hi.r5]
      have b6 : W3.heap[w.heap.size + 1 + 1 + 1]? = some (.cells #[.int .i64 0] 32 (0, 0)) := by
        rw [hW3]
        simp [World.drew, World.setCell, Array.getElem?_modify, hi.r6]
      have k4 : (W3.putObj (s + 3) (.deferred none)).cell? ⟨w.heap.size + 1, 0, none⟩ = some (.int .i64 q) := by simp [World.cell?, hput (w.heap.size + 1) (by omega), b4]
      have k5 : (W3.putObj (s + 3) (.deferred none)).cell? ⟨w.heap.size + 1 + 1, 0, none⟩ = some (.int .i64 (kn 0 L).length) := by simp [World.cell?, hput (w.heap.size + 1 + 1) (by omega), b5]
      have k6 : (W3.putObj (s + 3) (.deferred none)).cell? ⟨w.heap.size + 1 + 1 + 1, 0, none⟩ = some (.int .i64 0) := by simp [World.cell?, hput (w.heap.size + 1 + 1 + 1) (by omega), b6]
      have hss : W3.heap.size = W.heap.size := by rw [hW3]; simp [World.drew, World.setCell]
      have hbl : Below w.heap.size w (W3.putObj (s + 3) (.deferred none)) := by
        refine hi.below.trans ⟨by rw [hW3]; rfl, by rw [hW3]; rfl, by rw [hW3]; rfl, by simp [World.putObj, hss], fun k hk => (hput k (by omega)).trans (hset k (by omega) (by omega) (by omega))⟩
      have Hi := Lib.hid hi
      clear hi hset hput b4 b5 b6 hss
      rw [hW3] at hD3 hbl k4 k5 k6
      clear hW3
      gi_wp2
      gi_region_elder_o
      all_goals gi_wp2
      all_goals (refine ⟨by simp, .inl ⟨_, _, rfl, run_takeDeferred hD3, ?_⟩⟩)
      all_goals (refine ⟨.tuple #[.int .i64 q, .int .i64 (kn 0 L).length, .int .i64 0], ?_, rfl, hbl⟩)
      all_goals (simp [results, Tryz.results87, go_sem, k4, k5, k6])
  · exact absurd hV hno
end Go.Proofs.YthbhkkdaaipngaaGreatDoor.Tw
