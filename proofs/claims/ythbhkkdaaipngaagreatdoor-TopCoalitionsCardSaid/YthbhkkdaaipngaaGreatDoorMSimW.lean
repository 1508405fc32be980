/- A region that draws its order: of no program. Conditions: none. -/
import Derived.Test.YthbhkkdaaipngaaGreatDoorMSimV
namespace Go.Proofs.YthbhkkdaaipngaaGreatDoor.Sim
open Go Go.RowKit Go.Deep
set_option linter.unusedVariables false

/-- An operation and what it came to. -/
structure Ent where
  o : AO
  v : V
  us : U
  xs : List V
def Ent.wr (e : Ent) : List Nat := e.us.map (·.1)
def Ent.deps (e : Ent) : List Nat := (if looks e.o.k = true then V.idss e.xs else []) ++ e.wr ++ [e.o.dst.getD 0]
def usesA : List AV → List Nat
  | [] => []
  | .t n :: r => n :: usesA r
  | .c _ :: r => usesA r
def AO.uses (o : AO) : List Nat := usesA o.xs ++ (match o.guard with
  | some (_, t, _) => [t]
  | none => [])
def noneIn (d : Option Nat) (l : List Nat) : Bool := match d with
  | some d => !l.contains d
  | none => true
def apart (l r : List Nat) : Bool := l.all fun i => !r.contains i
def indep (e f : Ent) : Bool := noneIn e.o.dst f.o.uses && noneIn f.o.dst e.o.uses && noneIn e.o.dst f.o.dst.toList && apart e.wr f.deps && apart f.wr e.deps
def ancL : List AO → List (List Nat) → List (List Nat)
  | [], acc => acc
  | o :: r, acc => ancL r (acc ++ [o.after ++ o.after.flatMap fun j => acc.getD j []])
def indepAll (anc : List (List Nat)) (L : List Ent) : Nat → List Ent → Bool
  | _, [] => true
  | j, f :: r => ((L.take j).zipIdx.all fun p => (anc.getD j []).contains p.2 || indep p.1 f) && indepAll anc L (j + 1) r
def wfAfter : Nat → List AO → Bool
  | _, [] => true
  | i, o :: r => o.after.all (fun j => decide (j < i)) && wfAfter (i + 1) r
def OpR (P : Program) (s : St) (e : Ent) : Prop := match e.o.guard with
  | none => e.xs = e.o.xs.map (ev s.T) ∧ StepA P e.o.k (e.o.dst.getD 0) e.xs s.m e.v e.us
  | some (_, t, b) => ∃ c, gv (s.T t) = some c ∧ ((c = some b ∧ e.xs = e.o.xs.map (ev s.T) ∧ StepA P e.o.k (e.o.dst.getD 0) e.xs s.m e.v e.us) ∨ (c ≠ some b ∧ e.v = .tu [] ∧ e.us = [] ∧ e.xs = []))
def putE (s : St) (e : Ent) : St := s.put e.o.dst e.v e.us
def TextR (P : Program) : List Ent → St → St → Prop
  | [], s, s' => s' = s
  | e :: r, s, s' => OpR P s e ∧ TextR P r (putE s e) s'
def runE (p : Nat → Bool) : Nat → List Ent → St → St
  | _, [], s => s
  | k, e :: r, s => runE p (k + 1) r (if p k = true then putE s e else s)

section
variable {P : Program} {p q : Nat → Bool}
theorem ups_hit {i : Nat} : ∀ {us : U} {m m2 : M}, i ∈ us.map (·.1) → ups m us i = ups m2 us i
  | [], _, _, h => by simp at h
  | (j, o) :: us, m, m2, h => by
    by_cases hi : i ∈ us.map (·.1)
    · rw [ups, ups]; exact ups_hit hi
    · have hno : ∀ x ∈ us, x.1 ≠ i := fun x hx e => hi (List.mem_map.2 ⟨x, hx, e⟩)
      have : i = j := by
        simp only [List.map_cons, List.mem_cons] at h
        exact h.resolve_right hi
      subst this
      rw [ups, ups, ups_not hno, ups_not hno, up_same, up_same]
theorem ups_miss {i : Nat} {us : U} {m : M} (h : i ∉ us.map (·.1)) : ups m us i = m i := ups_not fun x hx e => h (List.mem_map.2 ⟨x, hx, e⟩)
theorem putE_T (s : St) (e : Ent) (t : Nat) : (putE s e).T t = if e.o.dst = some t then e.v else s.T t := by
  unfold putE St.put
  cases h : e.o.dst with
  | none => simp
  | some d =>
    simp only [up, Option.some.injEq]
    by_cases e' : t = d
    · subst e'; simp
    · rw [if_neg e', if_neg fun h => e' h.symm]
theorem putE_m (s : St) (e : Ent) : (putE s e).m = ups s.m e.us := rfl
theorem runE_T {t : Nat} : ∀ {L : List Ent} {k : Nat} {s s2 : St}, (∀ j e, L[j]? = some e → e.o.dst = some t → p (k + j) = q (k + j)) → s.T t = s2.T t → (runE p k L s).T t = (runE q k L s2).T t
  | [], k, s, s2, _, h => h
  | e :: r, k, s, s2, hp, h => by
    simp only [runE]
    refine runE_T (fun j f hj hd => ?_) ?_
    · have := hp (j + 1) f (by simpa using hj) hd
      rwa [show k + (j + 1) = k + 1 + j by omega] at this
    · by_cases hd : e.o.dst = some t
      · have hpq := hp 0 e rfl hd
        simp only [Nat.add_zero] at hpq
        rw [hpq]
        split
        · rw [putE_T, putE_T, if_pos hd, if_pos hd]
        · exact h
      · split <;> split <;> simp only [putE_T, if_neg hd, h]
theorem runE_m {i : Nat} : ∀ {L : List Ent} {k : Nat} {s s2 : St}, (∀ j e, L[j]? = some e → i ∈ e.wr → p (k + j) = q (k + j)) → s.m i = s2.m i → (runE p k L s).m i = (runE q k L s2).m i
  | [], k, s, s2, _, h => h
  | e :: r, k, s, s2, hp, h => by
    simp only [runE]
    refine runE_m (fun j f hj hd => ?_) ?_
    · have := hp (j + 1) f (by simpa using hj) hd
      rwa [show k + (j + 1) = k + 1 + j by omega] at this
    · by_cases hd : i ∈ e.wr
      · have hpq := hp 0 e rfl hd
        simp only [Nat.add_zero] at hpq
        rw [hpq]
        split
        · rw [putE_m, putE_m]; exact ups_hit hd
        · exact h
      · split <;> split <;> simp only [putE_m, ups_miss (show i ∉ e.us.map (·.1) from hd), h]
theorem runE_none : ∀ {L : List Ent} {k : Nat} {s : St}, (∀ j, k ≤ j → p j = false) → runE p k L s = s
  | [], _, _, _ => rfl
  | e :: r, k, s, h => by
    simp only [runE]
    rw [h k (Nat.le_refl _)]
    exact runE_none fun j hj => h j (by omega)
theorem runE_congr : ∀ {L : List Ent} {k : Nat} {s : St}, (∀ j, k ≤ j → p j = q j) → runE p k L s = runE q k L s
  | [], _, _, _ => rfl
  | e :: r, k, s, h => by
    simp only [runE]
    rw [h k (Nat.le_refl _)]
    exact runE_congr fun j hj => h j (by omega)
theorem textR_get : ∀ {L : List Ent} {k : Nat} {s s' : St}, TextR P L s s' → ∀ (i : Nat) (e : Ent), L[i]? = some e → OpR P (runE (fun j => decide (j < k + i)) k L s) e
  | [], k, s, s', _, i, e, h => by simp at h
  | f :: r, k, s, s', ht, 0, e, h => by
    simp only [List.getElem?_cons_zero, Option.some.injEq] at h
    subst h
    rw [runE_none (fun j hj => by simp; omega)]
    exact ht.1
  | f :: r, k, s, s', ht, i + 1, e, h => by
    simp only [runE]
    rw [if_pos (by simp)]
    have := textR_get (k := k + 1) ht.2 i e (by simpa using h)
    rwa [show (fun j => decide (j < k + (i + 1))) = (fun j => decide (j < k + 1 + i)) from funext fun j => by congr 1; apply propext; omega]
theorem textR_end : ∀ {L : List Ent} {k : Nat} {s s' : St}, TextR P L s s' → (∀ j, k ≤ j → j < k + L.length → p j = true) → runE p k L s = s'
  | [], k, s, s', h, _ => by simp only [TextR] at h; simp only [runE]; exact h.symm
  | f :: r, k, s, s', h, hp => by
    simp only [runE]
    rw [if_pos (hp k (Nat.le_refl _) (by simp))]
    exact textR_end h.2 fun j h1 h2 => hp j (by omega) (by simp; omega)
/-- Two that touch nothing of each other. -/
theorem put_comm {s : St} {e f : Ent} (hd : noneIn e.o.dst f.o.dst.toList = true) (hw : ∀ i ∈ e.wr, i ∉ f.wr) : putE (putE s e) f = putE (putE s f) e := by
  have h1 : (putE (putE s e) f).T = (putE (putE s f) e).T := by
    funext t
    simp only [putE_T]
    by_cases h1 : f.o.dst = some t
    · by_cases h2 : e.o.dst = some t
      · exfalso
        unfold noneIn at hd
        rw [h2, h1] at hd
        simp at hd
      · rw [if_pos h1, if_neg h2, if_pos h1]
    · rw [if_neg h1, if_neg h1]
  have h2 : (putE (putE s e) f).m = (putE (putE s f) e).m := by
    funext i
    simp only [putE_m]
    by_cases h1 : i ∈ f.us.map (·.1)
    · rw [ups_hit (m2 := s.m) h1, ups_miss (us := e.us) (fun h => hw i h h1)]
    · rw [ups_miss h1]
      by_cases h2 : i ∈ e.us.map (·.1)
      · exact ups_hit h2
      · rw [ups_miss h2, ups_miss h2, ups_miss h1]
  cases h : putE (putE s e) f
  cases h' : putE (putE s f) e
  rw [h, h'] at h1 h2
  simp only at h1 h2
  subst h1
  subst h2
  rfl
theorem runE_put {e : Ent} : ∀ {L : List Ent} {k : Nat} {s : St}, (∀ j f, L[j]? = some f → p (k + j) = true → noneIn e.o.dst f.o.dst.toList = true ∧ ∀ i ∈ e.wr, i ∉ f.wr) → runE p k L (putE s e) = putE (runE p k L s) e
  | [], k, s, _ => rfl
  | f :: r, k, s, h => by
    simp only [runE]
    have ih := fun s => runE_put (L := r) (k := k + 1) (s := s) fun j g hj hp => h (j + 1) g (by simpa using hj) (by rwa [show k + (j + 1) = k + 1 + j by omega])
    split
    · rename_i hk
      obtain ⟨h1, h2⟩ := h 0 f rfl hk
      rw [put_comm h1 h2]
      exact ih _
    · exact ih _
theorem runE_insert {e : Ent} : ∀ {L : List Ent} {k i : Nat} {s : St}, L[i]? = some e → p (k + i) = false → (∀ j f, L[j]? = some f → i < j → p (k + j) = true → noneIn e.o.dst f.o.dst.toList = true ∧ ∀ i ∈ e.wr, i ∉ f.wr) →
    runE (fun j => if j = k + i then true else p j) k L s = putE (runE p k L s) e
  | [], k, i, s, h, _, _ => by simp at h
  | f :: r, k, 0, s, h, hp, hi => by
    simp only [List.getElem?_cons_zero, Option.some.injEq] at h
    subst h
    simp only [runE, Nat.add_zero, if_true]
    simp only [Nat.add_zero] at hp
    rw [hp]
    rw [runE_congr (q := p) (fun j hj => by rw [if_neg (by omega)])]
    simp only [Bool.false_eq_true, if_false]
    exact runE_put fun j g hj hpj => hi (j + 1) g (by simpa using hj) (by omega) (by rwa [show k + (j + 1) = k + 1 + j by omega])
  | f :: r, k, i + 1, s, h, hp, hi => by
    simp only [runE]
    have hk : (if k = k + (i + 1) then true else p k) = p k := if_neg (by omega)
    simp only [hk]
    have ih := fun s => runE_insert (L := r) (k := k + 1) (i := i) (s := s) (by simpa using h) (by rwa [show k + 1 + i = k + (i + 1) by omega]) fun j g hj hij hpj => hi (j + 1) g (by simpa using hj) (by omega) (by rwa [show k + (j + 1) = k + 1 + j by omega])
    rw [show (fun j => if j = k + (i + 1) then true else p j) = (fun j => if j = k + 1 + i then true else p j) from funext fun j => by rw [show k + (i + 1) = k + 1 + i by omega]]
    exact ih _
/-- What must have come before has come before. -/
theorem ancL_ok : ∀ {ops : List AO} {acc : List (List Nat)}, (∀ j o, ops[j]? = some o → p (acc.length + j) = true → ∀ a ∈ o.after, p a = true) → (∀ j a, a ∈ acc.getD j [] → p j = true → p a = true) → ∀ j a, a ∈ (ancL ops acc).getD j [] → p j = true → p a = true
  | [], acc, _, h, j, a, ha, hp => h j a ha hp
  | o :: r, acc, hc, h, j, a, ha, hp => by
    simp only [ancL] at ha
    refine ancL_ok (ops := r) (fun j' o' hj' hp' => ?_) (fun j' a' ha' hp' => ?_) j a ha hp
    · rw [List.length_append, List.length_singleton] at hp'
      exact hc (j' + 1) o' (by simpa using hj') (by rwa [show acc.length + (j' + 1) = acc.length + 1 + j' by omega])
    · rw [List.getD_eq_getElem?_getD] at ha'
      rcases Nat.lt_trichotomy j' acc.length with hlt | heq | hgt
      · rw [List.getElem?_append_left hlt] at ha'
        exact h j' a' (by rw [List.getD_eq_getElem?_getD]; exact ha') hp'
      · subst heq
        rw [List.getElem?_append_right (Nat.le_refl _), Nat.sub_self] at ha'
        simp only [List.getElem?_cons_zero, Option.getD_some, List.mem_append, List.mem_flatMap] at ha'
        have hc0 := hc 0 o rfl (by simpa using hp')
        rcases ha' with ha' | ⟨b, hb, ha'⟩
        · exact hc0 a' ha'
        · exact h b a' ha' (hc0 b hb)
      · rw [List.getElem?_eq_none (by simp; omega)] at ha'
        simp at ha'
theorem indepAll_get {anc : List (List Nat)} {L : List Ent} : ∀ {r : List Ent} {k : Nat}, indepAll anc L k r = true → ∀ j f, r[j]? = some f → ∀ i e, i < k + j → L[i]? = some e → (anc.getD (k + j) []).contains i = true ∨ indep e f = true
  | [], k, _, j, f, h, _, _, _, _ => by simp at h
  | g :: r, k, h, 0, f, hf, i, e, hij, hi => by
    simp only [List.getElem?_cons_zero, Option.some.injEq] at hf
    subst hf
    simp only [indepAll, Bool.and_eq_true] at h
    have hil : i < L.length := (List.getElem?_eq_some_iff.1 hi).1
    have := List.all_eq_true.1 h.1 (e, i) (List.mk_mem_zipIdx_iff_getElem?.2 (by rw [List.getElem?_take, if_pos (by omega)]; simpa using hi))
    simpa using this
  | g :: r, k, h, j + 1, f, hf, i, e, hij, hi => by
    simp only [indepAll, Bool.and_eq_true] at h
    have := indepAll_get h.2 j f (by simpa using hf) i e (by omega) hi
    rwa [show k + 1 + j = k + (j + 1) by omega] at this
theorem wfAfter_get : ∀ {r : List AO} {k : Nat}, wfAfter k r = true → ∀ j o, r[j]? = some o → ∀ a ∈ o.after, a < k + j
  | [], k, _, j, o, h => by simp at h
  | g :: r, k, h, 0, o, ho => by
    simp only [List.getElem?_cons_zero, Option.some.injEq] at ho
    subst ho
    simp only [wfAfter, Bool.and_eq_true] at h
    intro a ha
    have := List.all_eq_true.1 h.1 a ha
    simpa using this
  | g :: r, k, h, j + 1, o, ho => by
    simp only [wfAfter, Bool.and_eq_true] at h
    intro a ha
    have := wfAfter_get h.2 j o (by simpa using ho) a ha
    omega
theorem opAs_get {N : NF} {ops : Array Oper} : ∀ {l : List Oper} {aos : List AO}, opAs P N ops l = some aos → aos.length = l.length ∧ ∀ (i : Nat) (o : Oper), l[i]? = some o → ∃ ao, aos[i]? = some ao ∧ opA P N ops o = some ao
  | [], aos, h => by
    simp only [opAs, Option.some.injEq] at h
    subst h
    exact ⟨rfl, fun i o h => by simp at h⟩
  | o :: l, aos, h => by
    unfold opAs at h
    split at h
    · rename_i ao aos' h1 h2
      cases h
      obtain ⟨h3, h4⟩ := opAs_get h2
      refine ⟨by simp [h3], fun i o' hi => ?_⟩
      cases i with
      | zero => simp at hi; subst hi; exact ⟨ao, rfl, h1⟩
      | succ i => simpa using h4 i o' (by simpa using hi)
    · cases h

section
variable {cx : Cx} {a : Act} {w : World}
theorem uses_congr {T T' : Nat → V} : ∀ {xs : List AV}, (∀ t ∈ usesA xs, T' t = T t) → xs.map (ev T') = xs.map (ev T)
  | [], _ => rfl
  | .t n :: r, h => by
    simp only [usesA, List.mem_cons] at h
    simp only [List.map_cons, ev, h n (.inl rfl), uses_congr (xs := r) fun t ht => h t (.inr ht)]
  | .c x :: r, h => by
    simp only [usesA] at h
    simp only [List.map_cons, ev, uses_congr (xs := r) h]
/-- .. in another state that is alike where it looks. -/
theorem opR_congr {s s' : St} {e : Ent} (h : OpR P s e) (hT : ∀ t ∈ e.o.uses, s'.T t = s.T t) (hm : ∀ i ∈ e.deps, s'.m i = s.m i) : OpR P s' e := by
  have hxs : e.o.xs.map (ev s'.T) = e.o.xs.map (ev s.T) := uses_congr fun t ht => hT t (by simp only [AO.uses, List.mem_append]; exact .inl ht)
  have hstep : StepA P e.o.k (e.o.dst.getD 0) e.xs s.m e.v e.us → StepA P e.o.k (e.o.dst.getD 0) e.xs s'.m e.v e.us := fun hs =>
    stepA_congr hs (fun hk i hi => hm i (by simp only [Ent.deps, if_pos hk, List.mem_append]; exact .inl (.inl hi))) (hm _ (by simp [Ent.deps])) (fun x hx => hm x.1 (by simp only [Ent.deps, List.mem_append]; exact .inl (.inr (List.mem_map.2 ⟨x, hx, rfl⟩))))
  unfold OpR at h ⊢
  split
  · rename_i hg
    rw [hg] at h
    exact ⟨by rw [hxs]; exact h.1, hstep h.2⟩
  · rename_i j t b hg
    rw [hg] at h
    obtain ⟨c, h1, h2⟩ := h
    refine ⟨c, by rw [hT t (by simp [AO.uses, hg])]; exact h1, h2.imp (fun ⟨e1, e2, e3⟩ => ⟨e1, by rw [hxs]; exact e2, hstep e3⟩) id⟩
theorem mem_apart {l r : List Nat} (h : Sim.apart l r = true) {i : Nat} (h1 : i ∈ l) : i ∉ r := by
  have := List.all_eq_true.1 h i h1
  simpa using this
theorem noneIn_ok {d : Option Nat} {l : List Nat} (h : noneIn d l = true) {t : Nat} (hd : d = some t) : t ∉ l := by
  subst hd
  simpa [noneIn] using h

/-- WHATEVER THE ORDER. -/
theorem draw_ok {N : NF} {ops : Array Oper} {aos : List AO} {L : List Ent} {s s' : St} {Q : Exit → Act → World → Prop} (hN : cx.N = N) (hops : opAs P N ops ops.toList = some aos) (hL : L.map (·.o) = aos) (hT : TextR P L s s') (hw : wfAfter 0 aos = true) (hi : indepAll (ancL aos []) L 0 L = true)
    (hQ : ∀ a w, Rel cx s' a w → Q .normal a w) : ∀ (fuel : Nat) (listed : Array Bool) (a : Act) (w : World), listed.size = ops.size → (listed.toList.filter (! ·)).length = fuel → (∀ j o, aos[j]? = some o → listed.getD j false = true → ∀ b ∈ o.after, listed.getD b false = true) →
      Rel cx (runE (fun j => listed.getD j false) 0 L s) a w → wpAny P .any ops Q fuel listed a w := by
  obtain ⟨hlen, hget⟩ := opAs_get hops
  have hLl : L.length = aos.length := by rw [← hL, List.length_map]
  have hLo : ∀ {i : Nat} {ao : AO}, aos[i]? = some ao → ∃ e, L[i]? = some e ∧ e.o = ao := fun {i ao} h => by
    rw [← hL, List.getElem?_map] at h
    cases he : L[i]? with
    | none => rw [he] at h; cases h
    | some e => rw [he] at h; cases h; exact ⟨e, rfl, rfl⟩
  have hgd : ∀ (listed : Array Bool) (j : Nat), listed.size = ops.size → j < ops.size → listed.getD j true = listed.getD j false := fun listed j h1 h2 => by
    simp [Array.getElem?_eq_getElem (show j < listed.size by omega)]
  -- none is ready: all have come
  have hall : ∀ (listed : Array Bool), listed.size = ops.size → Region.ready .any ops listed = [] → ∀ j, j < ops.size → listed.getD j false = true := by
    intro listed hsz hr j
    induction j using Nat.strongRecOn with
    | _ j ih =>
      intro hj
      cases hlj : listed.getD j false with
      | true => rfl
      | false =>
        exfalso
        obtain ⟨ao, h1, h2⟩ := hget j ops[j] (by simp [hj])
        have : j ∈ Region.ready .any ops listed := mem_ready.2 ⟨by rw [hgd listed j hsz hj]; exact hlj, ops[j], by simp [hj], fun e he hb => by
          have hlt : e.on < j := by
            have := wfAfter_get hw j ao h1 e.on (by
              obtain ⟨_, _, _, _, _, _, haf, _⟩ := opA_ok h2
              rw [haf]
              unfold befores
              refine List.mem_filterMap.2 ⟨e, by simpa using he, by rw [if_pos hb]⟩)
            omega
          exact ih e.on hlt (by omega)⟩
        rw [hr] at this
        cases this
  have hdone : ∀ (listed : Array Bool) (a : Act) (w : World), listed.size = ops.size → Region.ready .any ops listed = [] → Rel cx (runE (fun j => listed.getD j false) 0 L s) a w → Q .normal a w := by
    intro listed a w hsz hr hR
    rw [textR_end hT (fun j _ hj => hall listed hsz hr j (by rw [hLl, hlen] at hj; simpa using hj))] at hR
    exact hQ a w hR
  intro fuel
  induction fuel with
  | zero =>
    intro listed a w hsz hc hcl hR
    have hnil : Region.ready .any ops listed = [] := by
      cases hr : Region.ready .any ops listed with
      | nil => rfl
      | cons i r =>
        exfalso
        have hm : i ∈ Region.ready .any ops listed := by rw [hr]; simp
        obtain ⟨h0, o, ho, _⟩ := mem_ready.1 hm
        have hlt : i < listed.size := by rw [hsz]; exact (Array.getElem?_eq_some_iff.1 ho).1
        have hf : listed[i] = false := by simpa [hlt] using h0
        have : false ∈ listed.toList.filter (! ·) := List.mem_filter.2 ⟨by rw [← hf]; exact Array.getElem_mem_toList hlt, rfl⟩
        rw [List.eq_nil_of_length_eq_zero hc] at this
        cases this
    exact ⟨hnil, hdone listed a w hsz hnil hR⟩
  | succ fuel ih =>
    intro listed a w hsz hc hcl hR
    refine ⟨fun hnil => hdone listed a w hsz hnil hR, fun i hi' => ?_⟩
    obtain ⟨h0, o, ho, hbef⟩ := mem_ready.1 hi'
    have hio : i < ops.size := (Array.getElem?_eq_some_iff.1 ho).1
    have hlt : i < listed.size := by rw [hsz]; exact hio
    have hil : listed.getD i false = false := by rw [← hgd listed i hsz hio]; exact h0
    obtain ⟨ao, hao, hA⟩ := hget i o (by simpa using ho)
    obtain ⟨e, he, heo⟩ := hLo hao
    obtain ⟨xs, ts, _, _, g3, g4, g5, g6⟩ := opA_ok hA
    have haft : ∀ b ∈ ao.after, listed.getD b false = true := by
      intro b hb
      rw [g5] at hb
      unfold befores at hb
      obtain ⟨ed, h1, h2⟩ := List.mem_filterMap.1 hb
      split at h2
      · rename_i hbind
        cases h2
        exact hbef ed (by simpa using h1) hbind
      · cases h2
    -- who is ordered
    have hanc : ∀ j b, b ∈ (ancL aos []).getD j [] → listed.getD j false = true → listed.getD b false = true := fun j b => ancL_ok (p := fun j => listed.getD j false) (fun j o hj hp => hcl j o hj (by simpa using hp)) (fun j b h _ => by simp at h) j b
    have hpair : ∀ j f, L[j]? = some f → (j < i → listed.getD j false = false → indep f e = true) ∧ (i < j → listed.getD j false = true → indep e f = true) := by
      intro j f hf
      constructor
      · intro hji hlj
        rcases indepAll_get hi i e he j f (by omega) hf with h | h
        · exfalso
          -- it must have come before
          have hcl' : ∀ j' o', aos[j']? = some o' → (if j' = i then true else listed.getD j' false) = true → ∀ b ∈ o'.after, (if b = i then true else listed.getD b false) = true := by
            intro j' o' hj' hp b hb
            by_cases e' : j' = i
            · subst e'
              rw [hao] at hj'
              cases hj'
              split
              · rfl
              · exact haft b hb
            · rw [if_neg e'] at hp
              split
              · rfl
              · exact hcl j' o' hj' hp b hb
          have := ancL_ok (p := fun j => if j = i then true else listed.getD j false) (ops := aos) (acc := []) (fun j o hj hp => hcl' j o hj (by simpa using hp)) (fun j b h _ => by simp at h) i j (by simpa using h) (by simp)
          rw [if_neg (by omega)] at this
          rw [hlj] at this
          cases this
        · exact h
      · intro hij hlj
        rcases indepAll_get hi j f hf i e (by omega) he with h | h
        · exfalso
          have := hanc j i (by simpa using h) hlj
          rw [hil] at this
          cases this
        · exact h
    -- what it comes to here
    have hop := textR_get (k := 0) hT i e he
    have hX : OpR P (runE (fun j => listed.getD j false) 0 L s) e := by
      refine opR_congr hop (fun t ht => runE_T (fun j f hf hd => ?_) rfl) (fun id hid => runE_m (fun j f hf hd => ?_) rfl)
      · simp only [Nat.zero_add]
        obtain ⟨p1, p2⟩ := hpair j f hf
        rcases Nat.lt_trichotomy j i with h | h | h
        · cases hlj : listed.getD j false with
          | true => simp [h]
          | false =>
            have := p1 h hlj
            simp only [indep, Bool.and_eq_true] at this
            exact absurd ht (noneIn_ok this.1.1.1.1 hd)
        · subst h; rw [hil]; simp
        · cases hlj : listed.getD j false with
          | false => simp; omega
          | true =>
            have := p2 h hlj
            simp only [indep, Bool.and_eq_true] at this
            exact absurd ht (noneIn_ok this.1.1.1.2 hd)
      · simp only [Nat.zero_add]
        obtain ⟨p1, p2⟩ := hpair j f hf
        rcases Nat.lt_trichotomy j i with h | h | h
        · cases hlj : listed.getD j false with
          | true => simp [h]
          | false =>
            have := p1 h hlj
            simp only [indep, Bool.and_eq_true] at this
            exact absurd hid (mem_apart this.1.2 hd)
        · subst h; rw [hil]; simp
        · cases hlj : listed.getD j false with
          | false => simp; omega
          | true =>
            have := p2 h hlj
            simp only [indep, Bool.and_eq_true] at this
            exact absurd hid (mem_apart this.2 hd)
    -- behind it
    have hsz' : (listed.setIfInBounds i true).size = ops.size := by simpa using hsz
    have hgi : ∀ j, (listed.setIfInBounds i true).getD j false = if j = i then true else listed.getD j false := by
      intro j
      by_cases e' : j = i
      · subst e'; rw [if_pos rfl]; simp [hlt]
      · rw [if_neg e', getD_set_ne false (Ne.symm e')]
    have hrun : runE (fun j => (listed.setIfInBounds i true).getD j false) 0 L s = putE (runE (fun j => listed.getD j false) 0 L s) e := by
      have h1 : (fun j => (listed.setIfInBounds i true).getD j false) = (fun j => if j = 0 + i then true else listed.getD j false) := funext fun j => by rw [hgi j, Nat.zero_add]
      rw [h1]
      refine runE_insert (p := fun j => listed.getD j false) he (by simpa using hil) fun j f hf hij hlj => ?_
      have := (hpair j f hf).2 hij (by simpa using hlj)
      simp only [indep, Bool.and_eq_true] at this
      exact ⟨this.1.1.2, fun id h1 h2 => mem_apart this.1.2 h1 (by simp only [Ent.deps, List.mem_append]; exact .inl (.inr h2))⟩
    have hnext : ∀ a' w', Rel cx (putE (runE (fun j => listed.getD j false) 0 L s) e) a' w' → wpAny P .any ops Q fuel (listed.setIfInBounds i true) a' w' := by
      intro a' w' hR'
      refine ih _ a' w' hsz' ?_ (fun j o' hj hp b hb => ?_) (by rw [hrun]; exact hR')
      · have hf : listed[i] = false := by simpa [hlt] using hil
        have h1 : listed.toList = listed.toList.take i ++ (false :: listed.toList.drop (i + 1)) := by
          rw [← hf, ← Array.getElem_toList hlt, ← List.drop_eq_getElem_cons (by simpa using hlt), List.take_append_drop]
        have h2 : (listed.setIfInBounds i true).toList = listed.toList.take i ++ (true :: listed.toList.drop (i + 1)) := by
          rw [Array.toList_setIfInBounds, List.set_eq_take_append_cons_drop, if_pos (by simpa using hlt)]
        rw [h1] at hc
        rw [h2]
        simp only [List.filter_append, List.filter_cons, Bool.not_false, Bool.not_true, if_true, Bool.false_eq_true, if_false, List.length_append, List.length_cons] at hc ⊢
        omega
      · rw [hgi] at hp ⊢
        by_cases e' : j = i
        · subst e'
          rw [hao] at hj
          cases hj
          split
          · rfl
          · exact haft b hb
        · rw [if_neg e'] at hp
          split
          · rfl
          · exact hcl j o' hj hp b hb
    unfold wpOp
    rw [ho]
    simp only
    have hd : ∀ d, o.dst = some d → d < cx.N.n := by rw [hN]; exact g4
    subst heo
    unfold OpR at hX
    cases hg : o.guard with
    | none =>
      rw [hg] at g6
      simp only at g6
      rw [g6] at hX
      obtain ⟨hx1, hx2⟩ := hX
      rw [if_pos (by simp [Region.wanted, hg])]
      rw [hx1] at hx2
      exact .inl (step_ok hN hA hR hx2 fun a' w' h => hnext a' w' h)
    | some pr =>
      obtain ⟨j, b⟩ := pr
      rw [hg] at g6
      obtain ⟨t, h6, h7⟩ := g6
      rw [h7] at hX
      obtain ⟨c, hc1, hc2⟩ := hX
      have hy := yields_ok hR h6 hc1
      rcases hc2 with ⟨hcb, hx1, hx2⟩ | ⟨hcb, hx1, hx2, hx3⟩
      · rw [if_pos (by simp [Region.wanted, hg, hy, hcb])]
        rw [hx1] at hx2
        exact .inl (step_ok hN hA hR hx2 fun a' w' h => hnext a' w' h)
      · rw [if_neg (by simp [Region.wanted, hg, hy, hcb])]
        have := hR.skip hd
        rw [← g3] at this
        refine hnext _ _ ?_
        unfold putE
        rw [hx1, hx2]
        rw [g3] at this ⊢
        exact this
end
end
end Go.Proofs.YthbhkkdaaipngaaGreatDoor.Sim
