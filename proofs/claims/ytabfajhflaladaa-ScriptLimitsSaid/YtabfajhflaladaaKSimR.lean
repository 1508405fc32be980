/- States that say less; results: of no program. Conditions: none. -/
import Derived.Test.YtabfajhflaladaaKSimQ
namespace Go.Proofs.Ytabfajhflaladaa.Sim
open Go Go.RowKit Go.Deep
set_option linter.unusedVariables false

def TW (m m0 : M) (ad : List Nat) (T : Nat → V) : List (Nat × V) → Prop
  | [] => True
  | (t, v) :: r => W m m0 ad (T t) v ∧ TW m m0 ad T r
def MW (m m0 : M) (ad : List Nat) : U → Prop
  | [] => True
  | (i, .box v cs0) :: r => (ad.contains i = false ∧ ∃ cs, m i = some (.box v cs) ∧ Ws m m0 ad cs cs0) ∧ MW m m0 ad r
  | (i, .arr v k mu l) :: r => (if ad.contains i = true then v = 0 ∧ mu = true ∧ l = [] else m i = some (.arr v k mu l)) ∧ MW m m0 ad r
def adOK (m0 : M) : List Nat → Prop
  | [] => True
  | i :: r => (∃ k mu l, m0 i = some (.arr 0 k mu l)) ∧ adOK m0 r
def parOK (m0 : M) (ad : List Nat) : U → Prop
  | [] => True
  | (i, _) :: r => (ad.contains i = false ∧ (m0 i).isSome = true) ∧ parOK m0 ad r

section
variable {m m0 : M} {ad : List Nat}
theorem TW_ok {T : Nat → V} : ∀ {l : List (Nat × V)}, TW m m0 ad T l → ∀ t, W m m0 ad (T t) (tl l t)
  | [], _, t => by simp only [tl]; cases T t <;> simp only [W]
  | (i, v) :: r, h, t => by
    simp only [TW] at h
    simp only [tl, up]
    split
    · rename_i e; rw [e]; exact h.1
    · exact TW_ok h.2 t
theorem MW_ok : ∀ {us : U}, MW m m0 ad us → ∀ x ∈ us, (∃ i v cs0, x = (i, .box v cs0) ∧ ad.contains i = false ∧ ∃ cs, m i = some (.box v cs) ∧ Ws m m0 ad cs cs0) ∨ (∃ i v k mu l, x = (i, .arr v k mu l) ∧ if ad.contains i = true then v = 0 ∧ mu = true ∧ l = [] else m i = some (.arr v k mu l))
  | [], _, x, hx => by cases hx
  | (i, .box v cs0) :: r, h, x, hx => by
    simp only [MW] at h
    rcases List.mem_cons.1 hx with rfl | hx
    · exact .inl ⟨i, v, cs0, rfl, h.1⟩
    · exact MW_ok h.2 x hx
  | (i, .arr v k mu l) :: r, h, x, hx => by
    simp only [MW] at h
    rcases List.mem_cons.1 hx with rfl | hx
    · exact .inr ⟨i, v, k, mu, l, rfl, h.1⟩
    · exact MW_ok h.2 x hx
theorem adOK_ok : ∀ {l : List Nat}, adOK m0 l → ∀ i ∈ l, ∃ k mu l, m0 i = some (.arr 0 k mu l)
  | [], _, i, hi => by cases hi
  | j :: r, h, i, hi => by
    simp only [adOK] at h
    rcases List.mem_cons.1 hi with rfl | hi
    · exact h.1
    · exact adOK_ok h.2 i hi
theorem parOK_ok : ∀ {us : U}, parOK m0 ad us → ∀ x ∈ us, ad.contains x.1 = false ∧ (m0 x.1).isSome = true
  | [], _, i, hi => by cases hi
  | (j, o) :: r, h, i, hi => by
    simp only [parOK] at h
    rcases List.mem_cons.1 hi with rfl | hi
    · exact h.1
    · exact parOK_ok h.2 i hi
theorem Ws_len {m m0 : M} {ad : List Nat} : ∀ {l l' : List V}, Ws m m0 ad l l' → l'.length = l.length
  | [], [], _ => rfl
  | _ :: l, _ :: l', h => by simp only [Ws] at h; simp [Ws_len h.2]
  | [], _ :: _, h => by simp [Ws] at h
  | _ :: _, [], h => by simp [Ws] at h
end

section
variable {P : Program} {cx : Cx} {s : St} {a : Act} {w : World}
theorem Rel.weaken (h : Rel cx s a w) (ad : List Nat) (T0 : List (Nat × V)) (ml bx : U) (hx : cx.m0 = ups M0 bx) (hT : TW s.m (ups M0 ml) ad s.T T0) (hM : MW s.m (ups M0 ml) ad ml) (hA : adOK (ups M0 ml) ad) (hP : parOK (ups M0 ml) ad bx) : Rel cx ⟨tl T0, ups M0 ml⟩ a w := by
  obtain ⟨hd, S, hm, hv, hfr, hdef, hsz, hsub, hle⟩ := h
  let hd0 : H := fun i => if ad.contains i = true then .slice none 0 0 else hd i
  have hget : ∀ i o, ups M0 ml i = some o → (i, o) ∈ ml := fun i o h => by
    rcases ups_or i ml M0 with ⟨h1, _⟩ | ⟨o', h1, h2⟩
    · rw [h1] at h; cases h
    · rw [h2] at h; cases h; exact h1
  have hc : ∀ i, i ∈ ad ↔ ad.contains i = true := fun i => by simp
  have h0 : ∀ i o, i ∉ ad → ups M0 ml i = some o → ∃ o', s.m i = some o' ∧ o'.ver = o.ver ∧ o'.kind = o.kind := by
    intro i o hi ho
    rcases MW_ok hM _ (hget i o ho) with ⟨i', v, cs0, e, h1, cs, h2, h3⟩ | ⟨i', v, k, mu, l, e, h1⟩
    · cases e; exact ⟨_, h2, rfl, rfl⟩
    · cases e
      rw [if_neg (fun h => hi ((hc _).2 h))] at h1
      exact ⟨_, h1, rfl, rfl⟩
  have hh : ∀ i, i ∉ ad → hd0 i = hd i := fun i hi => if_neg (fun h => hi ((hc i).2 h))
  have ha : ∀ i, i ∈ ad → hd0 i = .slice none 0 0 ∧ ∃ k mu l, ups M0 ml i = some (.arr 0 k mu l) := fun i hi => ⟨if_pos ((hc i).1 hi), adOK_ok hA i hi⟩
  have hobj : ∀ i o, ups M0 ml i = some o → o.is (ups M0 ml) hd0 w S cx.X cx.w0.heap.size (hd0 i) := by
    intro i o ho
    rcases MW_ok hM _ (hget i o ho) with ⟨i', v, cs0, e, h1, cs, h2, h3⟩ | ⟨i', v, k, mu, l, e, h1⟩
    · cases e
      have hi : i ∉ ad := fun h => by rw [(hc i).1 h] at h1; cases h1
      have hob := hm.obj i _ h2
      rw [hh i hi]
      simp only [O.is] at hob ⊢
      obtain ⟨b, vs, e, g1, g2, g3, g4, g5, g6, g7⟩ := hob
      exact ⟨b, vs, e, g1, g2, g3, Ws_ok hm h0 hh ha _ _ _ h3 g4, g5, by rw [Ws_len h3]; exact g6, g7⟩
    · cases e
      by_cases hi : i ∈ ad
      · rw [if_pos ((hc i).1 hi)] at h1
        obtain ⟨rfl, rfl, rfl⟩ := h1
        rw [(ha i hi).1]
        simp only [O.is, if_true]
        exact ⟨[], by simp [Rows], .inl ⟨none, rfl, rfl⟩⟩
      · rw [if_neg (fun h => hi ((hc i).2 h))] at h1
        rw [hh i hi]
        have hob := hm.obj i _ h1
        simp only [O.is] at hob ⊢
        exact hob
  have hback : ∀ i o, ups M0 ml i = some o → o.live = true → ∀ b, blk (hd0 i) = some b → i ∉ ad ∧ ∃ o', s.m i = some o' ∧ o'.live = true ∧ blk (hd i) = some b := by
    intro i o ho hl b hb
    have hi : i ∉ ad := fun h => by rw [(ha i h).1] at hb; simp [blk] at hb
    rw [hh i hi] at hb
    refine ⟨hi, ?_⟩
    rcases MW_ok hM _ (hget i o ho) with ⟨i', v, cs0, e, h1, cs, h2, h3⟩ | ⟨i', v, k, mu, l, e, h1⟩
    · cases e; exact ⟨_, h2, rfl, hb⟩
    · cases e
      rw [if_neg (fun h => hi ((hc _).2 h))] at h1
      exact ⟨_, h1, hl, hb⟩
  refine ⟨hd0, S, ⟨hobj, ?_, hm.lt, hm.base, hm.sX⟩, fun t => W_ok hm h0 hh ha _ _ _ (TW_ok hT t) (hv t), hfr, hdef, hsz, hsub, ⟨fun i o ho => ?_⟩⟩
  · intro i j oi oj b hne hi hj li lj bi bj
    obtain ⟨_, o1, e1, l1, b1⟩ := hback i oi hi li b bi
    obtain ⟨_, o2, e2, l2, b2⟩ := hback j oj hj lj b bj
    exact hm.sep i j o1 o2 b hne e1 e2 l1 l2 b1 b2
  · obtain ⟨o1, h1, h2, h3⟩ := hle.le i o ho
    have hmem : ∃ o', (i, o') ∈ bx := by
      rw [hx] at ho
      rcases ups_or i bx M0 with ⟨h1, _⟩ | ⟨o', h1, h2⟩
      · rw [h1] at ho; cases ho
      · exact ⟨o', h1⟩
    obtain ⟨o', hmem⟩ := hmem
    obtain ⟨p1, p2⟩ := parOK_ok hP _ hmem
    have hi : i ∉ ad := fun h => by rw [(hc i).1 h] at p1; cases p1
    obtain ⟨o2, p3⟩ := Option.isSome_iff_exists.1 p2
    obtain ⟨o3, p4, p5, p6⟩ := h0 i o2 hi p3
    rw [h1] at p4
    cases p4
    refine ⟨o2, p3, by omega, fun e => ?_⟩
    obtain ⟨q1, q2⟩ := h3 (by omega)
    exact ⟨(hh i hi).trans q1, by rw [← p6]; exact q2⟩
theorem Awp.weaken {c : AC} {Q : Exit → St → Prop} {bx : U} (ad : List Nat) (T0 : List (Nat × V)) (ml : U) (hx : cx.m0 = ups M0 bx) (h : Awp P cx c Q ⟨tl T0, ups M0 ml⟩) (hT : TW s.m (ups M0 ml) ad s.T T0) (hM : MW s.m (ups M0 ml) ad ml) (hA : adOK (ups M0 ml) ad) (hP : parOK (ups M0 ml) ad bx) : Awp P cx c Q s :=
  fun code hc a w hR => h code hc a w (hR.weaken ad T0 ml bx hx hT hM hA hP)
end
/-- As Rel.weaken asks it. -/
def GeS (s : St) (ad : List Nat) (T0 : List (Nat × V)) (ml bx : U) : Prop := TW s.m (ups M0 ml) ad s.T T0 ∧ MW s.m (ups M0 ml) ad ml ∧ adOK (ups M0 ml) ad ∧ parOK (ups M0 ml) ad bx

section
variable {P : Program} {cx : Cx} {Q : Exit → St → Prop} {s : St}
/-- A LOOP: at its head the walk stands at one of the states of a family. -/
theorem Awp.loopF {ι : Type} {x : AC} {bx : U} (hx : cx.m0 = ups M0 bx) (T0 : ι → List (Nat × V)) (ml : ι → U) (μ : ι → Nat) (ad : List Nat) (i0 : ι) (h0 : GeS s ad (T0 i0) (ml i0) bx)
    (hr : ∀ i, Awp P cx x (thenE (fun s' => ∃ i', GeS s' [] (T0 i') (ml i') bx ∧ μ i' < μ i) Q) ⟨tl (T0 i), ups M0 (ml i)⟩) : Awp P cx (.loop x) Q s := by
  refine Awp.weaken (bx := bx) ad (T0 i0) (ml i0) hx ?_ h0.1 h0.2.1 h0.2.2.1 h0.2.2.2
  intro code hc a w hR
  cases code <;> try (simp [compile] at hc; done)
  case loop c1 =>
    simp only [compile, Option.map_eq_some_iff] at hc
    obtain ⟨x', h1, h2⟩ := hc
    cases h2
    intro b k cs
    have key : ∀ n i a w, μ i = n → Rel cx ⟨tl (T0 i), ups M0 (ml i)⟩ a w → ∃ e a' w', (∃ s', Q e s' ∧ Rel cx s' a' w') ∧ Arrives P (lone (b.at a (.code c1 :: .inLoop c1 :: k)) cs w) b k cs e a' w' := by
      intro n
      induction n using Nat.strongRecOn with
      | _ n ih =>
        intro i a w hn hR
        obtain ⟨e, a₁, w₁, ⟨s₁, hq, hR₁⟩, harr⟩ := hr i c1 h1 a w hR b (.inLoop c1 :: k) cs
        cases e with
        | normal =>
          obtain ⟨i', hg, hlt⟩ := hq
          obtain ⟨e₂, a₂, w₂, hq₂, harr₂⟩ := ih (μ i') (hn ▸ hlt) i' a₁ w₁ rfl (hR₁.weaken [] _ _ bx hx hg.1 hg.2.1 hg.2.2.1 hg.2.2.2)
          exact ⟨e₂, a₂, w₂, hq₂, .of_steps (Steps.trans harr (.one step_inLoop)) harr₂⟩
        | exit id => exact ⟨_, a₁, w₁, ⟨s₁, hq, hR₁⟩, .pass (x := .inLoop c1) rfl (fun _ _ => .inl (by simp)) harr⟩
        | goto l => exact ⟨_, a₁, w₁, ⟨s₁, hq, hR₁⟩, .pass (x := .inLoop c1) rfl (fun _ _ => .inl (by simp)) harr⟩
        | ret => exact ⟨_, a₁, w₁, ⟨s₁, hq, hR₁⟩, .pass (x := .inLoop c1) rfl (fun _ _ => .inl (by simp)) harr⟩
        | panic ch => exact ⟨_, a₁, w₁, ⟨s₁, hq, hR₁⟩, .pass (x := .inLoop c1) rfl (fun _ _ => .inl (by simp)) harr⟩
        | outgrown => exact ⟨_, a₁, w₁, ⟨s₁, hq, hR₁⟩, .pass (x := .inLoop c1) rfl (fun _ _ => .inl (by simp)) harr⟩
    obtain ⟨e, a', w', hq, harr⟩ := key _ i0 a w rfl hR
    exact ⟨e, a', w', hq, .of_steps (.one step_loop) harr⟩
  all_goals ((try unfold compile at hc); first | (split at hc <;> (first | (cases hc; done) | (simp at hc; done))) | (simp at hc; done))
end
end Go.Proofs.Ytabfajhflaladaa.Sim
