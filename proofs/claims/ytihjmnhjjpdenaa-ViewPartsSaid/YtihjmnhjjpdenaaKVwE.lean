/- Queries of the second kind of the document. -/
import Derived.Test.YtihjmnhjjpdenaaKSimZ
import Derived.Test.YtihjmnhjjpdenaaKVwD
section
namespace Go.Proofs.Ytihjmnhjjpdenaa.Sim
open Go Go.RowKit Go.Deep
set_option linter.unusedVariables false
section
variable {m : M} {hd : H} {w : World} {S X : Nat → Prop} {B : Nat}
theorem rows1 : ∀ {ds : List D} {us : List Value}, Cells w S ds us → Rows w S 1 (ds.map fun d => [d]) us
  | [], us, h => by simp only [Cells] at h; subst h; simp [Rows]
  | d :: ds, us, h => by
    simp only [Cells] at h
    obtain ⟨x, r, rfl, h1, h2⟩ := h
    simp only [List.map_cons, Rows]
    exact ⟨[x], r, rfl, rfl, by simp only [Cells]; exact ⟨x, [], rfl, h1, rfl⟩, rows1 h2⟩
theorem out_seal (h : Mem m hd w S X B) {i v b : Nat} {cs : List V} {ds : List D} {vs : List Value} (hi : m i = some (.box v cs)) (hb : hd i = .pointer (some ⟨b, 0, none⟩)) (hc : Cells w S ds vs) (hr : w.rangeAt b 0 vs) (hn : ds.length ≤ maxLen) :
    ∃ S', Out X B m hd w S (up m i (some (.arr (v + 1) 1 false (ds.map fun d => [d])))) (up hd i (.slice (some ⟨b, 0, none⟩) ds.length ds.length)) w S' ∧ (D.sl 1 (ds.map fun d => [d])).is w S' (.slice (some ⟨b, 0, none⟩) ds.length ds.length) := by
  have hblk := h.blk hi rfl (b := b) (by rw [hb]; rfl)
  let S' : Nat → Prop := fun x => S x ∨ x = b
  have hD : (D.sl 1 (ds.map fun d => [d])).is w S' (.slice (some ⟨b, 0, none⟩) ds.length ds.length) := by
    simp only [D.is]
    exact ⟨_, _, vs, by rw [List.length_map], by rw [List.length_map]; exact Nat.le_refl _, hn, Rows.keep (fun x hx _ => ⟨.inl hx, rfl⟩) _ _ _ (rows1 hc), fun _ => ⟨b, 0, rfl, ⟨.inr rfl, hblk.1⟩, hr⟩⟩
  have hle : Le m hd (up m i (some (.arr (v + 1) 1 false (ds.map fun d => [d])))) (up hd i (.slice (some ⟨b, 0, none⟩) ds.length ds.length)) := ⟨fun j oj hj => by
    by_cases e : j = i
    · subst e
      rw [hi] at hj
      cases hj
      exact ⟨_, up_same _ _ _, by simp [O.ver], fun e => by simp [O.ver] at e⟩
    · exact ⟨oj, by rw [up_ne _ _ e]; exact hj, Nat.le_refl _, fun _ => ⟨by rw [up_ne _ _ e], rfl⟩⟩⟩
  refine ⟨S', ⟨?_, hle, fun b hb _ => ⟨.inl hb, rfl⟩, Fr.refl _ _, fun x hx => hx.elim .inl fun e => by subst e; exact .inr hblk.2.2.symm⟩, hD⟩
  refine Mem.next (Z := fun _ => False) h (Nat.le_refl _) (fun _ _ _ => rfl) (fun _ _ h => h) (fun b hb => .inl hb) (fun x hx => hx.elim (h.lt x) fun e => by subst e; exact hblk.1) hle (fun j oj hj => ?_) (fun j k' oj ok x hjk hj hk lj lk bj bk => ?_)
  · by_cases e : j = i
    · subst e
      rw [up_same] at hj
      cases hj
      refine .inr ?_
      simp only [O.is, Bool.false_eq_true, if_false, up_same]
      exact hD
    · rw [up_ne _ _ e] at hj
      refine .inl ⟨hj, up_ne _ _ e, fun x hl hx => ⟨fun h => h, ?_⟩⟩
      rintro (h1 | h1)
      · exact (h.blk hj hl hx).2.1 h1
      · subst h1
        exact h.sep j i oj _ x e hj hi hl rfl hx (by rw [hb]; rfl)
  · by_cases e : j = i
    · subst e; rw [up_same] at hj; cases hj; cases lj
    · by_cases e' : k' = i
      · subst e'; rw [up_same] at hk; cases hk; cases lk
      · rw [up_ne _ _ e] at hj bj
        rw [up_ne _ _ e'] at hk bk
        exact h.sep j k' oj ok x hjk hj hk lj lk bj bk
end
section
variable {P : Program} {cx : Cx} {Q : Exit → St → Prop} {s : St} {a : Act} {w : World}
/-- What slot t leads to, a variable of slices, is data from now on. -/
def SealS (s s2 : St) : Prop := ∃ t i v n q cs ds, s.T t = .ep i v n q ∧ s.m i = some (.box v cs) ∧ n = cs.length ∧ cs.length ≤ maxLen ∧ dcells s.m cs = some ds ∧ ups s.m (frz s.m cs) i = some (.box v cs) ∧ s2 = ⟨up s.T t (.d (.sl 1 (ds.map fun d => [d]))), up (ups s.m (frz s.m cs)) i (some (.arr (v + 1) 1 false (ds.map fun d => [d])))⟩
theorem Rel.seal {s2 : St} (h : Rel cx s a w) (hs : SealS s s2) : Rel cx s2 a w := by
  obtain ⟨t, i, v, n, q, cs, ds, hT, hi, hn, hmx, hd, hi2, rfl⟩ := hs
  obtain ⟨hd1, S, hm, hv, hfr, hdef, hsz, hsub, hle⟩ := h
  have hob := hm.obj i _ hi
  simp only [O.is] at hob
  obtain ⟨b, vs, e, _, _, _, hvs, _, _, hr⟩ := hob
  obtain ⟨S1, o1⟩ := out_frzs hm cs
  have hc := dcells_ok (fun b hb => ((o1.keep b hb (hm.lt b hb)).1)) o1.mem hvs hd (fun i v k mu l' hmem hi => ups_frz_get hi _ _ hmem)
  have hcl : ds.length = cs.length := by rw [← hc.len, hvs.len]
  obtain ⟨S2, o2, hD⟩ := out_seal o1.mem hi2 e hc hr (by omega)
  refine ⟨_, S2, o2.mem, fun t' => ?_, hfr, hdef, hsz, fun b hb => ?_, hle.trans (o1.le.trans o2.le)⟩
  · simp only
    by_cases e' : t' = t
    · subst e'
      rw [up_same]
      have := hv t'
      rw [hT] at this
      simp only [VR] at this ⊢
      obtain ⟨_, y, hy, _, _, h3⟩ := this
      rw [hi] at hy
      cases hy
      obtain ⟨b', g1, g2⟩ := h3 cs rfl
      rw [e] at g1
      cases g1
      rw [g2, hn, ← hcl]
      exact hD
    · rw [up_ne _ _ e']
      exact o2.vr (o1.vr (hv t'))
  · rcases o2.more b hb with h1 | h1
    · exact (o1.more b h1).elim (hsub b) .inr
    · exact .inr h1
theorem Awp.seal {c : AC} (h : Awp P cx c (fun e s => ∃ s2, SealS s s2 ∧ Q e s2) s) : Awp P cx c Q s := by
  intro code hc a w hR b k cs
  obtain ⟨e, a', w', ⟨s', ⟨s2, h1, h2⟩, hR'⟩, harr⟩ := h code hc a w hR b k cs
  exact ⟨e, a', w', ⟨s2, h2, hR'.seal h1⟩, harr⟩
theorem seal_mk (t i : Nat) {v n q : Nat} {cs : List V} {ds : List D} {e : Exit} (h1 : s.T t = .ep i v n q) (h2 : s.m i = some (.box v cs)) (h3 : n = cs.length) (h4 : cs.length ≤ maxLen) (h5 : dcells s.m cs = some ds) (h6 : ups s.m (frz s.m cs) i = some (.box v cs))
    (h : Q e ⟨up s.T t (.d (.sl 1 (ds.map fun d => [d]))), up (ups s.m (frz s.m cs)) i (some (.arr (v + 1) 1 false (ds.map fun d => [d])))⟩) : ∃ s2, SealS s s2 ∧ Q e s2 :=
  ⟨_, ⟨t, i, v, n, q, cs, ds, h1, h2, h3, h4, h5, h6, rfl⟩, h⟩
/-- .. or not. -/
theorem Awp.mayseal {c : AC} (h : Awp P cx c (fun e s => Q e s ∨ ∃ s2, SealS s s2 ∧ Q e s2) s) : Awp P cx c Q s := by
  intro code hc a w hR b k cs
  obtain ⟨e, a', w', ⟨s', h1 | ⟨s2, h1, h2⟩, hR'⟩, harr⟩ := h code hc a w hR b k cs
  · exact ⟨e, a', w', ⟨s', h1, hR'⟩, harr⟩
  · exact ⟨e, a', w', ⟨s2, h2, hR'.seal h1⟩, harr⟩
end
end Go.Proofs.Ytihjmnhjjpdenaa.Sim
end
section
namespace Go.Proofs.Ytihjmnhjjpdenaa.Sim
open Go Go.RowKit Go.Deep
set_option linter.unusedVariables false
theorem join_on {α : Type} {C F : α → Prop} {G : Prop} (h : (∀ a, C a → F a) → G) (k : ∀ a, C a → F a) : G := h k
/-- A state that says less. -/
theorem awp_meet {P : Program} {cx : Cx} {c : AC} {Q : Exit → St → Prop} {bx : U} {T : Nat → V} {m : M} (hx : cx.m0 = ups M0 bx) (fz : List V) (ad : List Nat) (T0 : List (Nat × V)) (ml : U) (hg : GeZ ⟨T, m⟩ fz ad T0 ml bx) (h : Awp P cx c Q ⟨tl T0, ups M0 ml⟩) : Awp P cx c Q ⟨T, m⟩ := by
  intro code hc a w hR
  exact Awp.weaken (s := ⟨T, ups m (frz m fz)⟩) (bx := bx) ad T0 ml hx h hg.1 hg.2.1 hg.2.2.1 hg.2.2.2 code hc a w (hR.frz fz)
end Go.Proofs.Ytihjmnhjjpdenaa.Sim
end
section
namespace Go.Proofs.Ytihjmnhjjpdenaa.Sim
open Go
set_option maxRecDepth 100000
set_option maxHeartbeats 4000000
set_option linter.unusedVariables false
set_option linter.unusedSimpArgs false
attribute [local irreducible] Go Mean
/-- The coefficients of the query of a row. -/
def coef17 (ix deg : Nat) (t : List Int) (i : Nat) : List Int := (if i = ix then 1 else 0) :: (t.drop (i * deg)).take deg
/-- What server k + 1 gets for the first rows. -/
def colG (p : Int) (cf : Nat → List Int) (k : Nat) : Nat → List Int
  | 0 => []
  | i + 1 => colG p cf k i ++ [polyV p ((k + 1 : Nat) : Int) (cf i)]
theorem colG_len {p : Int} {cf : Nat → List Int} {k : Nat} : ∀ {i : Nat}, (colG p cf k i).length = i
  | 0 => rfl
  | i + 1 => by rw [colG]; simp [colG_len]
theorem colG_in {p : Int} (hp : okP p) {cf : Nat → List Int} {k n : Nat} (hk : k < 6) (h : ∀ i < n, inF p (cf i)) : ∀ {i : Nat}, i ≤ n → inF p (colG p cf k i)
  | 0, _ => by intro x hx; simp [colG] at hx
  | i + 1, hi => by
    intro x hx
    rw [colG] at hx
    have := hp.le
    rcases List.mem_append.1 hx with h1 | h1
    · exact colG_in hp hk h (i := i) (by omega) x h1
    · obtain rfl := List.mem_singleton.1 h1
      exact polyV_in hp ⟨by omega, by omega⟩ (h i (by omega))
theorem coef17_in {p : Int} (hp : okP p) {ix deg : Nat} {t : List Int} (ht : inF p t) (i : Nat) : inF p (coef17 ix deg t i) := fun y hy => by
  have := hp.le
  rcases List.mem_cons.1 hy with rfl | hy
  · split <;> omega
  · exact ht y (List.mem_of_mem_drop (List.mem_of_mem_take hy))
theorem share_at {p : Int} {f : List Int} : ∀ {n k : Nat}, k < n → (sharesG p f n).getD k (0, 0) = (((k + 1 : Nat) : Int), polyV p ((k + 1 : Nat) : Int) f)
  | 0, k, h => by omega
  | n + 1, k, h => by
    rw [sharesG, List.getD_eq_getElem?_getD]
    by_cases hk : k < n
    · rw [List.getElem?_append_left (by rw [sharesG_len]; exact hk), ← List.getD_eq_getElem?_getD, share_at hk]
    · obtain rfl : k = n := by omega
      rw [List.getElem?_append_right (by rw [sharesG_len]; exact Nat.le_refl _), sharesG_len, Nat.sub_self]
      rfl
end Go.Proofs.Ytihjmnhjjpdenaa.Sim
end
