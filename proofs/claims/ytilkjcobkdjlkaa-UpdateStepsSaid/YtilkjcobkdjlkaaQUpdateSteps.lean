/- UpdateSteps: at every input the law returns true, and each argument reads afterwards as it read before. -/
import Derived.Test.YtilkjcobkdjlkaaSimBr
import Derived.SizedLaws
import Derived.Test.YtilkjcobkdjlkaaUpE
import Derived.Test.YtilkjcobkdjlkaaAcsE
import Derived.Test.YtilkjcobkdjlkaaUpG
import Derived.Test.YtilkjcobkdjlkaaAcsUS
import Derived.Test.YtilkjcobkdjlkaaRows
import Derived.ProofKit
import Derived.OpenShut
import Derived.ShutString
import Derived.ChangeOld
import Derived.Below
section
namespace Go.Proofs.Ytilkjcobkdjlkaa.Sim
open Go Go.RowKit Go.Deep Go.ChangeShapes Go.WideShapes
set_option linter.unusedVariables false
/-- All that it holds has room. -/
def Sized {H : Type} (P : Program) (t : TypeId) (d : DataW H) : Prop := ∀ n ∈ d.weights P t, n ≤ reachBytes
/-- What is read at type t is a datum of α, which is ok where all has room. -/
def OpensD (P : Program) (t : TypeId) {α : Type} (f : α → List D) (ok : α → Prop) : Prop :=
  ∀ (H : Type) (enc : TypeId × Value → H) (w : World) (base : Nat) (spare : Nat → Bool) (held : Bool) (fuel : Nat) (cs : List Value) (x : DataW H × List MemPlace),
    DataW.trod enc P w base spare held fuel t cs = some x → ∃ a : α, Cells w (Lo w.heap.size) (f a) cs ∧ (Sized P t x.1 → ok a)
theorem OpensD.mono {P : Program} {t : TypeId} {α : Type} {f : α → List D} {ok ok' : α → Prop} (h : OpensD P t f ok) (hk : ∀ a, ok a → ok' a) : OpensD P t f ok' := by
  intro H enc w base spare held fuel cs x hx
  obtain ⟨a, h1, h2⟩ := h _ _ _ _ _ _ _ _ _ hx
  exact ⟨a, h1, fun h3 => hk a (h2 h3)⟩
theorem OpensD.map {P : Program} {t : TypeId} {α β : Type} {f : α → List D} {ok : α → Prop} (h : OpensD P t f ok) (g : α → β) {f' : β → List D} {ok' : β → Prop} (hf : ∀ a, f' (g a) = f a) (hk : ∀ a, ok a → ok' (g a)) : OpensD P t f' ok' := by
  intro H enc w base spare held fuel cs x hx
  obtain ⟨a, h1, h2⟩ := h _ _ _ _ _ _ _ _ _ hx
  exact ⟨g a, by rw [hf]; exact h1, fun h3 => hk a (h2 h3)⟩
theorem OpensD.int {P : Program} {t : TypeId} (ht : P.underlying t = some (.int .i64)) : OpensD P t (fun x : Int => [D.at (.int .i64 x)]) (fun x => -9223372036854775808 ≤ x ∧ x ≤ 9223372036854775807) := by
  intro H enc w base spare held fuel cs x h
  obtain ⟨n, rfl, rfl, hw⟩ := DataW.trod_int ht h
  refine ⟨n, by simp only [Cells, D.is]; exact ⟨_, _, rfl, ⟨rfl, rfl⟩, rfl⟩, fun _ => ?_⟩
  have := i64_of_wf hw
  exact this
theorem OpensD.u8 {P : Program} {t : TypeId} (ht : P.underlying t = some (.int .u8)) : OpensD P t (fun x : UInt8 => [D.at (.int .u8 x.toNat)]) (fun _ => True) := by
  intro H enc w base spare held fuel cs x h
  obtain ⟨n, rfl, rfl, hw⟩ := DataW.trod_int ht h
  have hn : 0 ≤ n ∧ n ≤ 255 := by simpa [Lit.wf, IntKind.min, IntKind.max, IntKind.signed, IntKind.bits] using hw
  obtain ⟨m, rfl⟩ := Int.eq_ofNat_of_zero_le hn.1
  refine ⟨UInt8.ofNat m, ?_, fun _ => trivial⟩
  simp only [Cells, D.is]
  refine ⟨_, _, rfl, ⟨?_, rfl⟩, rfl⟩
  rw [UInt8.toNat_ofNat', Nat.mod_eq_of_lt (by omega)]
theorem sized_all {H : Type} {P : Program} {e : TypeId} : ∀ {l : List (DataW H)} {i : Nat} (h : i < l.length), ∀ n ∈ l[i].weights P e, n ∈ DataW.weightsAll P e l
  | d :: l, 0, h, n, hn => by simp only [DataW.weightsAll, List.mem_append]; exact .inl hn
  | d :: l, i + 1, h, n, hn => by simp only [DataW.weightsAll, List.mem_append]; exact .inr (sized_all (by simpa using h) n hn)
/-- A SLICE. -/
theorem OpensD.slice {P : Program} {t e : TypeId} {k : Nat} {α : Type} {f : α → List D} {ok : α → Prop} (ht : P.underlying t = some (.slice e)) (hC : P.cellsOf e = k) (hpos : 0 < k) (hk : ∀ a, (f a).length = k) (he : OpensD P e f ok) : OpensD P t (fun l : List α => [D.sl k (l.map f)]) (fun l => l.length * P.bytesOf e ≤ reachBytes ∧ ∀ a ∈ l, ok a) := by
  intro H enc w base spare held fuel cs x h
  have hO : Opens P e (E k) (fun d e' => ∃ a, e'.cs = f a ∧ (Sized P e d → ok a)) := by
    intro H enc w base spare held fuel cs x h
    obtain ⟨a, h1, h2⟩ := he _ _ _ _ _ _ _ _ _ h
    exact ⟨⟨f a, hk a⟩, h1, a, rfl, h2⟩
  obtain ⟨l', ⟨v, rfl, hl⟩, hb⟩ := Opens.slice (α := E k) ht hC hpos hO _ _ _ _ _ _ _ _ _ h
  have key : ∃ la : List α, l'.map E.cs = la.map f ∧ (Sized P t x.1 → la.length * P.bytesOf e ≤ reachBytes ∧ ∀ a ∈ la, ok a) := by
    rcases hb with ⟨_, rfl⟩ | ⟨elems, spare, hx, hle, hi⟩
    · exact ⟨[], rfl, fun _ => ⟨by simp, fun a h => by cases h⟩⟩
    · obtain ⟨la, hlen, hla⟩ := list_of (fun i (a : α) => ∀ (h : i < l'.length) (h' : i < elems.length), l'[i].cs = f a ∧ (Sized P e elems[i] → ok a)) l'.length fun i hi' => by
        obtain ⟨a, h1, h2⟩ := hi i hi' (by omega)
        exact ⟨a, fun _ _ => ⟨h1, h2⟩⟩
      refine ⟨la, ?_, fun hs => ?_⟩
      · apply List.ext_getElem
        · simp [hlen]
        · intro i h1 h2
          simp only [List.length_map] at h1 h2
          rw [List.getElem_map, List.getElem_map]
          exact (hla i h2 h1 (by omega)).1
      · rw [hx] at hs
        have hw : ∀ n, n = (elems.length + spare.length) * P.bytesOf e ∨ n ∈ DataW.weightsAll P e elems → n ≤ reachBytes := fun n hn => hs n (by
          simp only [DataW.weights, ht, List.mem_cons, List.mem_append]
          exact hn.elim .inl fun h => .inr (.inl h))
        refine ⟨?_, fun a ha => ?_⟩
        · have h1 := hw _ (.inl rfl)
          have h2 : la.length * P.bytesOf e ≤ (elems.length + spare.length) * P.bytesOf e := Nat.mul_le_mul_right _ (by omega)
          omega
        · obtain ⟨i, hi', rfl⟩ := List.getElem_of_mem ha
          exact (hla i hi' (by omega) (by omega)).2 fun n hn => hw n (.inr (sized_all (by omega) n hn))
  obtain ⟨la, h1, h2⟩ := key
  refine ⟨la, ?_, h2⟩
  simp only [Cells]
  exact ⟨_, _, rfl, sl_iff.2 ⟨l', h1, hl⟩, rfl⟩
theorem cells_append {w : World} {S : Nat → Prop} : ∀ {c1 c2 : List D} {a b : List Value}, Cells w S c1 a → Cells w S c2 b → Cells w S (c1 ++ c2) (a ++ b)
  | [], c2, a, b, h, k => by simp only [Cells] at h; subst h; exact k
  | d :: c1, c2, a, b, h, k => by
    simp only [Cells] at h
    obtain ⟨x, r, rfl, h1, h2⟩ := h
    simp only [List.cons_append, Cells]
    exact ⟨x, r ++ b, rfl, h1, cells_append h2 k⟩
/-- A field of a struct. -/
theorem part_ok {P : Program} {t : TypeId} {fs : Array Field} (ht : P.underlying t = some (.struct fs)) {H : Type} {enc : TypeId × Value → H} {w : World} {base : Nat} {spare : Nat → Bool} {held : Bool} {n : Nat} {cs : List Value} {d : DataW H} {xs : List (DataW H × List MemPlace)} (hx : d = .agg (xs.map (·.1)))
    (hf : ∀ (j : Nat) (f : Field), fs[j]? = some f → DataW.trod enc P w base spare held n f.type ((cs.drop f.offset).take (P.cellsOf f.type)) = xs[j]?) {j : Nat} {f : Field} (hj : fs[j]? = some f) (hl : j < xs.length) {α : Type} {g : α → List D} {ok : α → Prop} (ho : OpensD P f.type g ok) :
    ∃ a : α, Cells w (Lo w.heap.size) (g a) ((cs.drop f.offset).take (P.cellsOf f.type)) ∧ (Sized P t d → ok a) := by
  have h1 := hf j f hj
  rw [List.getElem?_eq_getElem hl] at h1
  obtain ⟨a, h2, h3⟩ := ho _ _ _ _ _ _ _ _ _ h1
  refine ⟨a, h2, fun hs => h3 fun m hm => hs m ?_⟩
  rw [hx]
  simp only [DataW.weights, ht]
  refine DataW.weights_mem_each (j := j) (t := f.type) (d := xs[j].1) ?_ ?_ m hm
  · rw [List.getElem?_map, Array.getElem?_toList, hj]; rfl
  · rw [List.getElem?_map, List.getElem?_eq_getElem hl]; rfl
theorem sized_of {H : Type} {P : Program} {ts : List TypeId} {ds : List (DataW H)} (h : (DataW.weightsEach P ts ds).all (· ≤ reachBytes) = true) {j : Nat} {t : TypeId} {d : DataW H} (ht : ts[j]? = some t) (hd : ds[j]? = some d) : Sized P t d := fun n hn => by
  simpa using List.all_eq_true.1 h n (DataW.weights_mem_each ht hd n hn)
end Go.Proofs.Ytilkjcobkdjlkaa.Sim
end
section
namespace Go.Proofs.Ytilkjcobkdjlkaa.Sim
open Go
set_option maxRecDepth 100000
set_option maxHeartbeats 4000000
set_option linter.unusedVariables false
set_option linter.unusedSimpArgs false
attribute [local irreducible] Go Mean
theorem equalLL (a b : List (List Int)) (ha : a.length ≤ 1000000) (hb : b.length ≤ 1000000) (hsa : Short a) (hsb : Short b) : Does Try.prog 108 [.d (dRows a), .d (dRows b), .cl 91 []] [] (B (decide (a = b))) [] [] := by
  refine go_slices_EqualFunc_LLint_LLint_int_int rfl BxOK.nil fun cx hm0 => go_in 5000 ?_
  unfold ac_slices_EqualFunc_LLint_LLint_int_int rs_slices_EqualFunc_LLint_LLint_int_int
  by_cases hl : a.length = b.length
  · have q0 : ((a.length : Int) != (b.length : Int)) = false := by simp [hl]
    repeat' (first | simp (maxSteps := 9999999) only [↓GE, PL, PP, EE, QQ, seval, q0, List.length_map] | (simp (disch := omega) only [IntWalk.i64_in]) | (refine go_brD (fun h => ?_) (fun h => ?_)) | (refine go_gsD (by ((try simp only [EE, QQ, seval]) <;> rfl)) (fun h => ?_) (fun h => ?_)) | (refine go_br (fun h => ?_) (fun h => ?_)) | (refine go_gs (by ((try simp only [EE, QQ, seval]) <;> rfl)) (fun h => ?_) (fun h => ?_)) | (with_reducible apply And.intro) | (with_reducible exact trivial) | omega | (simp only [List.length_map, List.length_cons, List.length_nil] at *; omega) | (show _ = true; first | rfl | kernel_rfl))
    refine go_loop 5000 hm0 (ι := {k : Nat // k ≤ a.length ∧ ∀ j, j < k → a.getD j [] = b.getD j []}) (fun i => [(1, .d (dRows b)), (2, .cl 91 []), (15, .d (dRows a)), (16, I a.length), (17, I i.1)]) (fun i => []) (fun i => a.length - i.1) [] ⟨0, by omega, fun j h => by omega⟩ ?_ ?_
    · (simp only [GeS]; refine ⟨?_, ?_, ?_, ?_⟩; all_goals (repeat' (first | trivial | (with_reducible rfl) | simp only [CC, LL, EE, QQ, seval] | (with_reducible apply And.intro) | rfl | (refine ⟨_, rfl, ?_⟩) | (simp; done) | omega)))
    · rintro ⟨k, hk, hv⟩
      simp only
      by_cases hkl : k < a.length
      · have hs := getD_map eR [] [] a k hkl
        have hs' := getD_map eR [] [] b k (by omega)
        have hq := equalI _ _ (hsa _ (mem_getD [] a k hkl)) (hsb _ (mem_getD [] b k (by omega)))
        have hbad : a.getD k [] ≠ b.getD k [] → decide (a = b) = false := fun hne => decide_eq_false fun e => by subst e; exact hne rfl
        have hgo : a.getD k [] = b.getD k [] → ∀ j, j < k + 1 → a.getD j [] = b.getD j [] := fun he j hj => by
          by_cases e : j = k
          · subst e; exact he
          · exact hv j (by omega)
        have hkb : k < b.length := by omega
        generalize a.getD k [] = t at *
        generalize b.getD k [] = u at *
        by_cases g : t = u
        · rw [decide_eq_true g] at hq
          repeat' (first | simp (maxSteps := 9999999) only [↓GE, PL, PP, EE, QQ, seval, hs, hs', hkl, hkb, eR, List.length_map] | (simp (disch := omega) only [IntWalk.i64_in]) | (refine go_brD (fun h => ?_) (fun h => ?_)) | (refine go_gsD (by ((try simp only [EE, QQ, seval]) <;> rfl)) (fun h => ?_) (fun h => ?_)) | (refine go_br (fun h => ?_) (fun h => ?_)) | (refine go_gs (by ((try simp only [EE, QQ, seval]) <;> rfl)) (fun h => ?_) (fun h => ?_)) | (apply go_callv 5000 (hq) rfl (by kernel_rfl) rfl; (· ((try simp only [CC, LL, NM, EE, QQ, seval]) <;> (first | rfl | ((repeat constructor); done)))); (· exact CallForm.plain rfl); (· ((try simp only [CC, LL, NM, EE, QQ, seval]) <;> (first | rfl | ((repeat constructor); done)))); (· ((try simp only [CC, LL, NM, EE, QQ, seval]) <;> (first | rfl | ((repeat constructor); done))))) | (with_reducible apply And.intro) | (with_reducible exact trivial) | omega | (simp only [List.length_map, List.length_cons, List.length_nil] at *; omega) | (show _ = true; first | rfl | kernel_rfl))
          refine ⟨⟨k + 1, hkl, hgo g⟩, ?_, by simp only; omega⟩
          (simp only [GeS]; refine ⟨?_, ?_, ?_, ?_⟩; all_goals (repeat' (first | trivial | (with_reducible rfl) | simp only [CC, LL, EE, QQ, seval] | (with_reducible apply And.intro) | rfl | (refine ⟨_, rfl, ?_⟩) | (simp; done) | omega)))
        · rw [decide_eq_false g] at hq
          rw [hbad g]
          repeat' (first | simp (maxSteps := 9999999) only [↓GE, PL, PP, EE, QQ, seval, hs, hs', hkl, hkb, eR, List.length_map] | (simp (disch := omega) only [IntWalk.i64_in]) | (refine go_brD (fun h => ?_) (fun h => ?_)) | (refine go_gsD (by ((try simp only [EE, QQ, seval]) <;> rfl)) (fun h => ?_) (fun h => ?_)) | (refine go_br (fun h => ?_) (fun h => ?_)) | (refine go_gs (by ((try simp only [EE, QQ, seval]) <;> rfl)) (fun h => ?_) (fun h => ?_)) | (apply go_callv 5000 (hq) rfl (by kernel_rfl) rfl; (· ((try simp only [CC, LL, NM, EE, QQ, seval]) <;> (first | rfl | ((repeat constructor); done)))); (· exact CallForm.plain rfl); (· ((try simp only [CC, LL, NM, EE, QQ, seval]) <;> (first | rfl | ((repeat constructor); done)))); (· ((try simp only [CC, LL, NM, EE, QQ, seval]) <;> (first | rfl | ((repeat constructor); done))))) | (with_reducible apply And.intro) | (with_reducible exact trivial) | omega | (simp only [List.length_map, List.length_cons, List.length_nil] at *; omega) | (show _ = true; first | rfl | kernel_rfl))
          all_goals ((first | apply ret_mk [] | apply end_mk []); (· ((try simp only [CC, LL, EE, QQ, seval]) <;> rfl)); (· ((try simp only [CC, LL, EE, QQ, seval]) <;> repeat' (first | (with_reducible apply And.intro) | rfl | trivial | (exact ⟨_, rfl⟩) | (exact ⟨_, _, _, rfl⟩) | (simp [*, ]; done) | (simp [*, ]; omega) | (simp_all []; done) | (simp_all []; omega)))); all_goals (first | trivial | decide | ((try simp only [CC, LL, EE, QQ, seval]) <;> repeat' (first | (with_reducible apply And.intro) | (exact ⟨_, rfl, rfl, rfl⟩) | (exact ⟨_, _, _, rfl⟩) | (exact ⟨_, rfl⟩) | trivial | rfl | (simp; done)))))
      · obtain rfl : k = a.length := by omega
        rw [decide_eq_true ((eq_iff_get [] a b hl).2 hv)]
        repeat' (first | simp (maxSteps := 9999999) only [↓GE, PL, PP, EE, QQ, seval] | (simp (disch := omega) only [IntWalk.i64_in]) | (refine go_brD (fun h => ?_) (fun h => ?_)) | (refine go_gsD (by ((try simp only [EE, QQ, seval]) <;> rfl)) (fun h => ?_) (fun h => ?_)) | (refine go_br (fun h => ?_) (fun h => ?_)) | (refine go_gs (by ((try simp only [EE, QQ, seval]) <;> rfl)) (fun h => ?_) (fun h => ?_)) | (with_reducible apply And.intro) | (with_reducible exact trivial) | omega | (simp only [List.length_map, List.length_cons, List.length_nil] at *; omega) | (show _ = true; first | rfl | kernel_rfl))
        all_goals ((first | apply ret_mk [] | apply end_mk []); (· ((try simp only [CC, LL, EE, QQ, seval]) <;> rfl)); (· ((try simp only [CC, LL, EE, QQ, seval]) <;> repeat' (first | (with_reducible apply And.intro) | rfl | trivial | (exact ⟨_, rfl⟩) | (exact ⟨_, _, _, rfl⟩) | (simp [*, ]; done) | (simp [*, ]; omega) | (simp_all []; done) | (simp_all []; omega)))); all_goals (first | trivial | decide | ((try simp only [CC, LL, EE, QQ, seval]) <;> repeat' (first | (with_reducible apply And.intro) | (exact ⟨_, rfl, rfl, rfl⟩) | (exact ⟨_, _, _, rfl⟩) | (exact ⟨_, rfl⟩) | trivial | rfl | (simp; done)))))
  · have q0 : ((a.length : Int) != (b.length : Int)) = true := by simp; omega
    rw [decide_eq_false fun e => hl (by rw [e])]
    repeat' (first | simp (maxSteps := 9999999) only [↓GE, PL, PP, EE, QQ, seval, q0, List.length_map] | (simp (disch := omega) only [IntWalk.i64_in]) | (refine go_brD (fun h => ?_) (fun h => ?_)) | (refine go_gsD (by ((try simp only [EE, QQ, seval]) <;> rfl)) (fun h => ?_) (fun h => ?_)) | (refine go_br (fun h => ?_) (fun h => ?_)) | (refine go_gs (by ((try simp only [EE, QQ, seval]) <;> rfl)) (fun h => ?_) (fun h => ?_)) | (with_reducible apply And.intro) | (with_reducible exact trivial) | omega | (simp only [List.length_map, List.length_cons, List.length_nil] at *; omega) | (show _ = true; first | rfl | kernel_rfl))
    all_goals ((first | apply ret_mk [] | apply end_mk []); (· ((try simp only [CC, LL, EE, QQ, seval]) <;> rfl)); (· ((try simp only [CC, LL, EE, QQ, seval]) <;> repeat' (first | (with_reducible apply And.intro) | rfl | trivial | (exact ⟨_, rfl⟩) | (exact ⟨_, _, _, rfl⟩) | (simp [*, ]; done) | (simp [*, ]; omega) | (simp_all []; done) | (simp_all []; omega)))); all_goals (first | trivial | decide | ((try simp only [CC, LL, EE, QQ, seval]) <;> repeat' (first | (with_reducible apply And.intro) | (exact ⟨_, rfl, rfl, rfl⟩) | (exact ⟨_, _, _, rfl⟩) | (exact ⟨_, rfl⟩) | trivial | rfl | (simp; done)))))
theorem tsame (a b : PTab) (ha : okT a) (hb : okT b) : Does Try.prog 88 [vTab a, vTab b] [] (B (decide (a = b))) [] [] := by
  refine go_table_Same rfl BxOK.nil fun cx hm0 => go_in 5000 ?_
  unfold ac_table_Same rs_table_Same
  have e1 := equalLL a.rows b.rows ha.1 hb.1 ha.2 hb.2
  rw [← sameT_iff]
  unfold sameT
  generalize hb1 : (a.num == b.num) = b1
  generalize hb2 : (a.p == b.p) = b2
  generalize hb3 : (a.width == b.width) = b3
  generalize decide (a.rows = b.rows) = b4 at *
  cases b1 with
  | false =>
    repeat' (first | simp (maxSteps := 9999999) only [↓GE, PL, PP, EE, QQ, seval, hb1] | (simp (disch := omega) only [IntWalk.i64_in]) | (refine go_brD (fun h => ?_) (fun h => ?_)) | (refine go_gsD (by ((try simp only [EE, QQ, seval]) <;> rfl)) (fun h => ?_) (fun h => ?_)) | (refine go_br (fun h => ?_) (fun h => ?_)) | (refine go_gs (by ((try simp only [EE, QQ, seval]) <;> rfl)) (fun h => ?_) (fun h => ?_)) | (with_reducible apply And.intro) | (with_reducible exact trivial) | omega | (simp only [List.length_map, List.length_cons, List.length_nil] at *; omega) | (show _ = true; first | rfl | kernel_rfl))
    all_goals ((first | apply ret_mk [] | apply end_mk []); (· ((try simp only [CC, LL, EE, QQ, seval]) <;> rfl)); (· ((try simp only [CC, LL, EE, QQ, seval]) <;> repeat' (first | (with_reducible apply And.intro) | rfl | trivial | (exact ⟨_, rfl⟩) | (exact ⟨_, _, _, rfl⟩) | (simp [*, ]; done) | (simp [*, ]; omega) | (simp_all []; done) | (simp_all []; omega)))); all_goals (first | trivial | decide | ((try simp only [CC, LL, EE, QQ, seval]) <;> repeat' (first | (with_reducible apply And.intro) | (exact ⟨_, rfl, rfl, rfl⟩) | (exact ⟨_, _, _, rfl⟩) | (exact ⟨_, rfl⟩) | trivial | rfl | (simp; done)))))
  | true =>
  cases b2 with
  | false =>
    repeat' (first | simp (maxSteps := 9999999) only [↓GE, PL, PP, EE, QQ, seval, hb1, hb2] | (simp (disch := omega) only [IntWalk.i64_in]) | (refine go_brD (fun h => ?_) (fun h => ?_)) | (refine go_gsD (by ((try simp only [EE, QQ, seval]) <;> rfl)) (fun h => ?_) (fun h => ?_)) | (refine go_br (fun h => ?_) (fun h => ?_)) | (refine go_gs (by ((try simp only [EE, QQ, seval]) <;> rfl)) (fun h => ?_) (fun h => ?_)) | (with_reducible apply And.intro) | (with_reducible exact trivial) | omega | (simp only [List.length_map, List.length_cons, List.length_nil] at *; omega) | (show _ = true; first | rfl | kernel_rfl))
    all_goals ((first | apply ret_mk [] | apply end_mk []); (· ((try simp only [CC, LL, EE, QQ, seval]) <;> rfl)); (· ((try simp only [CC, LL, EE, QQ, seval]) <;> repeat' (first | (with_reducible apply And.intro) | rfl | trivial | (exact ⟨_, rfl⟩) | (exact ⟨_, _, _, rfl⟩) | (simp [*, ]; done) | (simp [*, ]; omega) | (simp_all []; done) | (simp_all []; omega)))); all_goals (first | trivial | decide | ((try simp only [CC, LL, EE, QQ, seval]) <;> repeat' (first | (with_reducible apply And.intro) | (exact ⟨_, rfl, rfl, rfl⟩) | (exact ⟨_, _, _, rfl⟩) | (exact ⟨_, rfl⟩) | trivial | rfl | (simp; done)))))
  | true =>
  cases b3 with
  | false =>
    repeat' (first | simp (maxSteps := 9999999) only [↓GE, PL, PP, EE, QQ, seval, hb1, hb2, hb3] | (simp (disch := omega) only [IntWalk.i64_in]) | (refine go_brD (fun h => ?_) (fun h => ?_)) | (refine go_gsD (by ((try simp only [EE, QQ, seval]) <;> rfl)) (fun h => ?_) (fun h => ?_)) | (refine go_br (fun h => ?_) (fun h => ?_)) | (refine go_gs (by ((try simp only [EE, QQ, seval]) <;> rfl)) (fun h => ?_) (fun h => ?_)) | (with_reducible apply And.intro) | (with_reducible exact trivial) | omega | (simp only [List.length_map, List.length_cons, List.length_nil] at *; omega) | (show _ = true; first | rfl | kernel_rfl))
    all_goals ((first | apply ret_mk [] | apply end_mk []); (· ((try simp only [CC, LL, EE, QQ, seval]) <;> rfl)); (· ((try simp only [CC, LL, EE, QQ, seval]) <;> repeat' (first | (with_reducible apply And.intro) | rfl | trivial | (exact ⟨_, rfl⟩) | (exact ⟨_, _, _, rfl⟩) | (simp [*, ]; done) | (simp [*, ]; omega) | (simp_all []; done) | (simp_all []; omega)))); all_goals (first | trivial | decide | ((try simp only [CC, LL, EE, QQ, seval]) <;> repeat' (first | (with_reducible apply And.intro) | (exact ⟨_, rfl, rfl, rfl⟩) | (exact ⟨_, _, _, rfl⟩) | (exact ⟨_, rfl⟩) | trivial | rfl | (simp; done)))))
  | true =>
    repeat' (first | simp (maxSteps := 9999999) only [↓GE, PL, PP, EE, QQ, seval, hb1, hb2, hb3] | (simp (disch := omega) only [IntWalk.i64_in]) | (refine go_brD (fun h => ?_) (fun h => ?_)) | (refine go_gsD (by ((try simp only [EE, QQ, seval]) <;> rfl)) (fun h => ?_) (fun h => ?_)) | (refine go_br (fun h => ?_) (fun h => ?_)) | (refine go_gs (by ((try simp only [EE, QQ, seval]) <;> rfl)) (fun h => ?_) (fun h => ?_)) | (apply go_call 5000 (e1) rfl rfl; (· ((try simp only [CC, LL, NM, EE, QQ, seval]) <;> (first | rfl | ((repeat constructor); done)))); (· exact CallForm.plain rfl); (· ((try simp only [CC, LL, NM, EE, QQ, seval]) <;> (first | rfl | ((repeat constructor); done)))); (· ((try simp only [CC, LL, NM, EE, QQ, seval]) <;> (first | rfl | ((repeat constructor); done))))) | (with_reducible apply And.intro) | (with_reducible exact trivial) | omega | (simp only [List.length_map, List.length_cons, List.length_nil] at *; omega) | (show _ = true; first | rfl | kernel_rfl))
    all_goals ((first | apply ret_mk [] | apply end_mk []); (· ((try simp only [CC, LL, EE, QQ, seval]) <;> rfl)); (· ((try simp only [CC, LL, EE, QQ, seval]) <;> repeat' (first | (with_reducible apply And.intro) | rfl | trivial | (exact ⟨_, rfl⟩) | (exact ⟨_, _, _, rfl⟩) | (simp [*, ]; done) | (simp [*, ]; omega) | (simp_all []; done) | (simp_all []; omega)))); all_goals (first | trivial | decide | ((try simp only [CC, LL, EE, QQ, seval]) <;> repeat' (first | (with_reducible apply And.intro) | (exact ⟨_, rfl, rfl, rfl⟩) | (exact ⟨_, _, _, rfl⟩) | (exact ⟨_, rfl⟩) | trivial | rfl | (simp; done)))))
theorem equalTs (a b : List PTab) (ha : OkTs a) (hb : OkTs b) : Does Try.prog 87 [.d (dTabs a), .d (dTabs b), .cl 88 []] [] (B (decide (a = b))) [] [] := by
  refine go_slices_EqualFunc_api_Table_api_Table_api_Table_api_Table rfl BxOK.nil fun cx hm0 => go_in 5000 ?_
  unfold ac_slices_EqualFunc_api_Table_api_Table_api_Table_api_Table rs_slices_EqualFunc_api_Table_api_Table_api_Table_api_Table
  have hla := ha.1
  have hlb := hb.1
  by_cases hl : a.length = b.length
  · have q0 : ((a.length : Int) != (b.length : Int)) = false := by simp [hl]
    repeat' (first | simp (maxSteps := 9999999) only [↓GE, PL, PP, EE, QQ, seval, q0, List.length_map] | (simp (disch := omega) only [IntWalk.i64_in]) | (refine go_brD (fun h => ?_) (fun h => ?_)) | (refine go_gsD (by ((try simp only [EE, QQ, seval]) <;> rfl)) (fun h => ?_) (fun h => ?_)) | (refine go_br (fun h => ?_) (fun h => ?_)) | (refine go_gs (by ((try simp only [EE, QQ, seval]) <;> rfl)) (fun h => ?_) (fun h => ?_)) | (with_reducible apply And.intro) | (with_reducible exact trivial) | omega | (simp only [List.length_map, List.length_cons, List.length_nil] at *; omega) | (show _ = true; first | rfl | kernel_rfl))
    refine go_loop 5000 hm0 (ι := {k : Nat // k ≤ a.length ∧ ∀ j, j < k → a.getD j noTab = b.getD j noTab}) (fun i => [(1, .d (dTabs b)), (2, .cl 88 []), (15, .d (dTabs a)), (16, I a.length), (17, I i.1)]) (fun i => []) (fun i => a.length - i.1) [] ⟨0, by omega, fun j h => by omega⟩ ?_ ?_
    · (simp only [GeS]; refine ⟨?_, ?_, ?_, ?_⟩; all_goals (repeat' (first | trivial | (with_reducible rfl) | simp only [CC, LL, EE, QQ, seval] | (with_reducible apply And.intro) | rfl | (refine ⟨_, rfl, ?_⟩) | (simp; done) | omega)))
    · rintro ⟨k, hk, hv⟩
      simp only
      by_cases hkl : k < a.length
      · have hs := getD_map eTab [] noTab a k hkl
        have hs' := getD_map eTab [] noTab b k (by omega)
        have hq := tsame _ _ (ha.get hkl) (hb.get (k := k) (by omega))
        have hbad : a.getD k noTab ≠ b.getD k noTab → decide (a = b) = false := fun hne => decide_eq_false fun e => by subst e; exact hne rfl
        have hgo : a.getD k noTab = b.getD k noTab → ∀ j, j < k + 1 → a.getD j noTab = b.getD j noTab := fun he j hj => by
          by_cases e : j = k
          · subst e; exact he
          · exact hv j (by omega)
        have hkb : k < b.length := by omega
        generalize a.getD k noTab = t at *
        generalize b.getD k noTab = u at *
        by_cases g : t = u
        · rw [decide_eq_true g] at hq
          repeat' (first | simp (maxSteps := 9999999) only [↓GE, PL, PP, EE, QQ, seval, hs, hs', hkl, hkb, eTab, List.length_map] | (simp (disch := omega) only [IntWalk.i64_in]) | (refine go_brD (fun h => ?_) (fun h => ?_)) | (refine go_gsD (by ((try simp only [EE, QQ, seval]) <;> rfl)) (fun h => ?_) (fun h => ?_)) | (refine go_br (fun h => ?_) (fun h => ?_)) | (refine go_gs (by ((try simp only [EE, QQ, seval]) <;> rfl)) (fun h => ?_) (fun h => ?_)) | (apply go_callv 5000 (hq) rfl (by kernel_rfl) rfl; (· ((try simp only [CC, LL, NM, EE, QQ, seval]) <;> (first | rfl | ((repeat constructor); done)))); (· exact CallForm.plain rfl); (· ((try simp only [CC, LL, NM, EE, QQ, seval]) <;> (first | rfl | ((repeat constructor); done)))); (· ((try simp only [CC, LL, NM, EE, QQ, seval]) <;> (first | rfl | ((repeat constructor); done))))) | (with_reducible apply And.intro) | (with_reducible exact trivial) | omega | (simp only [List.length_map, List.length_cons, List.length_nil] at *; omega) | (show _ = true; first | rfl | kernel_rfl))
          refine ⟨⟨k + 1, hkl, hgo g⟩, ?_, by simp only; omega⟩
          (simp only [GeS]; refine ⟨?_, ?_, ?_, ?_⟩; all_goals (repeat' (first | trivial | (with_reducible rfl) | simp only [CC, LL, EE, QQ, seval] | (with_reducible apply And.intro) | rfl | (refine ⟨_, rfl, ?_⟩) | (simp; done) | omega)))
        · rw [decide_eq_false g] at hq
          rw [hbad g]
          repeat' (first | simp (maxSteps := 9999999) only [↓GE, PL, PP, EE, QQ, seval, hs, hs', hkl, hkb, eTab, List.length_map] | (simp (disch := omega) only [IntWalk.i64_in]) | (refine go_brD (fun h => ?_) (fun h => ?_)) | (refine go_gsD (by ((try simp only [EE, QQ, seval]) <;> rfl)) (fun h => ?_) (fun h => ?_)) | (refine go_br (fun h => ?_) (fun h => ?_)) | (refine go_gs (by ((try simp only [EE, QQ, seval]) <;> rfl)) (fun h => ?_) (fun h => ?_)) | (apply go_callv 5000 (hq) rfl (by kernel_rfl) rfl; (· ((try simp only [CC, LL, NM, EE, QQ, seval]) <;> (first | rfl | ((repeat constructor); done)))); (· exact CallForm.plain rfl); (· ((try simp only [CC, LL, NM, EE, QQ, seval]) <;> (first | rfl | ((repeat constructor); done)))); (· ((try simp only [CC, LL, NM, EE, QQ, seval]) <;> (first | rfl | ((repeat constructor); done))))) | (with_reducible apply And.intro) | (with_reducible exact trivial) | omega | (simp only [List.length_map, List.length_cons, List.length_nil] at *; omega) | (show _ = true; first | rfl | kernel_rfl))
          all_goals ((first | apply ret_mk [] | apply end_mk []); (· ((try simp only [CC, LL, EE, QQ, seval]) <;> rfl)); (· ((try simp only [CC, LL, EE, QQ, seval]) <;> repeat' (first | (with_reducible apply And.intro) | rfl | trivial | (exact ⟨_, rfl⟩) | (exact ⟨_, _, _, rfl⟩) | (simp [*, ]; done) | (simp [*, ]; omega) | (simp_all []; done) | (simp_all []; omega)))); all_goals (first | trivial | decide | ((try simp only [CC, LL, EE, QQ, seval]) <;> repeat' (first | (with_reducible apply And.intro) | (exact ⟨_, rfl, rfl, rfl⟩) | (exact ⟨_, _, _, rfl⟩) | (exact ⟨_, rfl⟩) | trivial | rfl | (simp; done)))))
      · obtain rfl : k = a.length := by omega
        rw [decide_eq_true ((eq_iff_get noTab a b hl).2 hv)]
        repeat' (first | simp (maxSteps := 9999999) only [↓GE, PL, PP, EE, QQ, seval] | (simp (disch := omega) only [IntWalk.i64_in]) | (refine go_brD (fun h => ?_) (fun h => ?_)) | (refine go_gsD (by ((try simp only [EE, QQ, seval]) <;> rfl)) (fun h => ?_) (fun h => ?_)) | (refine go_br (fun h => ?_) (fun h => ?_)) | (refine go_gs (by ((try simp only [EE, QQ, seval]) <;> rfl)) (fun h => ?_) (fun h => ?_)) | (with_reducible apply And.intro) | (with_reducible exact trivial) | omega | (simp only [List.length_map, List.length_cons, List.length_nil] at *; omega) | (show _ = true; first | rfl | kernel_rfl))
        all_goals ((first | apply ret_mk [] | apply end_mk []); (· ((try simp only [CC, LL, EE, QQ, seval]) <;> rfl)); (· ((try simp only [CC, LL, EE, QQ, seval]) <;> repeat' (first | (with_reducible apply And.intro) | rfl | trivial | (exact ⟨_, rfl⟩) | (exact ⟨_, _, _, rfl⟩) | (simp [*, ]; done) | (simp [*, ]; omega) | (simp_all []; done) | (simp_all []; omega)))); all_goals (first | trivial | decide | ((try simp only [CC, LL, EE, QQ, seval]) <;> repeat' (first | (with_reducible apply And.intro) | (exact ⟨_, rfl, rfl, rfl⟩) | (exact ⟨_, _, _, rfl⟩) | (exact ⟨_, rfl⟩) | trivial | rfl | (simp; done)))))
  · have q0 : ((a.length : Int) != (b.length : Int)) = true := by simp; omega
    rw [decide_eq_false fun e => hl (by rw [e])]
    repeat' (first | simp (maxSteps := 9999999) only [↓GE, PL, PP, EE, QQ, seval, q0, List.length_map] | (simp (disch := omega) only [IntWalk.i64_in]) | (refine go_brD (fun h => ?_) (fun h => ?_)) | (refine go_gsD (by ((try simp only [EE, QQ, seval]) <;> rfl)) (fun h => ?_) (fun h => ?_)) | (refine go_br (fun h => ?_) (fun h => ?_)) | (refine go_gs (by ((try simp only [EE, QQ, seval]) <;> rfl)) (fun h => ?_) (fun h => ?_)) | (with_reducible apply And.intro) | (with_reducible exact trivial) | omega | (simp only [List.length_map, List.length_cons, List.length_nil] at *; omega) | (show _ = true; first | rfl | kernel_rfl))
    all_goals ((first | apply ret_mk [] | apply end_mk []); (· ((try simp only [CC, LL, EE, QQ, seval]) <;> rfl)); (· ((try simp only [CC, LL, EE, QQ, seval]) <;> repeat' (first | (with_reducible apply And.intro) | rfl | trivial | (exact ⟨_, rfl⟩) | (exact ⟨_, _, _, rfl⟩) | (simp [*, ]; done) | (simp [*, ]; omega) | (simp_all []; done) | (simp_all []; omega)))); all_goals (first | trivial | decide | ((try simp only [CC, LL, EE, QQ, seval]) <;> repeat' (first | (with_reducible apply And.intro) | (exact ⟨_, rfl, rfl, rfl⟩) | (exact ⟨_, _, _, rfl⟩) | (exact ⟨_, rfl⟩) | trivial | rfl | (simp; done)))))
theorem usame (a b : List PTab) (ha : OkTs a) (hb : OkTs b) : Does Try.prog 44 [vPub a, vPub b] [] (B (decide (a = b))) [] [] := by
  refine go_update_Same rfl BxOK.nil fun cx hm0 => go_in 5000 ?_
  unfold ac_update_Same rs_update_Same
  repeat' (first | simp (maxSteps := 9999999) only [↓GE, PL, PP, EE, QQ, seval] | (simp (disch := omega) only [IntWalk.i64_in]) | (refine go_brD (fun h => ?_) (fun h => ?_)) | (refine go_gsD (by ((try simp only [EE, QQ, seval]) <;> rfl)) (fun h => ?_) (fun h => ?_)) | (refine go_br (fun h => ?_) (fun h => ?_)) | (refine go_gs (by ((try simp only [EE, QQ, seval]) <;> rfl)) (fun h => ?_) (fun h => ?_)) | (apply go_call 5000 (equalTs a b ha hb) rfl rfl; (· ((try simp only [CC, LL, NM, EE, QQ, seval]) <;> (first | rfl | ((repeat constructor); done)))); (· exact CallForm.plain rfl); (· ((try simp only [CC, LL, NM, EE, QQ, seval]) <;> (first | rfl | ((repeat constructor); done)))); (· ((try simp only [CC, LL, NM, EE, QQ, seval]) <;> (first | rfl | ((repeat constructor); done))))) | (with_reducible apply And.intro) | (with_reducible exact trivial) | omega | (simp only [List.length_map, List.length_cons, List.length_nil] at *; omega) | (show _ = true; first | rfl | kernel_rfl))
  all_goals ((first | apply ret_mk [] | apply end_mk []); (· ((try simp only [CC, LL, EE, QQ, seval]) <;> rfl)); (· ((try simp only [CC, LL, EE, QQ, seval]) <;> repeat' (first | (with_reducible apply And.intro) | rfl | trivial | (exact ⟨_, rfl⟩) | (exact ⟨_, _, _, rfl⟩) | (simp [*, ]; done) | (simp [*, ]; omega) | (simp_all []; done) | (simp_all []; omega)))); all_goals (first | trivial | decide | ((try simp only [CC, LL, EE, QQ, seval]) <;> repeat' (first | (with_reducible apply And.intro) | (exact ⟨_, rfl, rfl, rfl⟩) | (exact ⟨_, _, _, rfl⟩) | (exact ⟨_, rfl⟩) | trivial | rfl | (simp; done)))))
end Go.Proofs.Ytilkjcobkdjlkaa.Sim
end
section
namespace Go.Proofs.Ytilkjcobkdjlkaa.Sim
open Go
set_option maxRecDepth 100000
set_option maxHeartbeats 16000000
set_option linter.unusedVariables false
set_option linter.unusedSimpArgs false
attribute [local irreducible] Go Mean
theorem ok_of {α : Type} {P : α → Prop} (z : α) {l : List α} (h : ∀ x ∈ l, P x) {k : Nat} (hk : k < l.length) : P (l.getD k z) := h _ (mem_getD z l k hk)
def eChg (c : PChg) : List D := [.at (.int .i64 c.fr), .at (.int .i64 c.tt), .at (.int .i64 c.count), dSets c.sets]
def eP (l : List PTab) : List D := [dTabs l]
def eK (p : Int × Int) : List D := [.at (.int .i64 p.1), .at (.int .i64 p.2)]
abbrev bT (t : PTab) : List V := [I t.num, I t.p, I t.width, .d (dRows t.rows)]
abbrev bC (c : PChg) : List V := [I c.fr, I c.tt, I c.count, .d (dSets c.sets)]
def okC (c : PChg) : Prop := c.sets.length ≤ 1000000 ∧ ShortS c.sets
theorem pubF_okTs {l : List PTab} {c : PChg} (h : OkTs l) : OkTs (pubF l c).1 := by
  unfold pubF
  split
  · exact h
  split
  · exact h
  split
  · exact h
  · rename_i h1 h2 h3
    refine ⟨by simp; omega, fun t ht => ?_⟩
    rcases List.mem_append.1 ht with ht | ht
    · exact h.2 t ht
    · simp only [List.mem_singleton] at ht
      subst ht
      exact okT_check (applyF_good (by simpa using h2))
theorem betweenF_okC {a b : PTab} (hb : okT b) : okC (betweenF a b).1 := by
  have h0 : okC noChg := ⟨by simp [noChg], fun r h => by cases h⟩
  have hlen : ∀ (ra l : List (List Int)) (k : Nat), (diffGo ra k l).length ≤ l.length := by
    intro ra l
    induction l with
    | nil => intro k; exact Nat.le_refl _
    | cons r l ih =>
      intro k
      rw [diffGo]
      have := ih (k + 1)
      split <;> simp only [List.length_cons] <;> omega
  unfold betweenF
  split
  · exact h0
  split
  · exact h0
  split
  · exact h0
  split
  · exact h0
  · exact ⟨Nat.le_trans (hlen _ _ _) hb.1, fun s hs => hb.2 _ (diffGo_mem _ _ _ s hs)⟩
theorem btwP_okC {l : List PTab} {a b : Int} (h : OkTs l) : okC (btwP l a b).1 := by
  have h0 : okC noChg := ⟨by simp [noChg], fun r h => by cases h⟩
  unfold btwP
  split
  · exact h0
  split
  · exact h0
  · exact betweenF_okC (findP_ok h)
theorem keepF_okTs {l : List PTab} {vs : List Int} (h : OkTs l) : OkTs (keepF l vs) := by
  refine ⟨Nat.le_trans keepN_len h.1, fun t ht => ?_⟩
  have : ∀ n, ∀ t ∈ keepN l vs n, n ≤ l.length → t ∈ l := by
    intro n
    induction n with
    | zero => intro t ht; cases ht
    | succ n ih =>
      intro t ht hn
      rw [keepN] at ht
      split at ht
      · exact ih t ht (by omega)
      · rcases List.mem_append.1 ht with ht | ht
        · exact ih t ht (by omega)
        · simp only [List.mem_singleton] at ht
          subst ht
          exact mem_getD _ _ _ (by omega)
  exact h.2 t (this _ t ht (Nat.le_refl _))
theorem lawSteps (s : List UInt8) (raw : PTab) (c : PChg) (fr to' : Int) (keep : List Int) (hs : s.length ≤ 140737488355328) (hr1 : raw.rows.length ≤ 17592186044416) (hr2 : Short raw.rows) (hc1 : c.sets.length ≤ 17592186044416) (hc2 : ShortS c.sets) (hk : keep.length ≤ 17592186044416) :
    Does Try.prog 9 [.d (dBytes s), vTab raw, vChg c, I fr, I to', .d (dInts keep)] [] (B true) [] [] := by
  refine go_law37_UpdateSteps rfl BxOK.nil fun cx hm0 => go_in 9000 ?_
  unfold ac_law37_UpdateSteps rs_law37_UpdateSteps
  by_cases g1 : raw.rows.length > 6
  · have q1 : decide ((raw.rows.length : Int) > 6) = true := decide_eq_true (by omega)
    repeat' (first | simp (maxSteps := 9999999) only [↓GE, PL, PP, EE, QQ, seval, q1, List.length_map] | (simp (disch := omega) only [IntWalk.i64_in]) | (refine go_brD (fun h => ?_) (fun h => ?_)) | (refine go_gsD (by ((try simp only [EE, QQ, seval]) <;> rfl)) (fun h => ?_) (fun h => ?_)) | (refine go_br (fun h => ?_) (fun h => ?_)) | (refine go_gs (by ((try simp only [EE, QQ, seval]) <;> rfl)) (fun h => ?_) (fun h => ?_)) | (apply go_call 5000 (sane37) rfl rfl; (· ((try simp only [CC, LL, NM, EE, QQ, seval]) <;> (first | rfl | ((repeat constructor); done)))); (· exact CallForm.plain rfl); (· ((try simp only [CC, LL, NM, EE, QQ, seval]) <;> (first | rfl | ((repeat constructor); done)))); (· ((try simp only [CC, LL, NM, EE, QQ, seval]) <;> (first | rfl | ((repeat constructor); done))))) | (with_reducible apply And.intro) | (with_reducible exact trivial) | omega | (simp only [List.length_map, List.length_cons, List.length_nil] at *; omega) | (show _ = true; first | rfl | kernel_rfl))
    all_goals ((first | apply ret_mk [] | apply end_mk []); (· ((try simp only [CC, LL, EE, QQ, seval]) <;> rfl)); (· ((try simp only [CC, LL, EE, QQ, seval]) <;> repeat' (first | (with_reducible apply And.intro) | rfl | trivial | (exact ⟨_, rfl⟩) | (exact ⟨_, _, _, rfl⟩) | (simp [*, ]; done) | (simp [*, ]; omega) | (simp_all []; done) | (simp_all []; omega)))); all_goals (first | trivial | decide | ((try simp only [CC, LL, EE, QQ, seval]) <;> repeat' (first | (with_reducible apply And.intro) | (exact ⟨_, rfl, rfl, rfl⟩) | (exact ⟨_, _, _, rfl⟩) | (exact ⟨_, rfl⟩) | trivial | rfl | (simp; done)))))
  have q1 : decide ((raw.rows.length : Int) > 6) = false := decide_eq_false (by omega)
  by_cases g2 : c.sets.length > 6
  · have q2 : decide ((c.sets.length : Int) > 6) = true := decide_eq_true (by omega)
    repeat' (first | simp (maxSteps := 9999999) only [↓GE, PL, PP, EE, QQ, seval, q1, q2, List.length_map] | (simp (disch := omega) only [IntWalk.i64_in]) | (refine go_brD (fun h => ?_) (fun h => ?_)) | (refine go_gsD (by ((try simp only [EE, QQ, seval]) <;> rfl)) (fun h => ?_) (fun h => ?_)) | (refine go_br (fun h => ?_) (fun h => ?_)) | (refine go_gs (by ((try simp only [EE, QQ, seval]) <;> rfl)) (fun h => ?_) (fun h => ?_)) | (apply go_call 5000 (sane37) rfl rfl; (· ((try simp only [CC, LL, NM, EE, QQ, seval]) <;> (first | rfl | ((repeat constructor); done)))); (· exact CallForm.plain rfl); (· ((try simp only [CC, LL, NM, EE, QQ, seval]) <;> (first | rfl | ((repeat constructor); done)))); (· ((try simp only [CC, LL, NM, EE, QQ, seval]) <;> (first | rfl | ((repeat constructor); done))))) | (with_reducible apply And.intro) | (with_reducible exact trivial) | omega | (simp only [List.length_map, List.length_cons, List.length_nil] at *; omega) | (show _ = true; first | rfl | kernel_rfl))
    all_goals ((first | apply ret_mk [] | apply end_mk []); (· ((try simp only [CC, LL, EE, QQ, seval]) <;> rfl)); (· ((try simp only [CC, LL, EE, QQ, seval]) <;> repeat' (first | (with_reducible apply And.intro) | rfl | trivial | (exact ⟨_, rfl⟩) | (exact ⟨_, _, _, rfl⟩) | (simp [*, ]; done) | (simp [*, ]; omega) | (simp_all []; done) | (simp_all []; omega)))); all_goals (first | trivial | decide | ((try simp only [CC, LL, EE, QQ, seval]) <;> repeat' (first | (with_reducible apply And.intro) | (exact ⟨_, rfl, rfl, rfl⟩) | (exact ⟨_, _, _, rfl⟩) | (exact ⟨_, rfl⟩) | trivial | rfl | (simp; done)))))
  have q2 : decide ((c.sets.length : Int) > 6) = false := decide_eq_false (by omega)
  by_cases g3 : keep.length > 6
  · have q3 : decide ((keep.length : Int) > 6) = true := decide_eq_true (by omega)
    repeat' (first | simp (maxSteps := 9999999) only [↓GE, PL, PP, EE, QQ, seval, q1, q2, q3, List.length_map] | (simp (disch := omega) only [IntWalk.i64_in]) | (refine go_brD (fun h => ?_) (fun h => ?_)) | (refine go_gsD (by ((try simp only [EE, QQ, seval]) <;> rfl)) (fun h => ?_) (fun h => ?_)) | (refine go_br (fun h => ?_) (fun h => ?_)) | (refine go_gs (by ((try simp only [EE, QQ, seval]) <;> rfl)) (fun h => ?_) (fun h => ?_)) | (apply go_call 5000 (sane37) rfl rfl; (· ((try simp only [CC, LL, NM, EE, QQ, seval]) <;> (first | rfl | ((repeat constructor); done)))); (· exact CallForm.plain rfl); (· ((try simp only [CC, LL, NM, EE, QQ, seval]) <;> (first | rfl | ((repeat constructor); done)))); (· ((try simp only [CC, LL, NM, EE, QQ, seval]) <;> (first | rfl | ((repeat constructor); done))))) | (with_reducible apply And.intro) | (with_reducible exact trivial) | omega | (simp only [List.length_map, List.length_cons, List.length_nil] at *; omega) | (show _ = true; first | rfl | kernel_rfl))
    all_goals ((first | apply ret_mk [] | apply end_mk []); (· ((try simp only [CC, LL, EE, QQ, seval]) <;> rfl)); (· ((try simp only [CC, LL, EE, QQ, seval]) <;> repeat' (first | (with_reducible apply And.intro) | rfl | trivial | (exact ⟨_, rfl⟩) | (exact ⟨_, _, _, rfl⟩) | (simp [*, ]; done) | (simp [*, ]; omega) | (simp_all []; done) | (simp_all []; omega)))); all_goals (first | trivial | decide | ((try simp only [CC, LL, EE, QQ, seval]) <;> repeat' (first | (with_reducible apply And.intro) | (exact ⟨_, rfl, rfl, rfl⟩) | (exact ⟨_, _, _, rfl⟩) | (exact ⟨_, rfl⟩) | trivial | rfl | (simp; done)))))
  have q3 : decide ((keep.length : Int) > 6) = false := decide_eq_false (by omega)
  repeat' (first | simp (maxSteps := 9999999) only [↓GE, PL, PP, EE, QQ, seval, q1, q2, q3, List.length_map] | (simp (disch := omega) only [IntWalk.i64_in]) | (refine go_brD (fun h => ?_) (fun h => ?_)) | (refine go_gsD (by ((try simp only [EE, QQ, seval]) <;> rfl)) (fun h => ?_) (fun h => ?_)) | (refine go_br (fun h => ?_) (fun h => ?_)) | (refine go_gs (by ((try simp only [EE, QQ, seval]) <;> rfl)) (fun h => ?_) (fun h => ?_)) | (apply go_call 5000 (sane37) rfl rfl; (· ((try simp only [CC, LL, NM, EE, QQ, seval]) <;> (first | rfl | ((repeat constructor); done)))); (· exact CallForm.plain rfl); (· ((try simp only [CC, LL, NM, EE, QQ, seval]) <;> (first | rfl | ((repeat constructor); done)))); (· ((try simp only [CC, LL, NM, EE, QQ, seval]) <;> (first | rfl | ((repeat constructor); done))))) | (with_reducible apply And.intro) | (with_reducible exact trivial) | omega | (simp only [List.length_map, List.length_cons, List.length_nil] at *; omega) | (show _ = true; first | rfl | kernel_rfl))
  refine go_loop 9000 hm0 (ι := {k : Nat // k ≤ raw.rows.length}) (fun i => [(0, .d (dBytes s)), (3, I fr), (4, I to'), (5, .d (dInts keep)), (7, .bp 7 0 0), (8, .bp 8 0 0), (72, .d (dRows raw.rows)), (73, I raw.rows.length), (74, I i.1)]) (fun i => [(7, .box 0 (bT raw)), (8, .box 0 (bC c))]) (fun i => raw.rows.length - i.1) [] ⟨0, Nat.zero_le _⟩ ?_ ?_
  · (simp only [GeS]; refine ⟨?_, ?_, ?_, ?_⟩; all_goals (repeat' (first | trivial | (with_reducible rfl) | simp only [CC, LL, EE, QQ, seval] | (with_reducible apply And.intro) | rfl | (refine ⟨_, rfl, ?_⟩) | (simp; done) | omega)))
  rintro ⟨k, hk0⟩
  simp only
  by_cases hkl : k < raw.rows.length
  · have hs1 := getD_map eR [] [] raw.rows k hkl
    generalize raw.rows.getD k [] = r at *
    by_cases g : r.length > 6
    · have q : decide ((r.length : Int) > 6) = true := decide_eq_true (by omega)
      repeat' (first | simp (maxSteps := 9999999) only [↓GE, PL, PP, EE, QQ, seval, hs1, hkl, q, eR, List.length_map] | (simp (disch := omega) only [IntWalk.i64_in]) | (refine go_brD (fun h => ?_) (fun h => ?_)) | (refine go_gsD (by ((try simp only [EE, QQ, seval]) <;> rfl)) (fun h => ?_) (fun h => ?_)) | (refine go_br (fun h => ?_) (fun h => ?_)) | (refine go_gs (by ((try simp only [EE, QQ, seval]) <;> rfl)) (fun h => ?_) (fun h => ?_)) | (with_reducible apply And.intro) | (with_reducible exact trivial) | omega | (simp only [List.length_map, List.length_cons, List.length_nil] at *; omega) | (show _ = true; first | rfl | kernel_rfl))
      all_goals ((first | apply ret_mk [] | apply end_mk []); (· ((try simp only [CC, LL, EE, QQ, seval]) <;> rfl)); (· ((try simp only [CC, LL, EE, QQ, seval]) <;> repeat' (first | (with_reducible apply And.intro) | rfl | trivial | (exact ⟨_, rfl⟩) | (exact ⟨_, _, _, rfl⟩) | (simp [*, ]; done) | (simp [*, ]; omega) | (simp_all []; done) | (simp_all []; omega)))); all_goals (first | trivial | decide | ((try simp only [CC, LL, EE, QQ, seval]) <;> repeat' (first | (with_reducible apply And.intro) | (exact ⟨_, rfl, rfl, rfl⟩) | (exact ⟨_, _, _, rfl⟩) | (exact ⟨_, rfl⟩) | trivial | rfl | (simp; done)))))
    · have q : decide ((r.length : Int) > 6) = false := decide_eq_false (by omega)
      repeat' (first | simp (maxSteps := 9999999) only [↓GE, PL, PP, EE, QQ, seval, hs1, hkl, q, eR, List.length_map] | (simp (disch := omega) only [IntWalk.i64_in]) | (refine go_brD (fun h => ?_) (fun h => ?_)) | (refine go_gsD (by ((try simp only [EE, QQ, seval]) <;> rfl)) (fun h => ?_) (fun h => ?_)) | (refine go_br (fun h => ?_) (fun h => ?_)) | (refine go_gs (by ((try simp only [EE, QQ, seval]) <;> rfl)) (fun h => ?_) (fun h => ?_)) | (with_reducible apply And.intro) | (with_reducible exact trivial) | omega | (simp only [List.length_map, List.length_cons, List.length_nil] at *; omega) | (show _ = true; first | rfl | kernel_rfl))
      refine ⟨⟨k + 1, hkl⟩, ?_, by simp only; omega⟩
      (simp only [GeS]; refine ⟨?_, ?_, ?_, ?_⟩; all_goals (repeat' (first | trivial | (with_reducible rfl) | simp only [CC, LL, EE, QQ, seval] | (with_reducible apply And.intro) | rfl | (refine ⟨_, rfl, ?_⟩) | (simp; done) | omega)))
  obtain rfl : k = raw.rows.length := by omega
  repeat' (first | simp (maxSteps := 9999999) only [↓GE, PL, PP, EE, QQ, seval, List.length_map] | (simp (disch := omega) only [IntWalk.i64_in]) | (refine go_brD (fun h => ?_) (fun h => ?_)) | (refine go_gsD (by ((try simp only [EE, QQ, seval]) <;> rfl)) (fun h => ?_) (fun h => ?_)) | (refine go_br (fun h => ?_) (fun h => ?_)) | (refine go_gs (by ((try simp only [EE, QQ, seval]) <;> rfl)) (fun h => ?_) (fun h => ?_)) | (with_reducible apply And.intro) | (with_reducible exact trivial) | omega | (simp only [List.length_map, List.length_cons, List.length_nil] at *; omega) | (show _ = true; first | rfl | kernel_rfl))
  refine go_loop 9000 hm0 (ι := {k : Nat // k ≤ c.sets.length}) (fun i => [(0, .d (dBytes s)), (3, I fr), (4, I to'), (5, .d (dInts keep)), (7, .bp 7 0 0), (8, .bp 8 0 0), (83, .d (dSets c.sets)), (84, I c.sets.length), (85, I i.1)]) (fun i => [(7, .box 0 (bT raw)), (8, .box 0 (bC c))]) (fun i => c.sets.length - i.1) [] ⟨0, Nat.zero_le _⟩ ?_ ?_
  · (simp only [GeS]; refine ⟨?_, ?_, ?_, ?_⟩; all_goals (repeat' (first | trivial | (with_reducible rfl) | simp only [CC, LL, EE, QQ, seval] | (with_reducible apply And.intro) | rfl | (refine ⟨_, rfl, ?_⟩) | (simp; done) | omega)))
  clear hkl hk0
  rintro ⟨k, hk0⟩
  simp only
  by_cases hkl : k < c.sets.length
  · have hs1 := getD_map eSet [] noSet c.sets k hkl
    generalize c.sets.getD k noSet = r at *
    by_cases g : r.row.length > 6
    · have q : decide ((r.row.length : Int) > 6) = true := decide_eq_true (by omega)
      repeat' (first | simp (maxSteps := 9999999) only [↓GE, PL, PP, EE, QQ, seval, hs1, hkl, q, eSet, List.length_map] | (simp (disch := omega) only [IntWalk.i64_in]) | (refine go_brD (fun h => ?_) (fun h => ?_)) | (refine go_gsD (by ((try simp only [EE, QQ, seval]) <;> rfl)) (fun h => ?_) (fun h => ?_)) | (refine go_br (fun h => ?_) (fun h => ?_)) | (refine go_gs (by ((try simp only [EE, QQ, seval]) <;> rfl)) (fun h => ?_) (fun h => ?_)) | (with_reducible apply And.intro) | (with_reducible exact trivial) | omega | (simp only [List.length_map, List.length_cons, List.length_nil] at *; omega) | (show _ = true; first | rfl | kernel_rfl))
      all_goals ((first | apply ret_mk [] | apply end_mk []); (· ((try simp only [CC, LL, EE, QQ, seval]) <;> rfl)); (· ((try simp only [CC, LL, EE, QQ, seval]) <;> repeat' (first | (with_reducible apply And.intro) | rfl | trivial | (exact ⟨_, rfl⟩) | (exact ⟨_, _, _, rfl⟩) | (simp [*, ]; done) | (simp [*, ]; omega) | (simp_all []; done) | (simp_all []; omega)))); all_goals (first | trivial | decide | ((try simp only [CC, LL, EE, QQ, seval]) <;> repeat' (first | (with_reducible apply And.intro) | (exact ⟨_, rfl, rfl, rfl⟩) | (exact ⟨_, _, _, rfl⟩) | (exact ⟨_, rfl⟩) | trivial | rfl | (simp; done)))))
    · have q : decide ((r.row.length : Int) > 6) = false := decide_eq_false (by omega)
      repeat' (first | simp (maxSteps := 9999999) only [↓GE, PL, PP, EE, QQ, seval, hs1, hkl, q, eSet, List.length_map] | (simp (disch := omega) only [IntWalk.i64_in]) | (refine go_brD (fun h => ?_) (fun h => ?_)) | (refine go_gsD (by ((try simp only [EE, QQ, seval]) <;> rfl)) (fun h => ?_) (fun h => ?_)) | (refine go_br (fun h => ?_) (fun h => ?_)) | (refine go_gs (by ((try simp only [EE, QQ, seval]) <;> rfl)) (fun h => ?_) (fun h => ?_)) | (with_reducible apply And.intro) | (with_reducible exact trivial) | omega | (simp only [List.length_map, List.length_cons, List.length_nil] at *; omega) | (show _ = true; first | rfl | kernel_rfl))
      refine ⟨⟨k + 1, hkl⟩, ?_, by simp only; omega⟩
      (simp only [GeS]; refine ⟨?_, ?_, ?_, ?_⟩; all_goals (repeat' (first | trivial | (with_reducible rfl) | simp only [CC, LL, EE, QQ, seval] | (with_reducible apply And.intro) | rfl | (refine ⟨_, rfl, ?_⟩) | (simp; done) | omega)))
  obtain rfl : k = c.sets.length := by omega
  clear hkl hk0
  have okr : okT raw := ⟨by omega, hr2⟩
  have okc : okC c := ⟨by omega, hc2⟩
  generalize hL : s.take 300 = l
  have hl : l.length ≤ 140737488355328 := by rw [← hL, List.length_take]; omega
  have e0 := dice s hs
  rw [hL] at e0
  have d1 := (dpublisher l hl 0).nm1 97000 0 (by omega) rfl rfl rfl rfl rfl
  have hok := pubG_ok l 0
  generalize (pubG l 0).2 = k1 at *
  generalize (pubG l 0).1 = ts at *
  have hV := hok.valid
  have h1 := hV.1
  have hlen := hok.len
  have hT := hV.okTs
  have e1 := r37newest ts hT
  rw [newestF, if_neg (by simp [validB_yes hV])] at e1
  have okl : okT (lastT ts) := hT.last h1
  have hlast := hok.last
  have d2 := (dchange l hl k1 (lastT ts) hlast (by omega)).nm1 97000 0 (by omega) rfl rfl rfl rfl rfl
  have okg : okC (chgG l (lastT ts) k1).1 := by
    have := pub_step l hok (by omega) k1
    exact ⟨by omega, this.2.2⟩
  generalize (chgG l (lastT ts) k1).2 = k2 at *
  generalize (chgG l (lastT ts) k1).1 = good at *
  generalize lastT ts = lt at *
  repeat' (first | simp (maxSteps := 9999999) only [↓GE, PL, PP, EE, QQ, seval, List.length_map, List.set_cons_zero, List.set_cons_succ, List.replicate] | (simp (disch := omega) only [IntWalk.i64_in]) | (refine go_brD (fun h => ?_) (fun h => ?_)) | (refine go_gsD (by ((try simp only [EE, QQ, seval]) <;> rfl)) (fun h => ?_) (fun h => ?_)) | (refine go_br (fun h => ?_) (fun h => ?_)) | (refine go_gs (by ((try simp only [EE, QQ, seval]) <;> rfl)) (fun h => ?_) (fun h => ?_)) | (apply go_call 5000 (e0) rfl rfl; (· ((try simp only [CC, LL, NM, EE, QQ, seval]) <;> (first | rfl | ((repeat constructor); done)))); (· exact CallForm.news rfl rfl); (· ((try simp only [CC, LL, NM, EE, QQ, seval]) <;> (first | rfl | ((repeat constructor); done)))); (· ((try simp only [CC, LL, NM, EE, QQ, seval]) <;> (first | rfl | ((repeat constructor); done))))) | (apply go_call 5000 (d1) rfl rfl; (· ((try simp only [CC, LL, NM, EE, QQ, seval]) <;> (first | rfl | ((repeat constructor); done)))); (· exact CallForm.lent (by (try simp only [CC, LL, NM, EE, QQ, seval]); repeat' (first | trivial | (with_reducible rfl) | omega | (with_reducible apply And.intro) | rfl)) rfl rfl); (· ((try simp only [CC, LL, NM, EE, QQ, seval]) <;> (first | rfl | ((repeat constructor); done)))); (· ((try simp only [CC, LL, NM, EE, QQ, seval]) <;> (first | rfl | ((repeat constructor); done))))) | (apply go_call 5000 (e1) rfl rfl; (· ((try simp only [CC, LL, NM, EE, QQ, seval]) <;> (first | rfl | ((repeat constructor); done)))); (· exact CallForm.plain rfl); (· ((try simp only [CC, LL, NM, EE, QQ, seval]) <;> (first | rfl | ((repeat constructor); done)))); (· ((try simp only [CC, LL, NM, EE, QQ, seval]) <;> (first | rfl | ((repeat constructor); done))))) | (with_reducible apply And.intro) | (with_reducible exact trivial) | omega | (simp only [List.length_map, List.length_cons, List.length_nil] at *; omega) | (show _ = true; first | rfl | kernel_rfl))
  have okTS : ∀ x ∈ [raw, lt], okT x := by simp [okr, okl]
  generalize hTS : [raw, lt] = TS at okTS
  have lT : TS.length = 2 := by rw [← hTS]; rfl
  refine go_loopz 9000 hm0 (ι := {k : Nat // k ≤ 2}) (fun i => [(3, I fr), (4, I to'), (5, .d (dInts keep)), (7, .bp 7 0 0), (8, .bp 8 0 0), (17, .bp 97000 0 0), (18, .bp 18 0 0), (19, .bp 19 0 0), (105, .d (.sl 4 (TS.map eTab))), (106, I 2), (107, I i.1)]) (fun i => [(7, .box 0 (bT raw)), (8, .box 0 (bC c)), (18, .box 0 [.d (dTabs ts)]), (19, .box 0 (bT lt)), (97000, .box 0 [.d (dBytes l), I k1])]) (fun i => 2 - i.1) [.og 105 0] [] ⟨0, by omega⟩ ?_ ?_
  · simp only [GeZ]; (simp only [GeS]; refine ⟨?_, ?_, ?_, ?_⟩; all_goals (repeat' (first | trivial | (with_reducible rfl) | simp only [CC, LL, EE, QQ, seval] | (with_reducible apply And.intro) | rfl | (refine ⟨_, rfl, ?_⟩) | (simp [← hTS, eTab]; done) | omega)))
  rintro ⟨k, hk0⟩
  simp only
  by_cases hk2 : k < 2
  · have hs1 := getD_map eTab [] noTab TS k (by omega)
    have okx := ok_of noTab okTS (k := k) (by omega)
    generalize TS.getD k noTab = x at hs1 okx
    have y1 := unew x okx
    have y2 := r37new x okx
    have okn : OkTs (newP x).1 := by
      unfold newP; split
      · exact ⟨by simp, fun t ht => by cases ht⟩
      · exact ⟨by simp, fun t ht => by simp at ht; subst ht; exact okx⟩
    have y3 := r37same (newP x).1 (newP x).1 okn okn
    rw [decide_eq_true rfl] at y3
    generalize newP x = u at *
    have b2 : (u.2 != u.2) = false := by simp
    repeat' (first | simp (maxSteps := 9999999) only [↓GE, PL, PP, EE, QQ, seval, lT, hs1, b2, eTab, List.length_map] | (simp (disch := omega) only [IntWalk.i64_in]) | (refine go_brD (fun h => ?_) (fun h => ?_)) | (refine go_gsD (by ((try simp only [EE, QQ, seval]) <;> rfl)) (fun h => ?_) (fun h => ?_)) | (refine go_br (fun h => ?_) (fun h => ?_)) | (refine go_gs (by ((try simp only [EE, QQ, seval]) <;> rfl)) (fun h => ?_) (fun h => ?_)) | (apply go_call 5000 (y1) rfl rfl; (· ((try simp only [CC, LL, NM, EE, QQ, seval]) <;> (first | rfl | ((repeat constructor); done)))); (· exact CallForm.plain rfl); (· ((try simp only [CC, LL, NM, EE, QQ, seval]) <;> (first | rfl | ((repeat constructor); done)))); (· ((try simp only [CC, LL, NM, EE, QQ, seval]) <;> (first | rfl | ((repeat constructor); done))))) | (apply go_call 5000 (y2) rfl rfl; (· ((try simp only [CC, LL, NM, EE, QQ, seval]) <;> (first | rfl | ((repeat constructor); done)))); (· exact CallForm.plain rfl); (· ((try simp only [CC, LL, NM, EE, QQ, seval]) <;> (first | rfl | ((repeat constructor); done)))); (· ((try simp only [CC, LL, NM, EE, QQ, seval]) <;> (first | rfl | ((repeat constructor); done))))) | (apply go_call 5000 (y3) rfl rfl; (· ((try simp only [CC, LL, NM, EE, QQ, seval]) <;> (first | rfl | ((repeat constructor); done)))); (· exact CallForm.plain rfl); (· ((try simp only [CC, LL, NM, EE, QQ, seval]) <;> (first | rfl | ((repeat constructor); done)))); (· ((try simp only [CC, LL, NM, EE, QQ, seval]) <;> (first | rfl | ((repeat constructor); done))))) | (with_reducible apply And.intro) | (with_reducible exact trivial) | omega | (simp only [List.length_map, List.length_cons, List.length_nil] at *; omega) | (show _ = true; first | rfl | kernel_rfl))
    refine ⟨[], [], ⟨k + 1, by omega⟩, ?_, by simp only; omega⟩
    simp only [GeZ]; (simp only [GeS]; refine ⟨?_, ?_, ?_, ?_⟩; all_goals (repeat' (first | trivial | (with_reducible rfl) | simp only [CC, LL, EE, QQ, seval] | (with_reducible apply And.intro) | rfl | (refine ⟨_, rfl, ?_⟩) | (simp; done) | omega)))
  obtain rfl : k = 2 := by omega
  clear hk2 hk0
  repeat' (first | simp (maxSteps := 9999999) only [↓GE, PL, PP, EE, QQ, seval, lT, List.length_map, List.nil_append, List.set_cons_zero, List.set_cons_succ, List.replicate] | (simp (disch := omega) only [IntWalk.i64_in]) | (refine go_brD (fun h => ?_) (fun h => ?_)) | (refine go_gsD (by ((try simp only [EE, QQ, seval]) <;> rfl)) (fun h => ?_) (fun h => ?_)) | (refine go_br (fun h => ?_) (fun h => ?_)) | (refine go_gs (by ((try simp only [EE, QQ, seval]) <;> rfl)) (fun h => ?_) (fun h => ?_)) | (apply go_call 5000 (d2) rfl rfl; (· ((try simp only [CC, LL, NM, EE, QQ, seval]) <;> (first | rfl | ((repeat constructor); done)))); (· exact CallForm.lent (by (try simp only [CC, LL, NM, EE, QQ, seval]); repeat' (first | trivial | (with_reducible rfl) | omega | (with_reducible apply And.intro) | rfl)) rfl rfl); (· ((try simp only [CC, LL, NM, EE, QQ, seval]) <;> (first | rfl | ((repeat constructor); done)))); (· ((try simp only [CC, LL, NM, EE, QQ, seval]) <;> (first | rfl | ((repeat constructor); done))))) | (with_reducible apply And.intro) | (with_reducible exact trivial) | omega | (simp only [List.length_map, List.length_cons, List.length_nil] at *; omega) | (show _ = true; first | rfl | kernel_rfl))
  have okPS : ∀ x ∈ [ts, ts ++ [raw], ts ++ [lt], []], OkTs x := by
    have ha : ∀ t, okT t → OkTs (ts ++ [t]) := fun t ht => ⟨by simp; omega, fun u hu => by
      rcases List.mem_append.1 hu with hu | hu
      · exact hT.2 u hu
      · simp only [List.mem_singleton] at hu; subst hu; exact ht⟩
    intro x hx
    simp only [List.mem_cons, List.not_mem_nil, or_false] at hx
    rcases hx with rfl | rfl | rfl | rfl
    · exact hT
    · exact ha raw okr
    · exact ha lt okl
    · exact ⟨by simp, fun t ht => by cases ht⟩
  generalize hPS : [ts, ts ++ [raw], ts ++ [lt], []] = PS at okPS
  have lP : PS.length = 4 := by rw [← hPS]; rfl
  refine go_loopz 9000 hm0 (ι := {k : Nat // k ≤ 4}) (fun i => [(3, I fr), (4, I to'), (5, .d (dInts keep)), (8, .bp 8 0 0), (18, .bp 18 0 0), (19, .bp 19 0 0), (29, .bp 29 0 0), (154, .d (.sl 1 (PS.map eP))), (155, I 4), (156, I i.1)]) (fun i => [(8, .box 0 (bC c)), (18, .box 0 [.d (dTabs ts)]), (19, .box 0 (bT lt)), (29, .box 0 (bC good))]) (fun i => 4 - i.1) [.og 154 0] [] ⟨0, by omega⟩ ?_ ?_
  · simp only [GeZ]; (simp only [GeS]; refine ⟨?_, ?_, ?_, ?_⟩; all_goals (repeat' (first | trivial | (with_reducible rfl) | simp only [CC, LL, EE, QQ, seval] | (with_reducible apply And.intro) | rfl | (refine ⟨_, rfl, ?_⟩) | (simp [← hPS, eP, eTab, List.map_append]; done) | omega)))
  rintro ⟨k, hk0⟩
  simp only
  by_cases hk4 : k < 4
  · have hs1 := getD_map eP [] [] PS k (by omega)
    have okx := ok_of [] okPS (k := k) (by omega)
    generalize PS.getD k [] = x at hs1 okx
    have y1 := uvalid x okx
    have y2 := r37valid x okx
    have y3 := usame x ts okx hT
    have y4 := r37same x ts okx hT
    generalize validB x = vb at *
    generalize decide (x = ts) = sb at *
    have okCS : ∀ y ∈ [c, good], okC y := by simp [okc, okg]
    have bb1 : (vb != vb) = false := by cases vb <;> rfl
    have bb2 : (sb != sb) = false := by cases sb <;> rfl
    repeat' (first | simp (maxSteps := 9999999) only [↓GE, PL, PP, EE, QQ, seval, lP, hs1, bb1, bb2, eP, List.length_map, List.set_cons_zero, List.set_cons_succ, List.replicate] | (simp (disch := omega) only [IntWalk.i64_in]) | (refine go_brD (fun h => ?_) (fun h => ?_)) | (refine go_gsD (by ((try simp only [EE, QQ, seval]) <;> rfl)) (fun h => ?_) (fun h => ?_)) | (refine go_br (fun h => ?_) (fun h => ?_)) | (refine go_gs (by ((try simp only [EE, QQ, seval]) <;> rfl)) (fun h => ?_) (fun h => ?_)) | (apply go_call 5000 (y1) rfl rfl; (· ((try simp only [CC, LL, NM, EE, QQ, seval]) <;> (first | rfl | ((repeat constructor); done)))); (· exact CallForm.plain rfl); (· ((try simp only [CC, LL, NM, EE, QQ, seval]) <;> (first | rfl | ((repeat constructor); done)))); (· ((try simp only [CC, LL, NM, EE, QQ, seval]) <;> (first | rfl | ((repeat constructor); done))))) | (apply go_call 5000 (y2) rfl rfl; (· ((try simp only [CC, LL, NM, EE, QQ, seval]) <;> (first | rfl | ((repeat constructor); done)))); (· exact CallForm.plain rfl); (· ((try simp only [CC, LL, NM, EE, QQ, seval]) <;> (first | rfl | ((repeat constructor); done)))); (· ((try simp only [CC, LL, NM, EE, QQ, seval]) <;> (first | rfl | ((repeat constructor); done))))) | (apply go_call 5000 (y3) rfl rfl; (· ((try simp only [CC, LL, NM, EE, QQ, seval]) <;> (first | rfl | ((repeat constructor); done)))); (· exact CallForm.plain rfl); (· ((try simp only [CC, LL, NM, EE, QQ, seval]) <;> (first | rfl | ((repeat constructor); done)))); (· ((try simp only [CC, LL, NM, EE, QQ, seval]) <;> (first | rfl | ((repeat constructor); done))))) | (apply go_call 5000 (y4) rfl rfl; (· ((try simp only [CC, LL, NM, EE, QQ, seval]) <;> (first | rfl | ((repeat constructor); done)))); (· exact CallForm.plain rfl); (· ((try simp only [CC, LL, NM, EE, QQ, seval]) <;> (first | rfl | ((repeat constructor); done)))); (· ((try simp only [CC, LL, NM, EE, QQ, seval]) <;> (first | rfl | ((repeat constructor); done))))) | (with_reducible apply And.intro) | (with_reducible exact trivial) | omega | (simp only [List.length_map, List.length_cons, List.length_nil] at *; omega) | (show _ = true; first | rfl | kernel_rfl))
    generalize hCS : [c, good] = CS at okCS
    have lC : CS.length = 2 := by rw [← hCS]; rfl
    refine go_loopz 9000 hm0 (ι := {k : Nat // k ≤ 2}) (fun i => [(3, I fr), (4, I to'), (5, .d (dInts keep)), (8, .bp 8 0 0), (18, .bp 18 0 0), (19, .bp 19 0 0), (29, .bp 29 0 0), (31, .bp 31 0 0), (154, .d (.sl 1 (PS.map eP))), (155, I 4), (156, I k), (176, .d (.sl 4 (CS.map eChg))), (177, I 2), (178, I i.1)]) (fun i => [(8, .box 0 (bC c)), (18, .box 0 [.d (dTabs ts)]), (19, .box 0 (bT lt)), (29, .box 0 (bC good)), (31, .box 0 [.d (dTabs x)])]) (fun i => 2 - i.1) [.og 176 0] [] ⟨0, by omega⟩ ?_ ?_
    · simp only [GeZ]; (simp only [GeS]; refine ⟨?_, ?_, ?_, ?_⟩; all_goals (repeat' (first | trivial | (with_reducible rfl) | simp only [CC, LL, EE, QQ, seval] | (with_reducible apply And.intro) | rfl | (refine ⟨_, rfl, ?_⟩) | (simp [← hCS, eChg]; done) | omega)))
    rintro ⟨j, hj0⟩
    simp only
    by_cases hj2 : j < 2
    · have hs2 := getD_map eChg [] noChg CS j (by omega)
      have oky := ok_of noChg okCS (k := j) (by omega)
      generalize CS.getD j noChg = y at hs2 oky
      have z1 := upublish x y okx oky.1 oky.2
      have z2 := r37publish x y okx oky.1 oky.2
      have oku := pubF_okTs (c := y) okx
      have z3 := r37same (pubF x y).1 (pubF x y).1 oku oku
      rw [decide_eq_true rfl] at z3
      generalize pubF x y = u at *
      have b2 : (u.2 != u.2) = false := by simp
      repeat' (first | simp (maxSteps := 9999999) only [↓GE, PL, PP, EE, QQ, seval, lC, hs2, b2, eChg, List.length_map] | (simp (disch := omega) only [IntWalk.i64_in]) | (refine go_brD (fun h => ?_) (fun h => ?_)) | (refine go_gsD (by ((try simp only [EE, QQ, seval]) <;> rfl)) (fun h => ?_) (fun h => ?_)) | (refine go_br (fun h => ?_) (fun h => ?_)) | (refine go_gs (by ((try simp only [EE, QQ, seval]) <;> rfl)) (fun h => ?_) (fun h => ?_)) | (apply go_call 5000 (z1) rfl rfl; (· ((try simp only [CC, LL, NM, EE, QQ, seval]) <;> (first | rfl | ((repeat constructor); done)))); (· exact CallForm.plain rfl); (· ((try simp only [CC, LL, NM, EE, QQ, seval]) <;> (first | rfl | ((repeat constructor); done)))); (· ((try simp only [CC, LL, NM, EE, QQ, seval]) <;> (first | rfl | ((repeat constructor); done))))) | (apply go_call 5000 (z2) rfl rfl; (· ((try simp only [CC, LL, NM, EE, QQ, seval]) <;> (first | rfl | ((repeat constructor); done)))); (· exact CallForm.plain rfl); (· ((try simp only [CC, LL, NM, EE, QQ, seval]) <;> (first | rfl | ((repeat constructor); done)))); (· ((try simp only [CC, LL, NM, EE, QQ, seval]) <;> (first | rfl | ((repeat constructor); done))))) | (apply go_call 5000 (z3) rfl rfl; (· ((try simp only [CC, LL, NM, EE, QQ, seval]) <;> (first | rfl | ((repeat constructor); done)))); (· exact CallForm.plain rfl); (· ((try simp only [CC, LL, NM, EE, QQ, seval]) <;> (first | rfl | ((repeat constructor); done)))); (· ((try simp only [CC, LL, NM, EE, QQ, seval]) <;> (first | rfl | ((repeat constructor); done))))) | (with_reducible apply And.intro) | (with_reducible exact trivial) | omega | (simp only [List.length_map, List.length_cons, List.length_nil] at *; omega) | (show _ = true; first | rfl | kernel_rfl))
      refine ⟨[], [], ⟨j + 1, by omega⟩, ?_, by simp only; omega⟩
      simp only [GeZ]; (simp only [GeS]; refine ⟨?_, ?_, ?_, ?_⟩; all_goals (repeat' (first | trivial | (with_reducible rfl) | simp only [CC, LL, EE, QQ, seval] | (with_reducible apply And.intro) | rfl | (refine ⟨_, rfl, ?_⟩) | (simp; done) | omega)))
    obtain rfl : j = 2 := by omega
    clear hj2 hj0
    have z1 := unewest x okx
    have z2 := r37newest x okx
    have oku : okT (newestF x).1 := by
      unfold newestF; split
      · exact ⟨by simp [noTab], fun r h => by cases h⟩
      · rename_i hvv
        have hvx := validB_iff.1 (by simpa using hvv)
        exact okx.last hvx.1
    have z3 := r14same (newestF x).1 (newestF x).1 (by have := oku.1; omega) (by have := oku.1; omega) oku.2 oku.2
    rw [sameT_iff, decide_eq_true rfl] at z3
    generalize newestF x = u at *
    have b2 : (u.2 != u.2) = false := by simp
    have hs0 := getD_map eTab [] noTab ts 0 (by omega)
    have h00 : 0 < ts.length := by omega
    generalize ts.getD 0 noTab = t0 at *
    repeat' (first | simp (maxSteps := 9999999) only [↓GE, PL, PP, EE, QQ, seval, lC, b2, hs0, h00, eTab, List.length_map, List.set_cons_zero, List.set_cons_succ, List.replicate] | (simp (disch := omega) only [IntWalk.i64_in]) | (refine go_brD (fun h => ?_) (fun h => ?_)) | (refine go_gsD (by ((try simp only [EE, QQ, seval]) <;> rfl)) (fun h => ?_) (fun h => ?_)) | (refine go_br (fun h => ?_) (fun h => ?_)) | (refine go_gs (by ((try simp only [EE, QQ, seval]) <;> rfl)) (fun h => ?_) (fun h => ?_)) | (apply go_call 5000 (z1) rfl rfl; (· ((try simp only [CC, LL, NM, EE, QQ, seval]) <;> (first | rfl | ((repeat constructor); done)))); (· exact CallForm.plain rfl); (· ((try simp only [CC, LL, NM, EE, QQ, seval]) <;> (first | rfl | ((repeat constructor); done)))); (· ((try simp only [CC, LL, NM, EE, QQ, seval]) <;> (first | rfl | ((repeat constructor); done))))) | (apply go_call 5000 (z2) rfl rfl; (· ((try simp only [CC, LL, NM, EE, QQ, seval]) <;> (first | rfl | ((repeat constructor); done)))); (· exact CallForm.plain rfl); (· ((try simp only [CC, LL, NM, EE, QQ, seval]) <;> (first | rfl | ((repeat constructor); done)))); (· ((try simp only [CC, LL, NM, EE, QQ, seval]) <;> (first | rfl | ((repeat constructor); done))))) | (apply go_call 5000 (z3) rfl rfl; (· ((try simp only [CC, LL, NM, EE, QQ, seval]) <;> (first | rfl | ((repeat constructor); done)))); (· exact CallForm.plain rfl); (· ((try simp only [CC, LL, NM, EE, QQ, seval]) <;> (first | rfl | ((repeat constructor); done)))); (· ((try simp only [CC, LL, NM, EE, QQ, seval]) <;> (first | rfl | ((repeat constructor); done))))) | (with_reducible apply And.intro) | (with_reducible exact trivial) | omega | (simp only [List.length_map, List.length_cons, List.length_nil] at *; omega) | (show _ = true; first | rfl | kernel_rfl))
    generalize hKS : [(fr, to'), (t0.num, lt.num), (lt.num, t0.num)] = KS
    have lK : KS.length = 3 := by rw [← hKS]; rfl
    refine go_loopz 9000 hm0 (ι := {k : Nat // k ≤ 3}) (fun i => [(3, I fr), (4, I to'), (5, .d (dInts keep)), (8, .bp 8 0 0), (18, .bp 18 0 0), (19, .bp 19 0 0), (29, .bp 29 0 0), (31, .bp 31 0 0), (154, .d (.sl 1 (PS.map eP))), (155, I 4), (156, I k), (242, .d (.sl 2 (KS.map eK))), (243, I 3), (244, I i.1)]) (fun i => [(8, .box 0 (bC c)), (18, .box 0 [.d (dTabs ts)]), (19, .box 0 (bT lt)), (29, .box 0 (bC good)), (31, .box 0 [.d (dTabs x)])]) (fun i => 3 - i.1) [.og 242 0] [] ⟨0, by omega⟩ ?_ ?_
    · simp only [GeZ]; (simp only [GeS]; refine ⟨?_, ?_, ?_, ?_⟩; all_goals (repeat' (first | trivial | (with_reducible rfl) | simp only [CC, LL, EE, QQ, seval] | (with_reducible apply And.intro) | rfl | (refine ⟨_, rfl, ?_⟩) | (simp [← hKS, eK]; done) | omega)))
    rintro ⟨j, hj0⟩
    simp only
    by_cases hj3 : j < 3
    · have hs2 := getD_map eK [] (0, 0) KS j (by omega)
      generalize KS.getD j (0, 0) = y at hs2
      have z1 := ufind x y.1 okx
      have z2 := r37find x y.1 okx
      have z3 := ubetween x y.1 y.2 okx
      have z4 := r37between x y.1 y.2 okx
      have oku := findP_ok (n := y.1) okx
      have okv := btwP_okC (a := y.1) (b := y.2) okx
      have z5 := r14same (findP x y.1).1 (findP x y.1).1 (by have := oku.1; omega) (by have := oku.1; omega) oku.2 oku.2
      rw [sameT_iff, decide_eq_true rfl] at z5
      have z6 := r15same (btwP x y.1 y.2).1 (btwP x y.1 y.2).1 (by have := okv.1; omega) (by have := okv.1; omega) okv.2 okv.2
      rw [show sameC (btwP x y.1 y.2).1 (btwP x y.1 y.2).1 = true by simp [sameC]] at z6
      generalize findP x y.1 = u at *
      generalize btwP x y.1 y.2 = v at *
      have b2 : (u.2 != u.2) = false := by simp
      have b3 : (v.2 != v.2) = false := by simp
      repeat' (first | simp (maxSteps := 9999999) only [↓GE, PL, PP, EE, QQ, seval, lK, hs2, b2, b3, eK, List.length_map, List.getD_cons_zero, List.getD_cons_succ] | (simp (disch := omega) only [IntWalk.i64_in]) | (refine go_brD (fun h => ?_) (fun h => ?_)) | (refine go_gsD (by ((try simp only [EE, QQ, seval]) <;> rfl)) (fun h => ?_) (fun h => ?_)) | (refine go_br (fun h => ?_) (fun h => ?_)) | (refine go_gs (by ((try simp only [EE, QQ, seval]) <;> rfl)) (fun h => ?_) (fun h => ?_)) | (apply go_call 5000 (z1) rfl rfl; (· ((try simp only [CC, LL, NM, EE, QQ, seval]) <;> (first | rfl | ((repeat constructor); done)))); (· exact CallForm.plain rfl); (· ((try simp only [CC, LL, NM, EE, QQ, seval]) <;> (first | rfl | ((repeat constructor); done)))); (· ((try simp only [CC, LL, NM, EE, QQ, seval]) <;> (first | rfl | ((repeat constructor); done))))) | (apply go_call 5000 (z2) rfl rfl; (· ((try simp only [CC, LL, NM, EE, QQ, seval]) <;> (first | rfl | ((repeat constructor); done)))); (· exact CallForm.plain rfl); (· ((try simp only [CC, LL, NM, EE, QQ, seval]) <;> (first | rfl | ((repeat constructor); done)))); (· ((try simp only [CC, LL, NM, EE, QQ, seval]) <;> (first | rfl | ((repeat constructor); done))))) | (apply go_call 5000 (z3) rfl rfl; (· ((try simp only [CC, LL, NM, EE, QQ, seval]) <;> (first | rfl | ((repeat constructor); done)))); (· exact CallForm.plain rfl); (· ((try simp only [CC, LL, NM, EE, QQ, seval]) <;> (first | rfl | ((repeat constructor); done)))); (· ((try simp only [CC, LL, NM, EE, QQ, seval]) <;> (first | rfl | ((repeat constructor); done))))) | (apply go_call 5000 (z4) rfl rfl; (· ((try simp only [CC, LL, NM, EE, QQ, seval]) <;> (first | rfl | ((repeat constructor); done)))); (· exact CallForm.plain rfl); (· ((try simp only [CC, LL, NM, EE, QQ, seval]) <;> (first | rfl | ((repeat constructor); done)))); (· ((try simp only [CC, LL, NM, EE, QQ, seval]) <;> (first | rfl | ((repeat constructor); done))))) | (apply go_call 5000 (z5) rfl rfl; (· ((try simp only [CC, LL, NM, EE, QQ, seval]) <;> (first | rfl | ((repeat constructor); done)))); (· exact CallForm.plain rfl); (· ((try simp only [CC, LL, NM, EE, QQ, seval]) <;> (first | rfl | ((repeat constructor); done)))); (· ((try simp only [CC, LL, NM, EE, QQ, seval]) <;> (first | rfl | ((repeat constructor); done))))) | (apply go_call 5000 (z6) rfl rfl; (· ((try simp only [CC, LL, NM, EE, QQ, seval]) <;> (first | rfl | ((repeat constructor); done)))); (· exact CallForm.plain rfl); (· ((try simp only [CC, LL, NM, EE, QQ, seval]) <;> (first | rfl | ((repeat constructor); done)))); (· ((try simp only [CC, LL, NM, EE, QQ, seval]) <;> (first | rfl | ((repeat constructor); done))))) | (with_reducible apply And.intro) | (with_reducible exact trivial) | omega | (simp only [List.length_map, List.length_cons, List.length_nil] at *; omega) | (show _ = true; first | rfl | kernel_rfl))
      refine ⟨[], [], ⟨j + 1, by omega⟩, ?_, by simp only; omega⟩
      simp only [GeZ]; (simp only [GeS]; refine ⟨?_, ?_, ?_, ?_⟩; all_goals (repeat' (first | trivial | (with_reducible rfl) | simp only [CC, LL, EE, QQ, seval] | (with_reducible apply And.intro) | rfl | (refine ⟨_, rfl, ?_⟩) | (simp; done) | omega)))
    obtain rfl : j = 3 := by omega
    repeat' (first | simp (maxSteps := 9999999) only [↓GE, PL, PP, EE, QQ, seval, lK, List.length_map] | (simp (disch := omega) only [IntWalk.i64_in]) | (refine go_brD (fun h => ?_) (fun h => ?_)) | (refine go_gsD (by ((try simp only [EE, QQ, seval]) <;> rfl)) (fun h => ?_) (fun h => ?_)) | (refine go_br (fun h => ?_) (fun h => ?_)) | (refine go_gs (by ((try simp only [EE, QQ, seval]) <;> rfl)) (fun h => ?_) (fun h => ?_)) | (with_reducible apply And.intro) | (with_reducible exact trivial) | omega | (simp only [List.length_map, List.length_cons, List.length_nil] at *; omega) | (show _ = true; first | rfl | kernel_rfl))
    refine ⟨[], [], ⟨k + 1, by omega⟩, ?_, by simp only; omega⟩
    simp only [GeZ]; (simp only [GeS]; refine ⟨?_, ?_, ?_, ?_⟩; all_goals (repeat' (first | trivial | (with_reducible rfl) | simp only [CC, LL, EE, QQ, seval] | (with_reducible apply And.intro) | rfl | (refine ⟨_, rfl, ?_⟩) | (simp; done) | omega)))
  obtain rfl : k = 4 := by omega
  clear hk4 hk0
  have hs0 := getD_map eTab [] noTab ts 0 (by omega)
  have h00 : 0 < ts.length := by omega
  generalize ts.getD 0 noTab = t0 at *
  repeat' (first | simp (maxSteps := 9999999) only [↓GE, PL, PP, EE, QQ, seval, lP, hs0, h00, eTab, List.length_map, List.set_cons_zero, List.set_cons_succ, List.replicate] | (simp (disch := omega) only [IntWalk.i64_in]) | (refine go_brD (fun h => ?_) (fun h => ?_)) | (refine go_gsD (by ((try simp only [EE, QQ, seval]) <;> rfl)) (fun h => ?_) (fun h => ?_)) | (refine go_br (fun h => ?_) (fun h => ?_)) | (refine go_gs (by ((try simp only [EE, QQ, seval]) <;> rfl)) (fun h => ?_) (fun h => ?_)) | (with_reducible apply And.intro) | (with_reducible exact trivial) | omega | (simp only [List.length_map, List.length_cons, List.length_nil] at *; omega) | (show _ = true; first | rfl | kernel_rfl))
  have okVS : ∀ x ∈ [keep, [t0.num], []], x.length ≤ 1000000 := by
    intro x hx
    simp only [List.mem_cons, List.not_mem_nil, or_false] at hx
    rcases hx with rfl | rfl | rfl
    · omega
    · simp
    · simp
  generalize hVS : [keep, [t0.num], []] = VS at okVS
  have lV : VS.length = 3 := by rw [← hVS]; rfl
  refine go_loopz 9000 hm0 (ι := {k : Nat // k ≤ 3}) (fun i => [(18, .bp 18 0 0), (309, .d (.sl 1 (VS.map eR))), (310, I 3), (311, I i.1)]) (fun i => [(18, .box 0 [.d (dTabs ts)])]) (fun i => 3 - i.1) [.og 309 0] [] ⟨0, by omega⟩ ?_ ?_
  · simp only [GeZ]; (simp only [GeS]; refine ⟨?_, ?_, ?_, ?_⟩; all_goals (repeat' (first | trivial | (with_reducible rfl) | simp only [CC, LL, EE, QQ, seval] | (with_reducible apply And.intro) | rfl | (refine ⟨_, rfl, ?_⟩) | (simp [← hVS, eR, eI]; done) | omega)))
  rintro ⟨k, hk0⟩
  simp only
  by_cases hk3 : k < 3
  · have hs1 := getD_map eR [] [] VS k (by omega)
    have okx := ok_of [] okVS (k := k) (by omega)
    generalize VS.getD k [] = x at hs1 okx
    have y1 := ukeep ts x hT okx
    have y2 := r37keep ts x hT okx
    have okn := keepF_okTs (vs := x) hT
    have y3 := r37same (keepF ts x) (keepF ts x) okn okn
    rw [decide_eq_true rfl] at y3
    generalize keepF ts x = u at *
    repeat' (first | simp (maxSteps := 9999999) only [↓GE, PL, PP, EE, QQ, seval, lV, hs1, eR, List.length_map] | (simp (disch := omega) only [IntWalk.i64_in]) | (refine go_brD (fun h => ?_) (fun h => ?_)) | (refine go_gsD (by ((try simp only [EE, QQ, seval]) <;> rfl)) (fun h => ?_) (fun h => ?_)) | (refine go_br (fun h => ?_) (fun h => ?_)) | (refine go_gs (by ((try simp only [EE, QQ, seval]) <;> rfl)) (fun h => ?_) (fun h => ?_)) | (apply go_call 5000 (y1) rfl rfl; (· ((try simp only [CC, LL, NM, EE, QQ, seval]) <;> (first | rfl | ((repeat constructor); done)))); (· exact CallForm.plain rfl); (· ((try simp only [CC, LL, NM, EE, QQ, seval]) <;> (first | rfl | ((repeat constructor); done)))); (· ((try simp only [CC, LL, NM, EE, QQ, seval]) <;> (first | rfl | ((repeat constructor); done))))) | (apply go_call 5000 (y2) rfl rfl; (· ((try simp only [CC, LL, NM, EE, QQ, seval]) <;> (first | rfl | ((repeat constructor); done)))); (· exact CallForm.plain rfl); (· ((try simp only [CC, LL, NM, EE, QQ, seval]) <;> (first | rfl | ((repeat constructor); done)))); (· ((try simp only [CC, LL, NM, EE, QQ, seval]) <;> (first | rfl | ((repeat constructor); done))))) | (apply go_call 5000 (y3) rfl rfl; (· ((try simp only [CC, LL, NM, EE, QQ, seval]) <;> (first | rfl | ((repeat constructor); done)))); (· exact CallForm.plain rfl); (· ((try simp only [CC, LL, NM, EE, QQ, seval]) <;> (first | rfl | ((repeat constructor); done)))); (· ((try simp only [CC, LL, NM, EE, QQ, seval]) <;> (first | rfl | ((repeat constructor); done))))) | (with_reducible apply And.intro) | (with_reducible exact trivial) | omega | (simp only [List.length_map, List.length_cons, List.length_nil] at *; omega) | (show _ = true; first | rfl | kernel_rfl))
    refine ⟨[], [], ⟨k + 1, by omega⟩, ?_, by simp only; omega⟩
    simp only [GeZ]; (simp only [GeS]; refine ⟨?_, ?_, ?_, ?_⟩; all_goals (repeat' (first | trivial | (with_reducible rfl) | simp only [CC, LL, EE, QQ, seval] | (with_reducible apply And.intro) | rfl | (refine ⟨_, rfl, ?_⟩) | (simp; done) | omega)))
  obtain rfl : k = 3 := by omega
  repeat' (first | simp (maxSteps := 9999999) only [↓GE, PL, PP, EE, QQ, seval, lV, List.length_map] | (simp (disch := omega) only [IntWalk.i64_in]) | (refine go_brD (fun h => ?_) (fun h => ?_)) | (refine go_gsD (by ((try simp only [EE, QQ, seval]) <;> rfl)) (fun h => ?_) (fun h => ?_)) | (refine go_br (fun h => ?_) (fun h => ?_)) | (refine go_gs (by ((try simp only [EE, QQ, seval]) <;> rfl)) (fun h => ?_) (fun h => ?_)) | (with_reducible apply And.intro) | (with_reducible exact trivial) | omega | (simp only [List.length_map, List.length_cons, List.length_nil] at *; omega) | (show _ = true; first | rfl | kernel_rfl))
  all_goals ((first | apply ret_mk [] | apply end_mk []); (· ((try simp only [CC, LL, EE, QQ, seval]) <;> rfl)); (· ((try simp only [CC, LL, EE, QQ, seval]) <;> repeat' (first | (with_reducible apply And.intro) | rfl | trivial | (exact ⟨_, rfl⟩) | (exact ⟨_, _, _, rfl⟩) | (simp [*, ]; done) | (simp [*, ]; omega) | (simp_all []; done) | (simp_all []; omega)))); all_goals (first | trivial | decide | ((try simp only [CC, LL, EE, QQ, seval]) <;> repeat' (first | (with_reducible apply And.intro) | (exact ⟨_, rfl, rfl, rfl⟩) | (exact ⟨_, _, _, rfl⟩) | (exact ⟨_, rfl⟩) | trivial | rfl | (simp; done)))))
end Go.Proofs.Ytilkjcobkdjlkaa.Sim
end
section
namespace Go.Proofs.Ytilkjcobkdjlkaa.Sim
open Go Go.RowKit Go.ChangeShapes Go.WideShapes
set_option linter.unusedVariables false
set_option linter.unusedSimpArgs false
set_option maxRecDepth 100000
theorem cells_one {w : World} {S : Nat → Prop} {d : D} {v : Value} (h : Cells w S [d] [v]) : d.is w S v := by
  simp only [Cells] at h
  obtain ⟨x, r, e, h1, _⟩ := h
  cases e
  exact h1
theorem bytes_tInt : Try.prog.bytesOf 3 = 8 := by kernel_rfl
theorem bytes_tInts : Try.prog.bytesOf 33 = 24 := by kernel_rfl
theorem bytes_tSet : Try.prog.bytesOf 77 = 32 := by kernel_rfl
def ok_ints (l : List Int) : Prop := l.length ≤ 17592186044416
def ok_rows (l : List (List Int)) : Prop := l.length ≤ 17592186044416 ∧ Short l
def ok_set (s : PSet) : Prop := s.row.length ≤ 17592186044416
def ok_sets (l : List PSet) : Prop := l.length ≤ 17592186044416 ∧ ShortS l
def ok_table (t : PTab) : Prop := t.rows.length ≤ 17592186044416 ∧ Short t.rows
def ok_change (c : PChg) : Prop := c.sets.length ≤ 17592186044416 ∧ ShortS c.sets
def ok_bytes (l : List UInt8) : Prop := l.length ≤ 140737488355328
theorem bytes_tU8 : Try.prog.bytesOf 5 = 1 := by kernel_rfl
theorem opens_bytes : OpensD Try.prog 22 (fun l : List UInt8 => [dBytes l]) ok_bytes :=
  (OpensD.slice (f := eB) Try.underlying22 (by kernel_rfl) (by decide) (fun _ => rfl) (OpensD.u8 Try.underlying5)).mono fun l h => by
    have := h.1
    simp only [bytes_tU8, reachBytes] at this
    show l.length ≤ 140737488355328
    omega
theorem opens_ints : OpensD Try.prog 33 (fun l : List Int => [dInts l]) ok_ints :=
  (OpensD.slice (f := eI) Try.underlying33 (by kernel_rfl) (by decide) (fun _ => rfl) (OpensD.int Try.underlying3)).mono fun l h => by
    have := h.1
    simp only [bytes_tInt, reachBytes] at this
    show l.length ≤ 17592186044416
    omega
theorem opens_rows : OpensD Try.prog 28 (fun l : List (List Int) => [dRows l]) ok_rows :=
  (OpensD.slice (f := eR) Try.underlying28 (by kernel_rfl) (by decide) (fun _ => rfl) opens_ints).mono fun l h => by
    have := h.1
    simp only [bytes_tInts, reachBytes] at this
    exact ⟨by omega, h.2⟩
theorem opens_field : OpensD Try.prog 27 (fun x : Int => [D.at (.int .i64 x)]) (fun _ => True) := by
  intro H enc w base spare held fuel cs x h
  obtain ⟨n, xs, hl, hxl, hx, hf⟩ := Opens.parts Try.underlying27 h
  have hl' : cs.length = 1 := hl.trans (by kernel_rfl)
  have hxl' : xs.length = 1 := hxl
  have e_tInt : Try.prog.cellsOf 3 = 1 := by kernel_rfl
  obtain ⟨a0, c0, k0⟩ := part_ok Try.underlying27 hx hf (j := 0) rfl (by omega) (OpensD.int Try.underlying3)
  match cs, hl', c0 with
  | [u0], _, c0 =>
    simp only [List.getElem_toArray, List.getElem_cons_zero, List.getElem_cons_succ, e_tInt, List.drop_zero, List.take_succ_cons, List.take_zero] at c0
    exact ⟨a0, c0, fun _ => trivial⟩
theorem opens_set : OpensD Try.prog 77 eSet ok_set := by
  intro H enc w base spare held fuel cs x h
  obtain ⟨n, xs, hl, hxl, hx, hf⟩ := Opens.parts Try.underlying77 h
  have hl' : cs.length = 2 := hl.trans (by kernel_rfl)
  have hxl' : xs.length = 2 := hxl
  have e_tInt : Try.prog.cellsOf 3 = 1 := by kernel_rfl
  have e_tInts : Try.prog.cellsOf 33 = 1 := by kernel_rfl
  obtain ⟨a0, c0, k0⟩ := part_ok Try.underlying77 hx hf (j := 0) rfl (by omega) (OpensD.int Try.underlying3)
  obtain ⟨a1, c1, k1⟩ := part_ok Try.underlying77 hx hf (j := 1) rfl (by omega) (opens_ints)
  match cs, hl', c0, c1 with
  | [u0, u1], _, c0, c1 =>
    simp only [List.getElem_toArray, List.getElem_cons_zero, List.getElem_cons_succ, e_tInt, e_tInts, List.drop_succ_cons, List.drop_zero, List.take_succ_cons, List.take_zero] at c0 c1
    refine ⟨⟨a0, a1⟩, cells_append c0 (c1), fun hs => ?_⟩
    have k0 := k0 hs
    have k1 := k1 hs
    exact k1
theorem opens_sets : OpensD Try.prog 53 (fun l : List PSet => [dSets l]) ok_sets :=
  (OpensD.slice (f := eSet) Try.underlying53 (by kernel_rfl) (by decide) (fun _ => rfl) opens_set).mono fun l h => by
    have := h.1
    simp only [bytes_tSet, reachBytes] at this
    exact ⟨by omega, h.2⟩
theorem opens_table : OpensD Try.prog 30 eTab ok_table := by
  intro H enc w base spare held fuel cs x h
  obtain ⟨n, xs, hl, hxl, hx, hf⟩ := Opens.parts Try.underlying30 h
  have hl' : cs.length = 4 := hl.trans (by kernel_rfl)
  have hxl' : xs.length = 4 := hxl
  have e_tField : Try.prog.cellsOf 27 = 1 := by kernel_rfl
  have e_tInt : Try.prog.cellsOf 3 = 1 := by kernel_rfl
  have e_tRows : Try.prog.cellsOf 28 = 1 := by kernel_rfl
  obtain ⟨a0, c0, k0⟩ := part_ok Try.underlying30 hx hf (j := 0) rfl (by omega) (OpensD.int Try.underlying3)
  obtain ⟨a1, c1, k1⟩ := part_ok Try.underlying30 hx hf (j := 1) rfl (by omega) (opens_field)
  obtain ⟨a2, c2, k2⟩ := part_ok Try.underlying30 hx hf (j := 2) rfl (by omega) (OpensD.int Try.underlying3)
  obtain ⟨a3, c3, k3⟩ := part_ok Try.underlying30 hx hf (j := 3) rfl (by omega) (opens_rows)
  match cs, hl', c0, c1, c2, c3 with
  | [u0, u1, u2, u3], _, c0, c1, c2, c3 =>
    simp only [List.getElem_toArray, List.getElem_cons_zero, List.getElem_cons_succ, e_tField, e_tInt, e_tRows, List.drop_succ_cons, List.drop_zero, List.take_succ_cons, List.take_zero] at c0 c1 c2 c3
    refine ⟨⟨a0, a1, a2, a3⟩, cells_append c0 (cells_append c1 (cells_append c2 (c3))), fun hs => ?_⟩
    have k0 := k0 hs
    have k1 := k1 hs
    have k2 := k2 hs
    have k3 := k3 hs
    exact k3
theorem opens_change : OpensD Try.prog 55 eChg ok_change := by
  intro H enc w base spare held fuel cs x h
  obtain ⟨n, xs, hl, hxl, hx, hf⟩ := Opens.parts Try.underlying55 h
  have hl' : cs.length = 4 := hl.trans (by kernel_rfl)
  have hxl' : xs.length = 4 := hxl
  have e_tInt : Try.prog.cellsOf 3 = 1 := by kernel_rfl
  have e_tSets : Try.prog.cellsOf 53 = 1 := by kernel_rfl
  obtain ⟨a0, c0, k0⟩ := part_ok Try.underlying55 hx hf (j := 0) rfl (by omega) (OpensD.int Try.underlying3)
  obtain ⟨a1, c1, k1⟩ := part_ok Try.underlying55 hx hf (j := 1) rfl (by omega) (OpensD.int Try.underlying3)
  obtain ⟨a2, c2, k2⟩ := part_ok Try.underlying55 hx hf (j := 2) rfl (by omega) (OpensD.int Try.underlying3)
  obtain ⟨a3, c3, k3⟩ := part_ok Try.underlying55 hx hf (j := 3) rfl (by omega) (opens_sets)
  match cs, hl', c0, c1, c2, c3 with
  | [u0, u1, u2, u3], _, c0, c1, c2, c3 =>
    simp only [List.getElem_toArray, List.getElem_cons_zero, List.getElem_cons_succ, e_tInt, e_tSets, List.drop_succ_cons, List.drop_zero, List.take_succ_cons, List.take_zero] at c0 c1 c2 c3
    refine ⟨⟨a0, a1, a2, a3⟩, cells_append c0 (cells_append c1 (cells_append c2 (c3))), fun hs => ?_⟩
    have k0 := k0 hs
    have k1 := k1 hs
    have k2 := k2 hs
    have k3 := k3 hs
    exact k3
section
variable {m : M} {hd : H} {w : World} {S : Nat → Prop}
theorem vrs_nil : VRs m hd w S [] [] := by simp only [VRs]
theorem vrs_cons {x : V} {l : List V} {u : Value} {r : List Value} (h : VR m hd w S x u) (h2 : VRs m hd w S l r) : VRs m hd w S (x :: l) (u :: r) := by
  simp only [VRs]
  exact ⟨_, _, rfl, h, h2⟩
theorem vr_d {d : D} {u : Value} (h : d.is w S u) : VR m hd w S (.d d) u := by
  simp only [VR]
  exact h
theorem vr_int {k : IntKind} {n : Int} : VR m hd w S (.d (.at (.int k n))) (.int k n) := by
  simp [VR, D.is, Value.oneCell']
theorem vr_cells {c : List D} {cs : Array Value} (h : Cells w S c cs.toList) : VR m hd w S (.ag (c.map V.d)) (.agg cs) := by
  simp only [VR]
  exact ⟨cs.toList, by simp, cells_VRs h, h.one⟩
end
end Go.Proofs.Ytilkjcobkdjlkaa.Sim
end
section
namespace Go.Proofs.Ytilkjcobkdjlkaa.updateSteps
open Go Go.RowKit Go.Deep Go.ChangeShapes Go.WideShapes Go.ChangeAt
open Go.ChangeMaps (open_string shut_string)
set_option linter.unusedVariables false

theorem own : ownKnob Try.prog.godebug = none := by kernel_rfl
theorem laidOut : laidOutB Try.prog = true := by kernel_rfl
theorem wf_i64 {x : Int} (h : (Lit.int .i64 x).wf = true) : -9223372036854775808 ≤ x ∧ x ≤ 9223372036854775807 := by simpa [Lit.wf, IntKind.min, IntKind.max, IntKind.signed, IntKind.bits] using h
theorem args (w : World) (v0 : Value) (x0 : List UInt8) (h0 : (Sim.dBytes x0).is w (Lo w.heap.size) v0) (k0 : Sim.ok_bytes x0)
    (cs1 : Array Value) (x1 : Sim.PTab) (h1 : Sim.Cells w (Lo w.heap.size) (Sim.eTab x1) cs1.toList) (k1 : Sim.ok_table x1)
    (cs2 : Array Value) (x2 : Sim.PChg) (h2 : Sim.Cells w (Lo w.heap.size) (Sim.eChg x2) cs2.toList) (k2 : Sim.ok_change x2)
    (x3 : Int) (l3 : -9223372036854775808 ≤ x3) (u3 : x3 ≤ 9223372036854775807)
    (x4 : Int) (l4 : -9223372036854775808 ≤ x4) (u4 : x4 ≤ 9223372036854775807)
    (v5 : Value) (x5 : List Int) (h5 : (Sim.dInts x5).is w (Lo w.heap.size) v5) (k5 : Sim.ok_ints x5) : Calls Try.prog 9 #[v0, .agg cs1, .agg cs2, .int .i64 x3, .int .i64 x4, v5] w (Sim.IsTrueS w) := by
  have := Sim.calls_true (us := [v0, .agg cs1, .agg cs2, .int .i64 x3, .int .i64 x4, v5]) (hd := fun _ => .bool true) ((fun (s : List UInt8) (ks : Sim.ok_bytes s) (r : Sim.PTab) (kr : Sim.ok_table r) (c : Sim.PChg) (kc : Sim.ok_change c) (f1 : Int) (_ : -9223372036854775808 ≤ f1) (_ : f1 ≤ 9223372036854775807) (t1 : Int) (_ : -9223372036854775808 ≤ t1) (_ : t1 ≤ 9223372036854775807) (k : List Int) (kk : Sim.ok_ints k) => Sim.lawSteps s r c f1 t1 k ks kr.1 kr.2 kc.1 kc.2 kk) x0 k0 x1 k1 x2 k2 x3 l3 u3 x4 l4 u4 x5 k5) (Sim.vrs_cons (Sim.vr_d h0) (Sim.vrs_cons (Sim.vr_cells h1) (Sim.vrs_cons (Sim.vr_cells h2) (Sim.vrs_cons Sim.vr_int (Sim.vrs_cons Sim.vr_int (Sim.vrs_cons (Sim.vr_d h5) (Sim.vrs_nil)))))))
  simpa using this

set_option maxRecDepth 100000 in
theorem lifted (os : Os) (started : os.Started) (H : Type) (enc : TypeId × Value → H) :
    ReturnsInHanded {} Try.checked os 9 .any (Rows.updateStepsSpec.pre6 enc Try.prog Try.f9 Rows.updateStepsRow.domain false) (Rows.updateStepsSpec.post enc Try.prog Try.f9 false true false false) := by
  refine returnsInHanded_of_change_sized (C := Try.checked) own started (by kernel_rfl) Try.func9
    (ChangeSpec.witness6 (enc := enc) (C := Try.checked) false ⟨#[], #[.slice none 0 0, .agg #[.int .i64 0, .int .i64 0, .int .i64 0, .slice none 0 0], .agg #[.int .i64 0, .int .i64 0, .int .i64 0, .slice none 0 0], .int .i64 0, .int .i64 0, .slice none 0 0], []⟩ 8 (by kernel_rfl) (by kernel_rfl) (by kernel_rfl) (by kernel_rfl)) ?_
  intro W base args ds gs before hval0 hW hcnd hsz0 _
  have hsz : (DataW.weightsEach Try.prog (Try.f9.params.toList ++ Rows.updateStepsSpec.plain.varTypes Try.prog) (ds ++ gs)).all (· ≤ reachBytes) = true := hsz0
  have hval : ∀ (j : Nat) t v, Try.f9.params[j]? = some t → args[j]? = some v → Value.okWide Try.prog W .any base t v := hval0
  have hW' := hW
  obtain ⟨p, q, hA0, hV, rfl, hfz, hnd⟩ := hW
  have hA : DataW.TrodAll enc Try.prog W 0 (fun _ => true) true Try.f9.params.toList args.toList ds p := hA0
  rw [Try.params9] at hA hval hsz
  obtain ⟨v0, vs0, d0, ds0, p0, q0, hargs, rfl, rfl, h0, r0⟩ := trodAll_cons hA
  obtain ⟨v1, vs1, d1, ds1, p1, q1, rfl, rfl, rfl, h1, r1⟩ := trodAll_cons r0
  obtain ⟨v2, vs2, d2, ds2, p2, q2, rfl, rfl, rfl, h2, r2⟩ := trodAll_cons r1
  obtain ⟨v3, vs3, d3, ds3, p3, q3, rfl, rfl, rfl, h3, r3⟩ := trodAll_cons r2
  obtain ⟨v4, vs4, d4, ds4, p4, q4, rfl, rfl, rfl, h4, r4⟩ := trodAll_cons r3
  obtain ⟨v5, vs5, d5, ds5, p5, q5, rfl, rfl, rfl, h5, r5⟩ := trodAll_cons r4
  obtain ⟨rfl, rfl, rfl⟩ := trodAll_nil r5
  obtain rfl : args = #[v0, v1, v2, v3, v4, v5] := by cases args; simp_all
  obtain ⟨rfl, rfl⟩ := trodVars_none hV
  obtain ⟨a0, len0, cap0, rfl⟩ := okWide_slice Try.underlying22 (hval 0 22 v0 rfl rfl)
  have k0 := h0
  have lt0 : ∀ x ∈ p0, x.block < W.heap.size := by obtain ⟨m, hm⟩ := k0; exact DataW.trod_lt m _ _ _ hm
  obtain ⟨fuel0, hf0⟩ := h0
  obtain ⟨x0, hx0, hk0⟩ := Sim.opens_bytes _ _ _ _ _ _ _ _ _ hf0
  simp only [Value.cells] at hx0
  have ok0 := hk0 (Sim.sized_of hsz (j := 0) rfl rfl)
  obtain ⟨cs1, rfl, hsz1⟩ := okWide_struct Try.underlying30 (hval 1 30 v1 rfl rfl)
  have k1 := h1
  have lt1 : ∀ x ∈ p1, x.block < W.heap.size := by obtain ⟨m, hm⟩ := k1; exact DataW.trod_lt m _ _ _ hm
  obtain ⟨fuel1, hf1⟩ := h1
  obtain ⟨x1, hx1, hk1⟩ := Sim.opens_table _ _ _ _ _ _ _ _ _ hf1
  simp only [Value.cells] at hx1
  have ok1 := hk1 (Sim.sized_of hsz (j := 1) rfl rfl)
  obtain ⟨cs2, rfl, hsz2⟩ := okWide_struct Try.underlying55 (hval 2 55 v2 rfl rfl)
  have k2 := h2
  have lt2 : ∀ x ∈ p2, x.block < W.heap.size := by obtain ⟨m, hm⟩ := k2; exact DataW.trod_lt m _ _ _ hm
  obtain ⟨fuel2, hf2⟩ := h2
  obtain ⟨x2, hx2, hk2⟩ := Sim.opens_change _ _ _ _ _ _ _ _ _ hf2
  simp only [Value.cells] at hx2
  have ok2 := hk2 (Sim.sized_of hsz (j := 2) rfl rfl)
  obtain ⟨x3, rfl, rfl, rfl, w3⟩ := open_int Try.underlying3 (hval 3 3 v3 rfl rfl) h3
  have b3 := wf_i64 w3
  obtain ⟨x4, rfl, rfl, rfl, w4⟩ := open_int Try.underlying3 (hval 4 3 v4 rfl rfl) h4
  have b4 := wf_i64 w4
  obtain ⟨a5, len5, cap5, rfl⟩ := okWide_slice Try.underlying33 (hval 5 33 v5 rfl rfl)
  have k5 := h5
  have lt5 : ∀ x ∈ p5, x.block < W.heap.size := by obtain ⟨m, hm⟩ := k5; exact DataW.trod_lt m _ _ _ hm
  obtain ⟨fuel5, hf5⟩ := h5
  obtain ⟨x5, hx5, hk5⟩ := Sim.opens_ints _ _ _ _ _ _ _ _ _ hf5
  simp only [Value.cells] at hx5
  have ok5 := hk5 (Sim.sized_of hsz (j := 5) rfl rfl)
  clear hA0 hval0
  have hw := args W (.slice a0 len0 cap0) x0 (Sim.cells_one (by simpa using hx0)) ok0 cs1 x1 hx1 ok1 cs2 x2 hx2 ok2 x3 b3.1 b3.2 x4 b4.1 b4.2 (.slice a5 len5 cap5) x5 (Sim.cells_one (by simpa using hx5)) ok5
  refine hw.mono fun e W' ⟨he, bel⟩ => ?_
  subst he
  exact ⟨_, rfl, _, _, _, [], _, [], hW', trodAll_mk1 (shut_bool Try.underlying4 _), (trodAll_cons_mk (Below.trod laidOut (by kernel_rfl) (of_decide_eq_true (by kernel_rfl)) k0 bel lt0) (trodAll_cons_mk (Below.trod laidOut (by kernel_rfl) (of_decide_eq_true (by kernel_rfl)) k1 bel lt1) (trodAll_cons_mk (Below.trod laidOut (by kernel_rfl) (of_decide_eq_true (by kernel_rfl)) k2 bel lt2) (trodAll_cons_mk (shut_int Try.underlying3 w3) (trodAll_cons_mk (shut_int Try.underlying3 w4) (trodAll_cons_mk (Below.trod laidOut (by kernel_rfl) (of_decide_eq_true (by kernel_rfl)) k5 bel lt5) trodAll_mk0)))))), rfl, bel.frame _, fun h => by cases h⟩

theorem over : Rows.updateStepsRow.holds Try.pinned (OpenSpec.ofChange Rows.updateStepsSpec) :=
  OpenClaim.holds_of_wide 9 Try.f9 rfl rfl rfl rfl rfl rfl rfl ⟨rfl, rfl, rfl, rfl, rfl⟩ rfl rfl rfl rfl rfl (by kernel_rfl) Try.func9 (by kernel_rfl)
    (of_decide_eq_true (by kernel_rfl)) (by unfold Func.isWrapper; first | (rw [if_pos (by decide +kernel)]; kernel_rfl) | (rw [if_neg (by decide +kernel)]; exact ⟨rfl, rfl⟩))
    (fun os started H enc _ => lifted os started H enc)

theorem proved : Rows.UpdateStepsSaid := over
#print axioms proved
end Go.Proofs.Ytilkjcobkdjlkaa.updateSteps
end
