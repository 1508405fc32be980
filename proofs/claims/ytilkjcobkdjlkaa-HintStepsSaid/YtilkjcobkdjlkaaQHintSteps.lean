/- HintSteps: at every input the law returns true, and each argument reads afterwards as it read before. -/
import Derived.Test.YtilkjcobkdjlkaaSimBr
import Derived.SizedLaws
import Derived.Test.YtilkjcobkdjlkaaUhJ
import Derived.Test.YtilkjcobkdjlkaaUhLa
import Derived.Test.YtilkjcobkdjlkaaAcsHS
import Derived.Test.YtilkjcobkdjlkaaRows
import Derived.ProofKit
import Derived.OpenShut
import Derived.ShutString
import Derived.ChangeOld
import Derived.Below
section
namespace Go.Proofs.Ytilkjcobkdjlkaa.Sim
open Go Go.RowKit Go.Deep Go.ChangeShapes Go.WideShapes
set_option linter.unusedVariables false
/-- All that it holds has room. -/
def Sized {H : Type} (P : Program) (t : TypeId) (d : DataW H) : Prop := ∀ n ∈ d.weights P t, n ≤ reachBytes
/-- What is read at type t is a datum of α, which is ok where all has room. -/
def OpensD (P : Program) (t : TypeId) {α : Type} (f : α → List D) (ok : α → Prop) : Prop :=
  ∀ (H : Type) (enc : TypeId × Value → H) (w : World) (base : Nat) (spare : Nat → Bool) (held : Bool) (fuel : Nat) (cs : List Value) (x : DataW H × List MemPlace),
    DataW.trod enc P w base spare held fuel t cs = some x → ∃ a : α, Cells w (Lo w.heap.size) (f a) cs ∧ (Sized P t x.1 → ok a)
theorem OpensD.mono {P : Program} {t : TypeId} {α : Type} {f : α → List D} {ok ok' : α → Prop} (h : OpensD P t f ok) (hk : ∀ a, ok a → ok' a) : OpensD P t f ok' := by
  intro H enc w base spare held fuel cs x hx
  obtain ⟨a, h1, h2⟩ := h _ _ _ _ _ _ _ _ _ hx
  exact ⟨a, h1, fun h3 => hk a (h2 h3)⟩
theorem OpensD.map {P : Program} {t : TypeId} {α β : Type} {f : α → List D} {ok : α → Prop} (h : OpensD P t f ok) (g : α → β) {f' : β → List D} {ok' : β → Prop} (hf : ∀ a, f' (g a) = f a) (hk : ∀ a, ok a → ok' (g a)) : OpensD P t f' ok' := by
  intro H enc w base spare held fuel cs x hx
  obtain ⟨a, h1, h2⟩ := h _ _ _ _ _ _ _ _ _ hx
  exact ⟨g a, by rw [hf]; exact h1, fun h3 => hk a (h2 h3)⟩
theorem OpensD.int {P : Program} {t : TypeId} (ht : P.underlying t = some (.int .i64)) : OpensD P t (fun x : Int => [D.at (.int .i64 x)]) (fun x => -9223372036854775808 ≤ x ∧ x ≤ 9223372036854775807) := by
  intro H enc w base spare held fuel cs x h
  obtain ⟨n, rfl, rfl, hw⟩ := DataW.trod_int ht h
  refine ⟨n, by simp only [Cells, D.is]; exact ⟨_, _, rfl, ⟨rfl, rfl⟩, rfl⟩, fun _ => ?_⟩
  have := i64_of_wf hw
  exact this
theorem OpensD.u8 {P : Program} {t : TypeId} (ht : P.underlying t = some (.int .u8)) : OpensD P t (fun x : UInt8 => [D.at (.int .u8 x.toNat)]) (fun _ => True) := by
  intro H enc w base spare held fuel cs x h
  obtain ⟨n, rfl, rfl, hw⟩ := DataW.trod_int ht h
  have hn : 0 ≤ n ∧ n ≤ 255 := by simpa [Lit.wf, IntKind.min, IntKind.max, IntKind.signed, IntKind.bits] using hw
  obtain ⟨m, rfl⟩ := Int.eq_ofNat_of_zero_le hn.1
  refine ⟨UInt8.ofNat m, ?_, fun _ => trivial⟩
  simp only [Cells, D.is]
  refine ⟨_, _, rfl, ⟨?_, rfl⟩, rfl⟩
  rw [UInt8.toNat_ofNat', Nat.mod_eq_of_lt (by omega)]
theorem sized_all {H : Type} {P : Program} {e : TypeId} : ∀ {l : List (DataW H)} {i : Nat} (h : i < l.length), ∀ n ∈ l[i].weights P e, n ∈ DataW.weightsAll P e l
  | d :: l, 0, h, n, hn => by simp only [DataW.weightsAll, List.mem_append]; exact .inl hn
  | d :: l, i + 1, h, n, hn => by simp only [DataW.weightsAll, List.mem_append]; exact .inr (sized_all (by simpa using h) n hn)
/-- A SLICE. -/
theorem OpensD.slice {P : Program} {t e : TypeId} {k : Nat} {α : Type} {f : α → List D} {ok : α → Prop} (ht : P.underlying t = some (.slice e)) (hC : P.cellsOf e = k) (hpos : 0 < k) (hk : ∀ a, (f a).length = k) (he : OpensD P e f ok) : OpensD P t (fun l : List α => [D.sl k (l.map f)]) (fun l => l.length * P.bytesOf e ≤ reachBytes ∧ ∀ a ∈ l, ok a) := by
  intro H enc w base spare held fuel cs x h
  have hO : Opens P e (E k) (fun d e' => ∃ a, e'.cs = f a ∧ (Sized P e d → ok a)) := by
    intro H enc w base spare held fuel cs x h
    obtain ⟨a, h1, h2⟩ := he _ _ _ _ _ _ _ _ _ h
    exact ⟨⟨f a, hk a⟩, h1, a, rfl, h2⟩
  obtain ⟨l', ⟨v, rfl, hl⟩, hb⟩ := Opens.slice (α := E k) ht hC hpos hO _ _ _ _ _ _ _ _ _ h
  have key : ∃ la : List α, l'.map E.cs = la.map f ∧ (Sized P t x.1 → la.length * P.bytesOf e ≤ reachBytes ∧ ∀ a ∈ la, ok a) := by
    rcases hb with ⟨_, rfl⟩ | ⟨elems, spare, hx, hle, hi⟩
    · exact ⟨[], rfl, fun _ => ⟨by simp, fun a h => by cases h⟩⟩
    · obtain ⟨la, hlen, hla⟩ := list_of (fun i (a : α) => ∀ (h : i < l'.length) (h' : i < elems.length), l'[i].cs = f a ∧ (Sized P e elems[i] → ok a)) l'.length fun i hi' => by
        obtain ⟨a, h1, h2⟩ := hi i hi' (by omega)
        exact ⟨a, fun _ _ => ⟨h1, h2⟩⟩
      refine ⟨la, ?_, fun hs => ?_⟩
      · apply List.ext_getElem
        · simp [hlen]
        · intro i h1 h2
          simp only [List.length_map] at h1 h2
          rw [List.getElem_map, List.getElem_map]
          exact (hla i h2 h1 (by omega)).1
      · rw [hx] at hs
        have hw : ∀ n, n = (elems.length + spare.length) * P.bytesOf e ∨ n ∈ DataW.weightsAll P e elems → n ≤ reachBytes := fun n hn => hs n (by
          simp only [DataW.weights, ht, List.mem_cons, List.mem_append]
          exact hn.elim .inl fun h => .inr (.inl h))
        refine ⟨?_, fun a ha => ?_⟩
        · have h1 := hw _ (.inl rfl)
          have h2 : la.length * P.bytesOf e ≤ (elems.length + spare.length) * P.bytesOf e := Nat.mul_le_mul_right _ (by omega)
          omega
        · obtain ⟨i, hi', rfl⟩ := List.getElem_of_mem ha
          exact (hla i hi' (by omega) (by omega)).2 fun n hn => hw n (.inr (sized_all (by omega) n hn))
  obtain ⟨la, h1, h2⟩ := key
  refine ⟨la, ?_, h2⟩
  simp only [Cells]
  exact ⟨_, _, rfl, sl_iff.2 ⟨l', h1, hl⟩, rfl⟩
theorem cells_append {w : World} {S : Nat → Prop} : ∀ {c1 c2 : List D} {a b : List Value}, Cells w S c1 a → Cells w S c2 b → Cells w S (c1 ++ c2) (a ++ b)
  | [], c2, a, b, h, k => by simp only [Cells] at h; subst h; exact k
  | d :: c1, c2, a, b, h, k => by
    simp only [Cells] at h
    obtain ⟨x, r, rfl, h1, h2⟩ := h
    simp only [List.cons_append, Cells]
    exact ⟨x, r ++ b, rfl, h1, cells_append h2 k⟩
/-- A field of a struct. -/
theorem part_ok {P : Program} {t : TypeId} {fs : Array Field} (ht : P.underlying t = some (.struct fs)) {H : Type} {enc : TypeId × Value → H} {w : World} {base : Nat} {spare : Nat → Bool} {held : Bool} {n : Nat} {cs : List Value} {d : DataW H} {xs : List (DataW H × List MemPlace)} (hx : d = .agg (xs.map (·.1)))
    (hf : ∀ (j : Nat) (f : Field), fs[j]? = some f → DataW.trod enc P w base spare held n f.type ((cs.drop f.offset).take (P.cellsOf f.type)) = xs[j]?) {j : Nat} {f : Field} (hj : fs[j]? = some f) (hl : j < xs.length) {α : Type} {g : α → List D} {ok : α → Prop} (ho : OpensD P f.type g ok) :
    ∃ a : α, Cells w (Lo w.heap.size) (g a) ((cs.drop f.offset).take (P.cellsOf f.type)) ∧ (Sized P t d → ok a) := by
  have h1 := hf j f hj
  rw [List.getElem?_eq_getElem hl] at h1
  obtain ⟨a, h2, h3⟩ := ho _ _ _ _ _ _ _ _ _ h1
  refine ⟨a, h2, fun hs => h3 fun m hm => hs m ?_⟩
  rw [hx]
  simp only [DataW.weights, ht]
  refine DataW.weights_mem_each (j := j) (t := f.type) (d := xs[j].1) ?_ ?_ m hm
  · rw [List.getElem?_map, Array.getElem?_toList, hj]; rfl
  · rw [List.getElem?_map, List.getElem?_eq_getElem hl]; rfl
theorem sized_of {H : Type} {P : Program} {ts : List TypeId} {ds : List (DataW H)} (h : (DataW.weightsEach P ts ds).all (· ≤ reachBytes) = true) {j : Nat} {t : TypeId} {d : DataW H} (ht : ts[j]? = some t) (hd : ds[j]? = some d) : Sized P t d := fun n hn => by
  simpa using List.all_eq_true.1 h n (DataW.weights_mem_each ht hd n hn)
end Go.Proofs.Ytilkjcobkdjlkaa.Sim
end
section
namespace Go.Proofs.Ytilkjcobkdjlkaa.Sim
open Go
set_option maxRecDepth 100000
set_option maxHeartbeats 4000000
set_option linter.unusedVariables false
set_option linter.unusedSimpArgs false
attribute [local irreducible] Go Mean
def listN (f : Nat → Int) (n : Nat) : List Int := (List.range n).map f
theorem listN_len {f : Nat → Int} {n : Nat} : (listN f n).length = n := by simp [listN]
theorem listN_next {f : Nat → Int} {n : Nat} : listN f (n + 1) = listN f n ++ [f n] := by unfold listN; rw [List.range_succ, List.map_append]; rfl
theorem fillN_full {f : Nat → Int} {n : Nat} : fillN f n n = listN f n := by
  unfold fillN listN
  apply List.map_congr_left
  intro i hi
  rw [if_pos (List.mem_range.1 hi)]
theorem r38recover (p : Int) (x : PHint) (ix : Int) (a : List Int) (hl : x.fac.length ≤ 1000000) (hs : x.sum.length ≤ 1000000) (ha : a.length ≤ 1000000) : Does Try.prog 59 [.ag [I p], vHint x, I ix, .d (dInts a)] [] (.tu [.d (dInts (recF p x ix a).1), I (recF p x ix a).2]) [] [] := by
  refine go_ref38_Recover rfl BxOK.nil fun cx hm0 => go_in 5000 ?_
  unfold ac_ref38_Recover rs_ref38_Recover
  have e1 := r38right p x a hl hs ha
  cases hb : inB p x a with
  | false =>
    rw [hb, if_neg (by simp)] at e1
    have hlk : lookH p x ix a = 9 := by rw [lookH, if_pos hb]
    rw [recF, hlk, if_pos (by decide)]
    repeat' (first | simp (maxSteps := 9999999) only [↓GE, PL, PP, EE, QQ, seval] | (simp (disch := omega) only [IntWalk.i64_in]) | (refine go_brD (fun h => ?_) (fun h => ?_)) | (refine go_gsD (by ((try simp only [EE, QQ, seval]) <;> rfl)) (fun h => ?_) (fun h => ?_)) | (refine go_br (fun h => ?_) (fun h => ?_)) | (refine go_gs (by ((try simp only [EE, QQ, seval]) <;> rfl)) (fun h => ?_) (fun h => ?_)) | (apply go_call 5000 (e1) rfl rfl; (· ((try simp only [CC, LL, NM, EE, QQ, seval]) <;> (first | rfl | ((repeat constructor); done)))); (· exact CallForm.plain rfl); (· ((try simp only [CC, LL, NM, EE, QQ, seval]) <;> (first | rfl | ((repeat constructor); done)))); (· ((try simp only [CC, LL, NM, EE, QQ, seval]) <;> (first | rfl | ((repeat constructor); done))))) | (with_reducible apply And.intro) | (with_reducible exact trivial) | omega | (simp only [List.length_map, List.length_cons, List.length_nil] at *; omega) | (show _ = true; first | rfl | kernel_rfl))
    all_goals ((first | apply ret_mk [] | apply end_mk []); (· ((try simp only [CC, LL, EE, QQ, seval]) <;> rfl)); (· ((try simp only [CC, LL, EE, QQ, seval]) <;> repeat' (first | (with_reducible apply And.intro) | rfl | trivial | (exact ⟨_, rfl⟩) | (exact ⟨_, _, _, rfl⟩) | (simp [*, ]; done) | (simp [*, ]; omega) | (simp_all []; done) | (simp_all []; omega)))); all_goals (first | trivial | decide | ((try simp only [CC, LL, EE, QQ, seval]) <;> repeat' (first | (with_reducible apply And.intro) | (exact ⟨_, rfl, rfl, rfl⟩) | (exact ⟨_, _, _, rfl⟩) | (exact ⟨_, rfl⟩) | trivial | rfl | (simp; done)))))
  | true =>
  rw [hb, if_pos rfl] at e1
  have hnb : ¬inB p x a = false := by rw [hb]; decide
  by_cases h1 : ix < 0
  · have q : decide (ix < 0) = true := decide_eq_true h1
    have hlk : lookH p x ix a = 1 := by rw [lookH, if_neg hnb, if_pos (.inl h1)]
    rw [recF, hlk, if_pos (by decide)]
    repeat' (first | simp (maxSteps := 9999999) only [↓GE, PL, PP, EE, QQ, seval, q] | (simp (disch := omega) only [IntWalk.i64_in]) | (refine go_brD (fun h => ?_) (fun h => ?_)) | (refine go_gsD (by ((try simp only [EE, QQ, seval]) <;> rfl)) (fun h => ?_) (fun h => ?_)) | (refine go_br (fun h => ?_) (fun h => ?_)) | (refine go_gs (by ((try simp only [EE, QQ, seval]) <;> rfl)) (fun h => ?_) (fun h => ?_)) | (apply go_call 5000 (e1) rfl rfl; (· ((try simp only [CC, LL, NM, EE, QQ, seval]) <;> (first | rfl | ((repeat constructor); done)))); (· exact CallForm.plain rfl); (· ((try simp only [CC, LL, NM, EE, QQ, seval]) <;> (first | rfl | ((repeat constructor); done)))); (· ((try simp only [CC, LL, NM, EE, QQ, seval]) <;> (first | rfl | ((repeat constructor); done))))) | (with_reducible apply And.intro) | (with_reducible exact trivial) | omega | (simp only [List.length_map, List.length_cons, List.length_nil] at *; omega) | (show _ = true; first | rfl | kernel_rfl))
    all_goals ((first | apply ret_mk [] | apply end_mk []); (· ((try simp only [CC, LL, EE, QQ, seval]) <;> rfl)); (· ((try simp only [CC, LL, EE, QQ, seval]) <;> repeat' (first | (with_reducible apply And.intro) | rfl | trivial | (exact ⟨_, rfl⟩) | (exact ⟨_, _, _, rfl⟩) | (simp [*, ]; done) | (simp [*, ]; omega) | (simp_all []; done) | (simp_all []; omega)))); all_goals (first | trivial | decide | ((try simp only [CC, LL, EE, QQ, seval]) <;> repeat' (first | (with_reducible apply And.intro) | (exact ⟨_, rfl, rfl, rfl⟩) | (exact ⟨_, _, _, rfl⟩) | (exact ⟨_, rfl⟩) | trivial | rfl | (simp; done)))))
  have q1 : decide (ix < 0) = false := decide_eq_false h1
  by_cases h2 : ix ≥ x.fac.length
  · have q2 : decide (ix ≥ (x.fac.length : Int)) = true := decide_eq_true h2
    have hlk : lookH p x ix a = 1 := by rw [lookH, if_neg hnb, if_pos (.inr h2)]
    rw [recF, hlk, if_pos (by decide)]
    repeat' (first | simp (maxSteps := 9999999) only [↓GE, PL, PP, EE, QQ, seval, q1, q2, List.length_map] | (simp (disch := omega) only [IntWalk.i64_in]) | (refine go_brD (fun h => ?_) (fun h => ?_)) | (refine go_gsD (by ((try simp only [EE, QQ, seval]) <;> rfl)) (fun h => ?_) (fun h => ?_)) | (refine go_br (fun h => ?_) (fun h => ?_)) | (refine go_gs (by ((try simp only [EE, QQ, seval]) <;> rfl)) (fun h => ?_) (fun h => ?_)) | (apply go_call 5000 (e1) rfl rfl; (· ((try simp only [CC, LL, NM, EE, QQ, seval]) <;> (first | rfl | ((repeat constructor); done)))); (· exact CallForm.plain rfl); (· ((try simp only [CC, LL, NM, EE, QQ, seval]) <;> (first | rfl | ((repeat constructor); done)))); (· ((try simp only [CC, LL, NM, EE, QQ, seval]) <;> (first | rfl | ((repeat constructor); done))))) | (with_reducible apply And.intro) | (with_reducible exact trivial) | omega | (simp only [List.length_map, List.length_cons, List.length_nil] at *; omega) | (show _ = true; first | rfl | kernel_rfl))
    all_goals ((first | apply ret_mk [] | apply end_mk []); (· ((try simp only [CC, LL, EE, QQ, seval]) <;> rfl)); (· ((try simp only [CC, LL, EE, QQ, seval]) <;> repeat' (first | (with_reducible apply And.intro) | rfl | trivial | (exact ⟨_, rfl⟩) | (exact ⟨_, _, _, rfl⟩) | (simp [*, ]; done) | (simp [*, ]; omega) | (simp_all []; done) | (simp_all []; omega)))); all_goals (first | trivial | decide | ((try simp only [CC, LL, EE, QQ, seval]) <;> repeat' (first | (with_reducible apply And.intro) | (exact ⟨_, rfl, rfl, rfl⟩) | (exact ⟨_, _, _, rfl⟩) | (exact ⟨_, rfl⟩) | trivial | rfl | (simp; done)))))
  have q2 : decide (ix ≥ (x.fac.length : Int)) = false := decide_eq_false h2
  have hlk : lookH p x ix a = 0 := by rw [lookH, if_neg hnb, if_neg (by omega)]
  have h6 : ix.toNat < x.fac.length := by omega
  rw [recF, hlk, if_neg (by decide)]
  by_cases hn : a.length ≠ x.sum.length
  · rw [if_pos hn]
    have q : ((a.length : Int) != (x.sum.length : Int)) = true := by simp; omega
    repeat' (first | simp (maxSteps := 9999999) only [↓GE, PL, PP, EE, QQ, seval, q, q1, q2, List.length_map] | (simp (disch := omega) only [IntWalk.i64_in]) | (refine go_brD (fun h => ?_) (fun h => ?_)) | (refine go_gsD (by ((try simp only [EE, QQ, seval]) <;> rfl)) (fun h => ?_) (fun h => ?_)) | (refine go_br (fun h => ?_) (fun h => ?_)) | (refine go_gs (by ((try simp only [EE, QQ, seval]) <;> rfl)) (fun h => ?_) (fun h => ?_)) | (apply go_call 5000 (e1) rfl rfl; (· ((try simp only [CC, LL, NM, EE, QQ, seval]) <;> (first | rfl | ((repeat constructor); done)))); (· exact CallForm.plain rfl); (· ((try simp only [CC, LL, NM, EE, QQ, seval]) <;> (first | rfl | ((repeat constructor); done)))); (· ((try simp only [CC, LL, NM, EE, QQ, seval]) <;> (first | rfl | ((repeat constructor); done))))) | (with_reducible apply And.intro) | (with_reducible exact trivial) | omega | (simp only [List.length_map, List.length_cons, List.length_nil] at *; omega) | (show _ = true; first | rfl | kernel_rfl))
    all_goals ((first | apply ret_mk [] | apply end_mk []); (· ((try simp only [CC, LL, EE, QQ, seval]) <;> rfl)); (· ((try simp only [CC, LL, EE, QQ, seval]) <;> repeat' (first | (with_reducible apply And.intro) | rfl | trivial | (exact ⟨_, rfl⟩) | (exact ⟨_, _, _, rfl⟩) | (simp [*, ]; done) | (simp [*, ]; omega) | (simp_all []; done) | (simp_all []; omega)))); all_goals (first | trivial | decide | ((try simp only [CC, LL, EE, QQ, seval]) <;> repeat' (first | (with_reducible apply And.intro) | (exact ⟨_, rfl, rfl, rfl⟩) | (exact ⟨_, _, _, rfl⟩) | (exact ⟨_, rfl⟩) | trivial | rfl | (simp; done)))))
  rw [if_neg hn]
  have hn' : a.length = x.sum.length := by omega
  have q : ((a.length : Int) != (x.sum.length : Int)) = false := by simp; omega
  simp only [inB, Bool.and_eq_true] at hb
  obtain ⟨⟨⟨f1, f2⟩, f3⟩, f4⟩ := hb
  have hsx := getD_map eI [] 0 x.fac ix.toNat h6
  have hx := all_getD f2 h6
  generalize x.fac.getD ix.toNat 0 = c at *
  have e2 := r3inverse p c f1 hx
  obtain ⟨hp2, hp3, -⟩ := fieldB_iff.1 f1
  by_cases hc : c = 0
  · rw [if_pos hc]
    rw [invF, if_pos hc] at e2
    simp only at e2
    repeat' (first | simp (maxSteps := 9999999) only [↓GE, PL, PP, EE, QQ, seval, q, q1, q2, hsx, h6, eI, List.length_map] | (simp (disch := omega) only [IntWalk.i64_in]) | (refine go_brD (fun h => ?_) (fun h => ?_)) | (refine go_gsD (by ((try simp only [EE, QQ, seval]) <;> rfl)) (fun h => ?_) (fun h => ?_)) | (refine go_br (fun h => ?_) (fun h => ?_)) | (refine go_gs (by ((try simp only [EE, QQ, seval]) <;> rfl)) (fun h => ?_) (fun h => ?_)) | (apply go_call 5000 (e1) rfl rfl; (· ((try simp only [CC, LL, NM, EE, QQ, seval]) <;> (first | rfl | ((repeat constructor); done)))); (· exact CallForm.plain rfl); (· ((try simp only [CC, LL, NM, EE, QQ, seval]) <;> (first | rfl | ((repeat constructor); done)))); (· ((try simp only [CC, LL, NM, EE, QQ, seval]) <;> (first | rfl | ((repeat constructor); done))))) | (apply go_call 5000 (e2) rfl rfl; (· ((try simp only [CC, LL, NM, EE, QQ, seval]) <;> (first | rfl | ((repeat constructor); done)))); (· exact CallForm.plain rfl); (· ((try simp only [CC, LL, NM, EE, QQ, seval]) <;> (first | rfl | ((repeat constructor); done)))); (· ((try simp only [CC, LL, NM, EE, QQ, seval]) <;> (first | rfl | ((repeat constructor); done))))) | (with_reducible apply And.intro) | (with_reducible exact trivial) | omega | (simp only [List.length_map, List.length_cons, List.length_nil] at *; omega) | (show _ = true; first | rfl | kernel_rfl))
    all_goals ((first | apply ret_mk [] | apply end_mk []); (· ((try simp only [CC, LL, EE, QQ, seval]) <;> rfl)); (· ((try simp only [CC, LL, EE, QQ, seval]) <;> repeat' (first | (with_reducible apply And.intro) | rfl | trivial | (exact ⟨_, rfl⟩) | (exact ⟨_, _, _, rfl⟩) | (simp [*, ]; done) | (simp [*, ]; omega) | (simp_all []; done) | (simp_all []; omega)))); all_goals (first | trivial | decide | ((try simp only [CC, LL, EE, QQ, seval]) <;> repeat' (first | (with_reducible apply And.intro) | (exact ⟨_, rfl, rfl, rfl⟩) | (exact ⟨_, _, _, rfl⟩) | (exact ⟨_, rfl⟩) | trivial | rfl | (simp; done)))))
  rw [if_neg hc]
  rw [invF, if_neg hc] at e2
  simp only at e2
  have hinv := invI_in (p := p) (a := c) hp2
  generalize invI p c = v at *
  repeat' (first | simp (maxSteps := 9999999) only [↓GE, PL, PP, EE, QQ, seval, q, q1, q2, hsx, h6, eI, List.length_map] | (simp (disch := omega) only [IntWalk.i64_in]) | (refine go_brD (fun h => ?_) (fun h => ?_)) | (refine go_gsD (by ((try simp only [EE, QQ, seval]) <;> rfl)) (fun h => ?_) (fun h => ?_)) | (refine go_br (fun h => ?_) (fun h => ?_)) | (refine go_gs (by ((try simp only [EE, QQ, seval]) <;> rfl)) (fun h => ?_) (fun h => ?_)) | (apply go_call 5000 (e1) rfl rfl; (· ((try simp only [CC, LL, NM, EE, QQ, seval]) <;> (first | rfl | ((repeat constructor); done)))); (· exact CallForm.plain rfl); (· ((try simp only [CC, LL, NM, EE, QQ, seval]) <;> (first | rfl | ((repeat constructor); done)))); (· ((try simp only [CC, LL, NM, EE, QQ, seval]) <;> (first | rfl | ((repeat constructor); done))))) | (apply go_call 5000 (e2) rfl rfl; (· ((try simp only [CC, LL, NM, EE, QQ, seval]) <;> (first | rfl | ((repeat constructor); done)))); (· exact CallForm.plain rfl); (· ((try simp only [CC, LL, NM, EE, QQ, seval]) <;> (first | rfl | ((repeat constructor); done)))); (· ((try simp only [CC, LL, NM, EE, QQ, seval]) <;> (first | rfl | ((repeat constructor); done))))) | (with_reducible apply And.intro) | (with_reducible exact trivial) | omega | (simp only [List.length_map, List.length_cons, List.length_nil] at *; omega) | (show _ = true; first | rfl | kernel_rfl))
  refine go_loop 5000 hm0 (ι := {q : Nat × Nat // q.1 ≤ a.length}) (fun i => [(3, .d (dInts a)), (4, .bp 4 0 0), (5, .bp 5 0 0), (11, I v), (13, .og 78 i.1.2), (14, I i.1.1)]) (fun i => [(4, .box 0 [I p]), (5, .box 0 [I x.ver, .d (dInts x.fac), .d (dInts x.sum)]), (78, .arr i.1.2 1 true ((listN (recE p x.sum a v) i.1.1).map eI))]) (fun i => a.length - i.1.1) [78] ⟨(0, 0), Nat.zero_le _⟩ ?_ ?_
  · (simp only [GeS]; refine ⟨?_, ?_, ?_, ?_⟩; all_goals (repeat' (first | trivial | (with_reducible rfl) | simp only [CC, LL, EE, QQ, seval] | (with_reducible apply And.intro) | rfl | (refine ⟨_, rfl, ?_⟩) | (simp [listN]; done) | omega)))
  · rintro ⟨⟨k, w⟩, hk⟩
    simp only at hk
    by_cases hkl : k < a.length
    · have hks : k < x.sum.length := by omega
      have hs1 := getD_map eI [] 0 x.sum k hks
      have hs2 := getD_map eI [] 0 a k hkl
      have b1 := all_getD f3 hks
      have b2 := all_getD f4 hkl
      have hN := listN_next (f := recE p x.sum a v) (n := k)
      have hN1 : recE p x.sum a v k = (x.sum.getD k 0 - a.getD k 0 + p) % p * v % p := rfl
      rw [hN1] at hN
      generalize x.sum.getD k 0 = s at hs1 b1 hN
      generalize a.getD k 0 = y at hs2 b2 hN
      have w1 : IntKind.i64.wrap (s - y) = s - y := IntWalk.i64_in _ (by omega)
      have w2 : IntKind.i64.wrap (s - y + p) = s - y + p := IntWalk.i64_in _ (by omega)
      have em : (s - y + p).tmod p = (s - y + p) % p := Int.tmod_eq_emod_of_nonneg (by omega)
      have hm := mul_in (p := p) (a := (s - y + p) % p) (b := v) (by omega) hp3 ⟨Int.emod_nonneg _ (by omega), Int.emod_lt_of_pos _ (by omega)⟩ hinv
      have w3 : IntKind.i64.wrap ((s - y + p) % p * v) = (s - y + p) % p * v := IntWalk.i64_in _ (by omega)
      have em2 : ((s - y + p) % p * v).tmod p = (s - y + p) % p * v % p := Int.tmod_eq_emod_of_nonneg hm.1
      repeat' (first | simp (maxSteps := 9999999) only [↓GE, PL, PP, EE, QQ, seval, hs1, hs2, hkl, hks, w1, w2, em, w3, em2, eI, listN_len, List.length_map] | (simp (disch := omega) only [IntWalk.i64_in]) | (refine go_brD (fun h => ?_) (fun h => ?_)) | (refine go_gsD (by ((try simp only [EE, QQ, seval]) <;> rfl)) (fun h => ?_) (fun h => ?_)) | (refine go_br (fun h => ?_) (fun h => ?_)) | (refine go_gs (by ((try simp only [EE, QQ, seval]) <;> rfl)) (fun h => ?_) (fun h => ?_)) | (with_reducible apply And.intro) | (with_reducible exact trivial) | omega | (simp only [List.length_map, List.length_cons, List.length_nil] at *; omega) | (show _ = true; first | rfl | kernel_rfl))
      refine ⟨⟨(k + 1, w + 1), hkl⟩, ?_, by simp only; omega⟩
      (simp only [GeS]; refine ⟨?_, ?_, ?_, ?_⟩; all_goals (repeat' (first | trivial | (with_reducible rfl) | simp only [CC, LL, EE, QQ, seval] | (with_reducible apply And.intro) | rfl | (refine ⟨_, rfl, ?_⟩) | (simp [hN, eI]; done) | omega)))
    · obtain rfl : k = a.length := by omega
      have hf : recL p x.sum a v = listN (recE p x.sum a v) a.length := by rw [recL, fillN_full, hn']
      rw [hf]
      repeat' (first | simp (maxSteps := 9999999) only [↓GE, PL, PP, EE, QQ, seval, List.length_map] | (simp (disch := omega) only [IntWalk.i64_in]) | (refine go_brD (fun h => ?_) (fun h => ?_)) | (refine go_gsD (by ((try simp only [EE, QQ, seval]) <;> rfl)) (fun h => ?_) (fun h => ?_)) | (refine go_br (fun h => ?_) (fun h => ?_)) | (refine go_gs (by ((try simp only [EE, QQ, seval]) <;> rfl)) (fun h => ?_) (fun h => ?_)) | (with_reducible apply And.intro) | (with_reducible exact trivial) | omega | (simp only [List.length_map, List.length_cons, List.length_nil] at *; omega) | (show _ = true; first | rfl | kernel_rfl))
      all_goals ((first | apply ret_mk [] | apply end_mk []); (· ((try simp only [CC, LL, EE, QQ, seval]) <;> rfl)); (· ((try simp only [CC, LL, EE, QQ, seval]) <;> repeat' (first | (with_reducible apply And.intro) | rfl | trivial | (exact ⟨_, rfl⟩) | (exact ⟨_, _, _, rfl⟩) | (simp [*, ]; done) | (simp [*, ]; omega) | (simp_all []; done) | (simp_all []; omega)))); all_goals (first | trivial | decide | ((try simp only [CC, LL, EE, QQ, seval]) <;> repeat' (first | (with_reducible apply And.intro) | (exact ⟨_, rfl, rfl, rfl⟩) | (exact ⟨_, _, _, rfl⟩) | (exact ⟨_, rfl⟩) | trivial | rfl | (simp; done)))))
end Go.Proofs.Ytilkjcobkdjlkaa.Sim
end
section
namespace Go.Proofs.Ytilkjcobkdjlkaa.Sim
open Go
set_option maxRecDepth 100000
set_option maxHeartbeats 16000000
set_option linter.unusedVariables false
set_option linter.unusedSimpArgs false
attribute [local irreducible] Go Mean
theorem ok_of {α : Type} {P : α → Prop} (z : α) {l : List α} (h : ∀ x ∈ l, P x) {k : Nat} (hk : k < l.length) : P (l.getD k z) := h _ (mem_getD z l k hk)
def eChg (c : PChg) : List D := [.at (.int .i64 c.fr), .at (.int .i64 c.tt), .at (.int .i64 c.count), dSets c.sets]
def eH (h : PHint) : List D := [.at (.int .i64 h.ver), dInts h.fac, dInts h.sum]
abbrev bT (t : PTab) : List V := [I t.num, I t.p, I t.width, .d (dRows t.rows)]
abbrev bC (c : PChg) : List V := [I c.fr, I c.tt, I c.count, .d (dSets c.sets)]
abbrev bH (h : PHint) : List V := [I h.ver, .d (dInts h.fac), .d (dInts h.sum)]
def okC (c : PChg) : Prop := c.sets.length ≤ 1000000 ∧ ShortS c.sets
def okH (h : PHint) : Prop := h.fac.length ≤ 1000000 ∧ h.sum.length ≤ 1000000
theorem noHint_ok : okH noHint := ⟨by simp [noHint], by simp [noHint]⟩
theorem makeH_okH {t : PTab} {f : List Int} (h : TabF t) (hf : f.length ≤ 1000000) : okH (makeH t f).1 := by
  have hw := h.w2
  rcases makeH_cases t f with e | e | ⟨h1, h2, e⟩
  · rw [e]; exact noHint_ok
  · rw [e]; exact noHint_ok
  · rw [e]; exact ⟨hf, by simp only [combL_len]; omega⟩
theorem nextH_okH {t : PTab} {x : PHint} {c : PChg} (h : TabF t) : okH (nextH t x c).1 := by
  unfold nextH
  split
  · exact noHint_ok
  split
  · exact noHint_ok
  · rename_i h1 h2
    have hu := tabF (applyF_fine (by simpa using h1))
    exact makeH_okH hu (by rw [padF_len]; have := hu.len; omega)
theorem withF_len {p : Int} {x : PHint} {ix : Int} (h : okH x) : (withF p x ix).1.length ≤ 1000000 := by
  unfold withF
  split
  · simp
  · rw [List.length_set]; exact h.1
theorem recF_len {p : Int} {x : PHint} {ix : Int} {a : List Int} (h : okH x) : (recF p x ix a).1.length ≤ 1000000 := by
  unfold recF
  split
  · simp
  split
  · simp
  split
  · simp
  · simp only [recL, fillN_len]; exact h.2
theorem sameH_refl (x : PHint) : sameH x x = true := by simp [sameH]
theorem lawHSteps (s : List UInt8) (raw : PHint) (f : Int) (factors answer : List Int) (index : Int) (c : PChg) (hs : s.length ≤ 140737488355328) (hr1 : raw.fac.length ≤ 17592186044416) (hr2 : raw.sum.length ≤ 17592186044416) (hf1 : factors.length ≤ 17592186044416) (ha1 : answer.length ≤ 17592186044416) (hc1 : c.sets.length ≤ 17592186044416) (hc2 : ShortS c.sets) :
    Does Try.prog 11 [.d (dBytes s), vHint raw, .ag [I f], .d (dInts factors), .d (dInts answer), I index, vChg c] [] (B true) [] [] := by
  refine go_law38_HintSteps rfl BxOK.nil fun cx hm0 => go_in 9000 ?_
  unfold ac_law38_HintSteps rs_law38_HintSteps
  by_cases g1 : raw.fac.length > 8
  · have q1 : decide ((raw.fac.length : Int) > 8) = true := decide_eq_true (by omega)
    repeat' (first | simp (maxSteps := 9999999) only [↓GE, PL, PP, EE, QQ, seval, q1, List.length_map] | (simp (disch := omega) only [IntWalk.i64_in]) | (refine go_brD (fun h => ?_) (fun h => ?_)) | (refine go_gsD (by ((try simp only [EE, QQ, seval]) <;> rfl)) (fun h => ?_) (fun h => ?_)) | (refine go_br (fun h => ?_) (fun h => ?_)) | (refine go_gs (by ((try simp only [EE, QQ, seval]) <;> rfl)) (fun h => ?_) (fun h => ?_)) | (apply go_call 5000 (sane38) rfl rfl; (· ((try simp only [CC, LL, NM, EE, QQ, seval]) <;> (first | rfl | ((repeat constructor); done)))); (· exact CallForm.plain rfl); (· ((try simp only [CC, LL, NM, EE, QQ, seval]) <;> (first | rfl | ((repeat constructor); done)))); (· ((try simp only [CC, LL, NM, EE, QQ, seval]) <;> (first | rfl | ((repeat constructor); done))))) | (with_reducible apply And.intro) | (with_reducible exact trivial) | omega | (simp only [List.length_map, List.length_cons, List.length_nil] at *; omega) | (show _ = true; first | rfl | kernel_rfl))
    all_goals ((first | apply ret_mk [] | apply end_mk []); (· ((try simp only [CC, LL, EE, QQ, seval]) <;> rfl)); (· ((try simp only [CC, LL, EE, QQ, seval]) <;> repeat' (first | (with_reducible apply And.intro) | rfl | trivial | (exact ⟨_, rfl⟩) | (exact ⟨_, _, _, rfl⟩) | (simp [*, ]; done) | (simp [*, ]; omega) | (simp_all []; done) | (simp_all []; omega)))); all_goals (first | trivial | decide | ((try simp only [CC, LL, EE, QQ, seval]) <;> repeat' (first | (with_reducible apply And.intro) | (exact ⟨_, rfl, rfl, rfl⟩) | (exact ⟨_, _, _, rfl⟩) | (exact ⟨_, rfl⟩) | trivial | rfl | (simp; done)))))
  have q1 : decide ((raw.fac.length : Int) > 8) = false := decide_eq_false (by omega)
  by_cases g2 : raw.sum.length > 6
  · have q2 : decide ((raw.sum.length : Int) > 6) = true := decide_eq_true (by omega)
    repeat' (first | simp (maxSteps := 9999999) only [↓GE, PL, PP, EE, QQ, seval, q1, q2, List.length_map] | (simp (disch := omega) only [IntWalk.i64_in]) | (refine go_brD (fun h => ?_) (fun h => ?_)) | (refine go_gsD (by ((try simp only [EE, QQ, seval]) <;> rfl)) (fun h => ?_) (fun h => ?_)) | (refine go_br (fun h => ?_) (fun h => ?_)) | (refine go_gs (by ((try simp only [EE, QQ, seval]) <;> rfl)) (fun h => ?_) (fun h => ?_)) | (apply go_call 5000 (sane38) rfl rfl; (· ((try simp only [CC, LL, NM, EE, QQ, seval]) <;> (first | rfl | ((repeat constructor); done)))); (· exact CallForm.plain rfl); (· ((try simp only [CC, LL, NM, EE, QQ, seval]) <;> (first | rfl | ((repeat constructor); done)))); (· ((try simp only [CC, LL, NM, EE, QQ, seval]) <;> (first | rfl | ((repeat constructor); done))))) | (with_reducible apply And.intro) | (with_reducible exact trivial) | omega | (simp only [List.length_map, List.length_cons, List.length_nil] at *; omega) | (show _ = true; first | rfl | kernel_rfl))
    all_goals ((first | apply ret_mk [] | apply end_mk []); (· ((try simp only [CC, LL, EE, QQ, seval]) <;> rfl)); (· ((try simp only [CC, LL, EE, QQ, seval]) <;> repeat' (first | (with_reducible apply And.intro) | rfl | trivial | (exact ⟨_, rfl⟩) | (exact ⟨_, _, _, rfl⟩) | (simp [*, ]; done) | (simp [*, ]; omega) | (simp_all []; done) | (simp_all []; omega)))); all_goals (first | trivial | decide | ((try simp only [CC, LL, EE, QQ, seval]) <;> repeat' (first | (with_reducible apply And.intro) | (exact ⟨_, rfl, rfl, rfl⟩) | (exact ⟨_, _, _, rfl⟩) | (exact ⟨_, rfl⟩) | trivial | rfl | (simp; done)))))
  have q2 : decide ((raw.sum.length : Int) > 6) = false := decide_eq_false (by omega)
  by_cases g3 : factors.length > 8
  · have q3 : decide ((factors.length : Int) > 8) = true := decide_eq_true (by omega)
    repeat' (first | simp (maxSteps := 9999999) only [↓GE, PL, PP, EE, QQ, seval, q1, q2, q3, List.length_map] | (simp (disch := omega) only [IntWalk.i64_in]) | (refine go_brD (fun h => ?_) (fun h => ?_)) | (refine go_gsD (by ((try simp only [EE, QQ, seval]) <;> rfl)) (fun h => ?_) (fun h => ?_)) | (refine go_br (fun h => ?_) (fun h => ?_)) | (refine go_gs (by ((try simp only [EE, QQ, seval]) <;> rfl)) (fun h => ?_) (fun h => ?_)) | (apply go_call 5000 (sane38) rfl rfl; (· ((try simp only [CC, LL, NM, EE, QQ, seval]) <;> (first | rfl | ((repeat constructor); done)))); (· exact CallForm.plain rfl); (· ((try simp only [CC, LL, NM, EE, QQ, seval]) <;> (first | rfl | ((repeat constructor); done)))); (· ((try simp only [CC, LL, NM, EE, QQ, seval]) <;> (first | rfl | ((repeat constructor); done))))) | (with_reducible apply And.intro) | (with_reducible exact trivial) | omega | (simp only [List.length_map, List.length_cons, List.length_nil] at *; omega) | (show _ = true; first | rfl | kernel_rfl))
    all_goals ((first | apply ret_mk [] | apply end_mk []); (· ((try simp only [CC, LL, EE, QQ, seval]) <;> rfl)); (· ((try simp only [CC, LL, EE, QQ, seval]) <;> repeat' (first | (with_reducible apply And.intro) | rfl | trivial | (exact ⟨_, rfl⟩) | (exact ⟨_, _, _, rfl⟩) | (simp [*, ]; done) | (simp [*, ]; omega) | (simp_all []; done) | (simp_all []; omega)))); all_goals (first | trivial | decide | ((try simp only [CC, LL, EE, QQ, seval]) <;> repeat' (first | (with_reducible apply And.intro) | (exact ⟨_, rfl, rfl, rfl⟩) | (exact ⟨_, _, _, rfl⟩) | (exact ⟨_, rfl⟩) | trivial | rfl | (simp; done)))))
  have q3 : decide ((factors.length : Int) > 8) = false := decide_eq_false (by omega)
  by_cases g4 : answer.length > 6
  · have q4 : decide ((answer.length : Int) > 6) = true := decide_eq_true (by omega)
    repeat' (first | simp (maxSteps := 9999999) only [↓GE, PL, PP, EE, QQ, seval, q1, q2, q3, q4, List.length_map] | (simp (disch := omega) only [IntWalk.i64_in]) | (refine go_brD (fun h => ?_) (fun h => ?_)) | (refine go_gsD (by ((try simp only [EE, QQ, seval]) <;> rfl)) (fun h => ?_) (fun h => ?_)) | (refine go_br (fun h => ?_) (fun h => ?_)) | (refine go_gs (by ((try simp only [EE, QQ, seval]) <;> rfl)) (fun h => ?_) (fun h => ?_)) | (apply go_call 5000 (sane38) rfl rfl; (· ((try simp only [CC, LL, NM, EE, QQ, seval]) <;> (first | rfl | ((repeat constructor); done)))); (· exact CallForm.plain rfl); (· ((try simp only [CC, LL, NM, EE, QQ, seval]) <;> (first | rfl | ((repeat constructor); done)))); (· ((try simp only [CC, LL, NM, EE, QQ, seval]) <;> (first | rfl | ((repeat constructor); done))))) | (with_reducible apply And.intro) | (with_reducible exact trivial) | omega | (simp only [List.length_map, List.length_cons, List.length_nil] at *; omega) | (show _ = true; first | rfl | kernel_rfl))
    all_goals ((first | apply ret_mk [] | apply end_mk []); (· ((try simp only [CC, LL, EE, QQ, seval]) <;> rfl)); (· ((try simp only [CC, LL, EE, QQ, seval]) <;> repeat' (first | (with_reducible apply And.intro) | rfl | trivial | (exact ⟨_, rfl⟩) | (exact ⟨_, _, _, rfl⟩) | (simp [*, ]; done) | (simp [*, ]; omega) | (simp_all []; done) | (simp_all []; omega)))); all_goals (first | trivial | decide | ((try simp only [CC, LL, EE, QQ, seval]) <;> repeat' (first | (with_reducible apply And.intro) | (exact ⟨_, rfl, rfl, rfl⟩) | (exact ⟨_, _, _, rfl⟩) | (exact ⟨_, rfl⟩) | trivial | rfl | (simp; done)))))
  have q4 : decide ((answer.length : Int) > 6) = false := decide_eq_false (by omega)
  by_cases g5 : c.sets.length > 4
  · have q5 : decide ((c.sets.length : Int) > 4) = true := decide_eq_true (by omega)
    repeat' (first | simp (maxSteps := 9999999) only [↓GE, PL, PP, EE, QQ, seval, q1, q2, q3, q4, q5, List.length_map] | (simp (disch := omega) only [IntWalk.i64_in]) | (refine go_brD (fun h => ?_) (fun h => ?_)) | (refine go_gsD (by ((try simp only [EE, QQ, seval]) <;> rfl)) (fun h => ?_) (fun h => ?_)) | (refine go_br (fun h => ?_) (fun h => ?_)) | (refine go_gs (by ((try simp only [EE, QQ, seval]) <;> rfl)) (fun h => ?_) (fun h => ?_)) | (apply go_call 5000 (sane38) rfl rfl; (· ((try simp only [CC, LL, NM, EE, QQ, seval]) <;> (first | rfl | ((repeat constructor); done)))); (· exact CallForm.plain rfl); (· ((try simp only [CC, LL, NM, EE, QQ, seval]) <;> (first | rfl | ((repeat constructor); done)))); (· ((try simp only [CC, LL, NM, EE, QQ, seval]) <;> (first | rfl | ((repeat constructor); done))))) | (with_reducible apply And.intro) | (with_reducible exact trivial) | omega | (simp only [List.length_map, List.length_cons, List.length_nil] at *; omega) | (show _ = true; first | rfl | kernel_rfl))
    all_goals ((first | apply ret_mk [] | apply end_mk []); (· ((try simp only [CC, LL, EE, QQ, seval]) <;> rfl)); (· ((try simp only [CC, LL, EE, QQ, seval]) <;> repeat' (first | (with_reducible apply And.intro) | rfl | trivial | (exact ⟨_, rfl⟩) | (exact ⟨_, _, _, rfl⟩) | (simp [*, ]; done) | (simp [*, ]; omega) | (simp_all []; done) | (simp_all []; omega)))); all_goals (first | trivial | decide | ((try simp only [CC, LL, EE, QQ, seval]) <;> repeat' (first | (with_reducible apply And.intro) | (exact ⟨_, rfl, rfl, rfl⟩) | (exact ⟨_, _, _, rfl⟩) | (exact ⟨_, rfl⟩) | trivial | rfl | (simp; done)))))
  have q5 : decide ((c.sets.length : Int) > 4) = false := decide_eq_false (by omega)
  repeat' (first | simp (maxSteps := 9999999) only [↓GE, PL, PP, EE, QQ, seval, q1, q2, q3, q4, q5, List.length_map] | (simp (disch := omega) only [IntWalk.i64_in]) | (refine go_brD (fun h => ?_) (fun h => ?_)) | (refine go_gsD (by ((try simp only [EE, QQ, seval]) <;> rfl)) (fun h => ?_) (fun h => ?_)) | (refine go_br (fun h => ?_) (fun h => ?_)) | (refine go_gs (by ((try simp only [EE, QQ, seval]) <;> rfl)) (fun h => ?_) (fun h => ?_)) | (apply go_call 5000 (sane38) rfl rfl; (· ((try simp only [CC, LL, NM, EE, QQ, seval]) <;> (first | rfl | ((repeat constructor); done)))); (· exact CallForm.plain rfl); (· ((try simp only [CC, LL, NM, EE, QQ, seval]) <;> (first | rfl | ((repeat constructor); done)))); (· ((try simp only [CC, LL, NM, EE, QQ, seval]) <;> (first | rfl | ((repeat constructor); done))))) | (with_reducible apply And.intro) | (with_reducible exact trivial) | omega | (simp only [List.length_map, List.length_cons, List.length_nil] at *; omega) | (show _ = true; first | rfl | kernel_rfl))
  refine go_loop 9000 hm0 (ι := {k : Nat // k ≤ c.sets.length}) (fun i => [(0, .d (dBytes s)), (3, .d (dInts factors)), (4, .d (dInts answer)), (5, I index), (8, .bp 8 0 0), (9, .bp 9 0 0), (13, .bp 13 0 0), (80, .d (dSets c.sets)), (81, I c.sets.length), (82, I i.1)]) (fun i => [(8, .box 0 (bH raw)), (9, .box 0 [I f]), (13, .box 0 (bC c))]) (fun i => c.sets.length - i.1) [] ⟨0, Nat.zero_le _⟩ ?_ ?_
  · (simp only [GeS]; refine ⟨?_, ?_, ?_, ?_⟩; all_goals (repeat' (first | trivial | (with_reducible rfl) | simp only [CC, LL, EE, QQ, seval] | (with_reducible apply And.intro) | rfl | (refine ⟨_, rfl, ?_⟩) | (simp; done) | omega)))
  rintro ⟨k, hk0⟩
  simp only
  by_cases hkl : k < c.sets.length
  · have hs1 := getD_map eSet [] noSet c.sets k hkl
    generalize c.sets.getD k noSet = r at *
    by_cases g : r.row.length > 6
    · have q : decide ((r.row.length : Int) > 6) = true := decide_eq_true (by omega)
      repeat' (first | simp (maxSteps := 9999999) only [↓GE, PL, PP, EE, QQ, seval, hs1, hkl, q, eSet, List.length_map] | (simp (disch := omega) only [IntWalk.i64_in]) | (refine go_brD (fun h => ?_) (fun h => ?_)) | (refine go_gsD (by ((try simp only [EE, QQ, seval]) <;> rfl)) (fun h => ?_) (fun h => ?_)) | (refine go_br (fun h => ?_) (fun h => ?_)) | (refine go_gs (by ((try simp only [EE, QQ, seval]) <;> rfl)) (fun h => ?_) (fun h => ?_)) | (with_reducible apply And.intro) | (with_reducible exact trivial) | omega | (simp only [List.length_map, List.length_cons, List.length_nil] at *; omega) | (show _ = true; first | rfl | kernel_rfl))
      all_goals ((first | apply ret_mk [] | apply end_mk []); (· ((try simp only [CC, LL, EE, QQ, seval]) <;> rfl)); (· ((try simp only [CC, LL, EE, QQ, seval]) <;> repeat' (first | (with_reducible apply And.intro) | rfl | trivial | (exact ⟨_, rfl⟩) | (exact ⟨_, _, _, rfl⟩) | (simp [*, ]; done) | (simp [*, ]; omega) | (simp_all []; done) | (simp_all []; omega)))); all_goals (first | trivial | decide | ((try simp only [CC, LL, EE, QQ, seval]) <;> repeat' (first | (with_reducible apply And.intro) | (exact ⟨_, rfl, rfl, rfl⟩) | (exact ⟨_, _, _, rfl⟩) | (exact ⟨_, rfl⟩) | trivial | rfl | (simp; done)))))
    · have q : decide ((r.row.length : Int) > 6) = false := decide_eq_false (by omega)
      repeat' (first | simp (maxSteps := 9999999) only [↓GE, PL, PP, EE, QQ, seval, hs1, hkl, q, eSet, List.length_map] | (simp (disch := omega) only [IntWalk.i64_in]) | (refine go_brD (fun h => ?_) (fun h => ?_)) | (refine go_gsD (by ((try simp only [EE, QQ, seval]) <;> rfl)) (fun h => ?_) (fun h => ?_)) | (refine go_br (fun h => ?_) (fun h => ?_)) | (refine go_gs (by ((try simp only [EE, QQ, seval]) <;> rfl)) (fun h => ?_) (fun h => ?_)) | (with_reducible apply And.intro) | (with_reducible exact trivial) | omega | (simp only [List.length_map, List.length_cons, List.length_nil] at *; omega) | (show _ = true; first | rfl | kernel_rfl))
      refine ⟨⟨k + 1, hkl⟩, ?_, by simp only; omega⟩
      (simp only [GeS]; refine ⟨?_, ?_, ?_, ?_⟩; all_goals (repeat' (first | trivial | (with_reducible rfl) | simp only [CC, LL, EE, QQ, seval] | (with_reducible apply And.intro) | rfl | (refine ⟨_, rfl, ?_⟩) | (simp; done) | omega)))
  obtain rfl : k = c.sets.length := by omega
  clear hkl hk0
  have okr : okH raw := ⟨by omega, by omega⟩
  have okc : okC c := ⟨by omega, hc2⟩
  generalize hL : s.take 300 = l
  have hl : l.length ≤ 140737488355328 := by rw [← hL, List.length_take]; omega
  have e0 := dice s hs
  rw [hL] at e0
  obtain ⟨f1, f2, f3⟩ := fldV_ok l 0
  have d1 := (dfield l hl 0).nm1 94000 0 (by omega) rfl rfl rfl rfl rfl
  generalize fldV l 0 = p at *
  generalize pickK l 0 = k1 at *
  have d2 := (dtable l hl k1 p (by omega)).nm1 94000 0 (by omega) rfl rfl rfl rfl rfl
  have okt := tabG_ok l p k1 f1 f2 f3
  have hp : (tabG l p k1).1.p = p := rfl
  generalize (tabG l p k1).2 = k2 at *
  generalize (tabG l p k1).1 = t at *
  have ht := tabF (okt.check (by omega))
  have hlen := ht.len
  have hlen5 := okt.len
  have hnum2 := okt.num2
  have hnum1 := ht.num
  have hw1 := okt.w1
  have hw3 := okt.w2
  have d3 := (delements l hl k2 t.p (by omega) t.rows.length (by omega)).nm1 94000 0 (by omega) rfl rfl rfl rfl rfl
  have la := elmG_len (l := l) (p := t.p) (k := k2) (n := t.rows.length)
  have aa := elmG_all (l := l) (p := t.p) (k := k2) (n := t.rows.length) (by omega)
  generalize (elmG l t.p k2 t.rows.length).2 = k3 at *
  generalize (elmG l t.p k2 t.rows.length).1 = own at *
  have m1 := r38make t own ht (by omega)
  rw [makeH_ok la aa] at m1
  have lsm := combL_len (p := t.p) (w := t.width.toNat) (c := own) (rows := t.rows)
  have asm := combN_all (p := t.p) (w := t.width.toNat) (c := own) (rows := t.rows) (by omega) (n := t.rows.length)
  rw [show combN t.p t.width.toNat own t.rows t.rows.length = combL t.p t.width.toNat own t.rows from rfl] at asm
  generalize combL t.p t.width.toNat own t.rows = sm at *
  have d4 := (pick l hl k3 2 (by omega)).nm1 94000 0 (by omega) rfl rfl rfl rfl rfl
  have a4 := pickV_in l k3 2 (by omega)
  generalize pickV l k3 2 = x1 at *
  generalize pickK l k3 = k4 at *
  have d5 := (pick l hl k4 sm.length (by omega)).nm1 94000 0 (by omega) rfl rfl rfl rfl rfl
  have a5 := pickV_in l k4 sm.length (by omega)
  obtain ⟨j, hj⟩ : ∃ j : Nat, pickV l k4 sm.length = (j : Int) := ⟨(pickV l k4 sm.length).toNat, by omega⟩
  rw [hj] at d5 a5
  generalize pickK l k4 = k5 at *
  have d6 := (pick l hl k5 2 (by omega)).nm1 94000 0 (by omega) rfl rfl rfl rfl rfl
  have a6 := pickV_in l k5 2 (by omega)
  generalize pickV l k5 2 = x2 at *
  generalize pickK l k5 = k6 at *
  have hjl : j < sm.length := by omega
  have hsj := getD_map eI [] 0 sm j hjl
  have bsj := all_getD asm hjl
  have hset : (sm.map eI).set j [.at (.int .i64 (sm.getD j 0 + x2))] = (sm.set j (sm.getD j 0 + x2)).map eI := by rw [List.map_set]; rfl
  have lbad : (sm.set j (sm.getD j 0 + x2)).length = sm.length := List.length_set
  have w1 : IntKind.i64.wrap (t.num + x1) = t.num + x1 := IntWalk.i64_in _ (by omega)
  have w2 : IntKind.i64.wrap (sm.getD j 0 + x2) = sm.getD j 0 + x2 := IntWalk.i64_in _ (by omega)
  generalize sm.set j (sm.getD j 0 + x2) = sb at *
  generalize sm.getD j 0 = sj at *
  subst hp
  repeat' (first | simp (maxSteps := 9999999) only [↓GE, PL, PP, EE, QQ, seval, w1, w2, hsj, hjl, hset, eI, List.length_map, List.nil_append] | (simp (disch := omega) only [IntWalk.i64_in]) | (refine go_brD (fun h => ?_) (fun h => ?_)) | (refine go_gsD (by ((try simp only [EE, QQ, seval]) <;> rfl)) (fun h => ?_) (fun h => ?_)) | (refine go_br (fun h => ?_) (fun h => ?_)) | (refine go_gs (by ((try simp only [EE, QQ, seval]) <;> rfl)) (fun h => ?_) (fun h => ?_)) | (apply go_call 5000 (e0) rfl rfl; (· ((try simp only [CC, LL, NM, EE, QQ, seval]) <;> (first | rfl | ((repeat constructor); done)))); (· exact CallForm.news rfl rfl); (· ((try simp only [CC, LL, NM, EE, QQ, seval]) <;> (first | rfl | ((repeat constructor); done)))); (· ((try simp only [CC, LL, NM, EE, QQ, seval]) <;> (first | rfl | ((repeat constructor); done))))) | (apply go_call 5000 (d1) rfl rfl; (· ((try simp only [CC, LL, NM, EE, QQ, seval]) <;> (first | rfl | ((repeat constructor); done)))); (· exact CallForm.lent (by (try simp only [CC, LL, NM, EE, QQ, seval]); repeat' (first | trivial | (with_reducible rfl) | omega | (with_reducible apply And.intro) | rfl)) rfl rfl); (· ((try simp only [CC, LL, NM, EE, QQ, seval]) <;> (first | rfl | ((repeat constructor); done)))); (· ((try simp only [CC, LL, NM, EE, QQ, seval]) <;> (first | rfl | ((repeat constructor); done))))) | (apply go_call 5000 (d2) rfl rfl; (· ((try simp only [CC, LL, NM, EE, QQ, seval]) <;> (first | rfl | ((repeat constructor); done)))); (· exact CallForm.lent (by (try simp only [CC, LL, NM, EE, QQ, seval]); repeat' (first | trivial | (with_reducible rfl) | omega | (with_reducible apply And.intro) | rfl)) rfl rfl); (· ((try simp only [CC, LL, NM, EE, QQ, seval]) <;> (first | rfl | ((repeat constructor); done)))); (· ((try simp only [CC, LL, NM, EE, QQ, seval]) <;> (first | rfl | ((repeat constructor); done))))) | (apply go_call 5000 (d3) rfl rfl; (· ((try simp only [CC, LL, NM, EE, QQ, seval]) <;> (first | rfl | ((repeat constructor); done)))); (· exact CallForm.lent (by (try simp only [CC, LL, NM, EE, QQ, seval]); repeat' (first | trivial | (with_reducible rfl) | omega | (with_reducible apply And.intro) | rfl)) rfl rfl); (· ((try simp only [CC, LL, NM, EE, QQ, seval]) <;> (first | rfl | ((repeat constructor); done)))); (· ((try simp only [CC, LL, NM, EE, QQ, seval]) <;> (first | rfl | ((repeat constructor); done))))) | (apply go_call 5000 (m1) rfl rfl; (· ((try simp only [CC, LL, NM, EE, QQ, seval]) <;> (first | rfl | ((repeat constructor); done)))); (· exact CallForm.plain rfl); (· ((try simp only [CC, LL, NM, EE, QQ, seval]) <;> (first | rfl | ((repeat constructor); done)))); (· ((try simp only [CC, LL, NM, EE, QQ, seval]) <;> (first | rfl | ((repeat constructor); done))))) | (apply go_call 5000 (d4) rfl rfl; (· ((try simp only [CC, LL, NM, EE, QQ, seval]) <;> (first | rfl | ((repeat constructor); done)))); (· exact CallForm.lent (by (try simp only [CC, LL, NM, EE, QQ, seval]); repeat' (first | trivial | (with_reducible rfl) | omega | (with_reducible apply And.intro) | rfl)) rfl rfl); (· ((try simp only [CC, LL, NM, EE, QQ, seval]) <;> (first | rfl | ((repeat constructor); done)))); (· ((try simp only [CC, LL, NM, EE, QQ, seval]) <;> (first | rfl | ((repeat constructor); done))))) | (apply go_call 5000 (d5) rfl rfl; (· ((try simp only [CC, LL, NM, EE, QQ, seval]) <;> (first | rfl | ((repeat constructor); done)))); (· exact CallForm.lent (by (try simp only [CC, LL, NM, EE, QQ, seval]); repeat' (first | trivial | (with_reducible rfl) | omega | (with_reducible apply And.intro) | rfl)) rfl rfl); (· ((try simp only [CC, LL, NM, EE, QQ, seval]) <;> (first | rfl | ((repeat constructor); done)))); (· ((try simp only [CC, LL, NM, EE, QQ, seval]) <;> (first | rfl | ((repeat constructor); done))))) | (apply go_call 5000 (d6) rfl rfl; (· ((try simp only [CC, LL, NM, EE, QQ, seval]) <;> (first | rfl | ((repeat constructor); done)))); (· exact CallForm.lent (by (try simp only [CC, LL, NM, EE, QQ, seval]); repeat' (first | trivial | (with_reducible rfl) | omega | (with_reducible apply And.intro) | rfl)) rfl rfl); (· ((try simp only [CC, LL, NM, EE, QQ, seval]) <;> (first | rfl | ((repeat constructor); done)))); (· ((try simp only [CC, LL, NM, EE, QQ, seval]) <;> (first | rfl | ((repeat constructor); done))))) | (with_reducible apply And.intro) | (with_reducible exact trivial) | omega | (simp only [List.length_map, List.length_cons, List.length_nil] at *; omega) | (show _ = true; first | rfl | kernel_rfl))
  have okKS : ∀ x ∈ [factors, own, own ++ [1]], x.length ≤ 1000000 := by
    intro x hx
    simp only [List.mem_cons, List.not_mem_nil, or_false] at hx
    rcases hx with rfl | rfl | rfl
    · omega
    · omega
    · simp; omega
  generalize hKS : [factors, own, own ++ [1]] = KS at okKS
  have lK : KS.length = 3 := by rw [← hKS]; rfl
  obtain ⟨hin, hh⟩ : ∃ h : PHint, h = ⟨t.num, own, sm⟩ := ⟨_, rfl⟩
  obtain ⟨bad, hbad⟩ : ∃ h : PHint, h = ⟨t.num + x1, own, sb⟩ := ⟨_, rfl⟩
  have okh : okH hin := by rw [hh]; exact ⟨by simp only; omega, by simp only; omega⟩
  have okb : okH bad := by rw [hbad]; exact ⟨by simp only; omega, by simp only; omega⟩
  refine go_loopz 9000 hm0 (ι := {k : Nat // k ≤ 3}) (fun i => [(4, .d (dInts answer)), (5, I index), (8, .bp 8 0 0), (9, .bp 9 0 0), (13, .bp 13 0 0), (17, .bp 94000 0 0), (18, .bp 18 0 0), (20, .bp 20 0 0), (22, .bp 22 0 0), (142, .d (.sl 1 (KS.map eR))), (143, I 3), (144, I i.1)]) (fun i => [(8, .box 0 (bH raw)), (9, .box 0 [I f]), (13, .box 0 (bC c)), (18, .box 0 (bT t)), (20, .box 0 (bH hin)), (22, .box 0 (bH bad)), (94000, .box 0 [.d (dBytes l), I k6])]) (fun i => 3 - i.1) [.og 142 0, .og 111 1] [] ⟨0, by omega⟩ ?_ ?_
  · simp only [GeZ]; (simp only [GeS]; refine ⟨?_, ?_, ?_, ?_⟩; all_goals (repeat' (first | trivial | (with_reducible rfl) | simp only [CC, LL, EE, QQ, seval] | (with_reducible apply And.intro) | rfl | (refine ⟨_, rfl, ?_⟩) | (simp [← hKS, hh, hbad, eR, eI, List.map_append]; done) | omega)))
  rintro ⟨k, hk0⟩
  simp only
  by_cases hk3 : k < 3
  · have hs1 := getD_map eR [] [] KS k (by omega)
    have okx := ok_of [] okKS (k := k) (by omega)
    generalize KS.getD k [] = x at hs1 okx
    have y1 := hmake t x ht okx
    have y2 := r38make t x ht okx
    have oku := makeH_okH ht okx
    have y3 := r38same (makeH t x).1 (makeH t x).1 oku.1 oku.2 oku.1 oku.2
    rw [sameH_refl] at y3
    generalize makeH t x = u at *
    have b2 : (u.2 != u.2) = false := by simp
    repeat' (first | simp (maxSteps := 9999999) only [↓GE, PL, PP, EE, QQ, seval, lK, hs1, b2, eR, List.length_map] | (simp (disch := omega) only [IntWalk.i64_in]) | (refine go_brD (fun h => ?_) (fun h => ?_)) | (refine go_gsD (by ((try simp only [EE, QQ, seval]) <;> rfl)) (fun h => ?_) (fun h => ?_)) | (refine go_br (fun h => ?_) (fun h => ?_)) | (refine go_gs (by ((try simp only [EE, QQ, seval]) <;> rfl)) (fun h => ?_) (fun h => ?_)) | (apply go_call 5000 (y1) rfl rfl; (· ((try simp only [CC, LL, NM, EE, QQ, seval]) <;> (first | rfl | ((repeat constructor); done)))); (· exact CallForm.plain rfl); (· ((try simp only [CC, LL, NM, EE, QQ, seval]) <;> (first | rfl | ((repeat constructor); done)))); (· ((try simp only [CC, LL, NM, EE, QQ, seval]) <;> (first | rfl | ((repeat constructor); done))))) | (apply go_call 5000 (y2) rfl rfl; (· ((try simp only [CC, LL, NM, EE, QQ, seval]) <;> (first | rfl | ((repeat constructor); done)))); (· exact CallForm.plain rfl); (· ((try simp only [CC, LL, NM, EE, QQ, seval]) <;> (first | rfl | ((repeat constructor); done)))); (· ((try simp only [CC, LL, NM, EE, QQ, seval]) <;> (first | rfl | ((repeat constructor); done))))) | (apply go_call 5000 (y3) rfl rfl; (· ((try simp only [CC, LL, NM, EE, QQ, seval]) <;> (first | rfl | ((repeat constructor); done)))); (· exact CallForm.plain rfl); (· ((try simp only [CC, LL, NM, EE, QQ, seval]) <;> (first | rfl | ((repeat constructor); done)))); (· ((try simp only [CC, LL, NM, EE, QQ, seval]) <;> (first | rfl | ((repeat constructor); done))))) | (with_reducible apply And.intro) | (with_reducible exact trivial) | omega | (simp only [List.length_map, List.length_cons, List.length_nil] at *; omega) | (show _ = true; first | rfl | kernel_rfl))
    refine ⟨[], [], ⟨k + 1, by omega⟩, ?_, by simp only; omega⟩
    simp only [GeZ]; (simp only [GeS]; refine ⟨?_, ?_, ?_, ?_⟩; all_goals (repeat' (first | trivial | (with_reducible rfl) | simp only [CC, LL, EE, QQ, seval] | (with_reducible apply And.intro) | rfl | (refine ⟨_, rfl, ?_⟩) | (simp; done) | omega)))
  obtain rfl : k = 3 := by omega
  clear hk3 hk0
  repeat' (first | simp (maxSteps := 9999999) only [↓GE, PL, PP, EE, QQ, seval, lK, List.length_map, List.set_cons_zero, List.set_cons_succ, List.replicate] | (simp (disch := omega) only [IntWalk.i64_in]) | (refine go_brD (fun h => ?_) (fun h => ?_)) | (refine go_gsD (by ((try simp only [EE, QQ, seval]) <;> rfl)) (fun h => ?_) (fun h => ?_)) | (refine go_br (fun h => ?_) (fun h => ?_)) | (refine go_gs (by ((try simp only [EE, QQ, seval]) <;> rfl)) (fun h => ?_) (fun h => ?_)) | (with_reducible apply And.intro) | (with_reducible exact trivial) | omega | (simp only [List.length_map, List.length_cons, List.length_nil] at *; omega) | (show _ = true; first | rfl | kernel_rfl))
  have okXS : ∀ x ∈ [hin, bad, raw], okH x := by simp [okh, okb, okr]
  generalize hXS : [hin, bad, raw] = XS at okXS
  have lX : XS.length = 3 := by rw [← hXS]; rfl
  refine go_loopz 9000 hm0 (ι := {q : Nat × Nat // q.1 ≤ 3}) (fun i => [(4, .d (dInts answer)), (5, I index), (9, .bp 9 0 0), (13, .bp 13 0 0), (17, .bp 94000 0 0), (18, .bp 18 0 0), (20, .bp 20 0 0), (173, .d (.sl 3 (XS.map eH))), (174, I 3), (175, I i.1.1)]) (fun i => [(9, .box 0 [I f]), (13, .box 0 (bC c)), (18, .box 0 (bT t)), (20, .box 0 (bH hin)), (94000, .box 0 [.d (dBytes l), I i.1.2])]) (fun i => 3 - i.1.1) [.og 173 0] [] ⟨(0, k6), by omega⟩ ?_ ?_
  · simp only [GeZ]; (simp only [GeS]; refine ⟨?_, ?_, ?_, ?_⟩; all_goals (repeat' (first | trivial | (with_reducible rfl) | simp only [CC, LL, EE, QQ, seval] | (with_reducible apply And.intro) | rfl | (refine ⟨_, rfl, ?_⟩) | (simp [← hXS, eH]; done) | omega)))
  rintro ⟨⟨k, kd⟩, hk0⟩
  simp only at hk0 ⊢
  by_cases hk3 : k < 3
  · have hs1 := getD_map eH [] noHint XS k (by omega)
    have okx := ok_of noHint okXS (k := k) (by omega)
    generalize XS.getD k noHint = x at hs1 okx
    have y1 := hcheck t x ht okx.1 okx.2
    have y2 := r38check t x ht okx.1 okx.2
    have y3 := hsame x hin okx.1 okx.2 okh.1 okh.2
    have y4 := r38same x hin okx.1 okx.2 okh.1 okh.2
    have y5 := (dchange l hl kd t okt (by omega)).nm1 94000 0 (by omega) rfl rfl rfl rfl rfl
    obtain ⟨-, -, cl1, cl2⟩ := chgG_leads l okt (by omega) kd
    generalize checkH t x = ck at *
    generalize sameH x hin = sb2 at *
    generalize (chgG l t kd).2 = kd1 at *
    generalize (chgG l t kd).1 = C at *
    have bb1 : (ck != ck) = false := by simp
    have bb2 : (sb2 != sb2) = false := by cases sb2 <;> rfl
    repeat' (first | simp (maxSteps := 9999999) only [↓GE, PL, PP, EE, QQ, seval, lX, hs1, bb1, bb2, eH, List.length_map, List.set_cons_zero, List.set_cons_succ, List.replicate] | (simp (disch := omega) only [IntWalk.i64_in]) | (refine go_brD (fun h => ?_) (fun h => ?_)) | (refine go_gsD (by ((try simp only [EE, QQ, seval]) <;> rfl)) (fun h => ?_) (fun h => ?_)) | (refine go_br (fun h => ?_) (fun h => ?_)) | (refine go_gs (by ((try simp only [EE, QQ, seval]) <;> rfl)) (fun h => ?_) (fun h => ?_)) | (apply go_call 5000 (y1) rfl rfl; (· ((try simp only [CC, LL, NM, EE, QQ, seval]) <;> (first | rfl | ((repeat constructor); done)))); (· exact CallForm.plain rfl); (· ((try simp only [CC, LL, NM, EE, QQ, seval]) <;> (first | rfl | ((repeat constructor); done)))); (· ((try simp only [CC, LL, NM, EE, QQ, seval]) <;> (first | rfl | ((repeat constructor); done))))) | (apply go_call 5000 (y2) rfl rfl; (· ((try simp only [CC, LL, NM, EE, QQ, seval]) <;> (first | rfl | ((repeat constructor); done)))); (· exact CallForm.plain rfl); (· ((try simp only [CC, LL, NM, EE, QQ, seval]) <;> (first | rfl | ((repeat constructor); done)))); (· ((try simp only [CC, LL, NM, EE, QQ, seval]) <;> (first | rfl | ((repeat constructor); done))))) | (apply go_call 5000 (y3) rfl rfl; (· ((try simp only [CC, LL, NM, EE, QQ, seval]) <;> (first | rfl | ((repeat constructor); done)))); (· exact CallForm.plain rfl); (· ((try simp only [CC, LL, NM, EE, QQ, seval]) <;> (first | rfl | ((repeat constructor); done)))); (· ((try simp only [CC, LL, NM, EE, QQ, seval]) <;> (first | rfl | ((repeat constructor); done))))) | (apply go_call 5000 (y4) rfl rfl; (· ((try simp only [CC, LL, NM, EE, QQ, seval]) <;> (first | rfl | ((repeat constructor); done)))); (· exact CallForm.plain rfl); (· ((try simp only [CC, LL, NM, EE, QQ, seval]) <;> (first | rfl | ((repeat constructor); done)))); (· ((try simp only [CC, LL, NM, EE, QQ, seval]) <;> (first | rfl | ((repeat constructor); done))))) | (apply go_call 5000 (y5) rfl rfl; (· ((try simp only [CC, LL, NM, EE, QQ, seval]) <;> (first | rfl | ((repeat constructor); done)))); (· exact CallForm.lent (by (try simp only [CC, LL, NM, EE, QQ, seval]); repeat' (first | trivial | (with_reducible rfl) | omega | (with_reducible apply And.intro) | rfl)) rfl rfl); (· ((try simp only [CC, LL, NM, EE, QQ, seval]) <;> (first | rfl | ((repeat constructor); done)))); (· ((try simp only [CC, LL, NM, EE, QQ, seval]) <;> (first | rfl | ((repeat constructor); done))))) | (with_reducible apply And.intro) | (with_reducible exact trivial) | omega | (simp only [List.length_map, List.length_cons, List.length_nil] at *; omega) | (show _ = true; first | rfl | kernel_rfl))
    have okCS : ∀ y ∈ [c, C], okC y := by
      intro y hy
      simp only [List.mem_cons, List.not_mem_nil, or_false] at hy
      rcases hy with rfl | rfl
      · exact okc
      · exact ⟨by omega, cl2⟩
    generalize hCS : [c, C] = CS at okCS
    have lC : CS.length = 2 := by rw [← hCS]; rfl
    refine go_loopz 9000 hm0 (ι := {k : Nat // k ≤ 2}) (fun i => [(4, .d (dInts answer)), (5, I index), (9, .bp 9 0 0), (13, .bp 13 0 0), (17, .bp 94000 0 0), (18, .bp 18 0 0), (20, .bp 20 0 0), (30, .bp 30 0 0), (173, .d (.sl 3 (XS.map eH))), (174, I 3), (175, I k), (199, .d (.sl 4 (CS.map eChg))), (200, I 2), (201, I i.1)]) (fun i => [(9, .box 0 [I f]), (13, .box 0 (bC c)), (18, .box 0 (bT t)), (20, .box 0 (bH hin)), (30, .box 0 (bH x)), (94000, .box 0 [.d (dBytes l), I kd1])]) (fun i => 2 - i.1) [.og 199 0] [] ⟨0, by omega⟩ ?_ ?_
    · simp only [GeZ]; (simp only [GeS]; refine ⟨?_, ?_, ?_, ?_⟩; all_goals (repeat' (first | trivial | (with_reducible rfl) | simp only [CC, LL, EE, QQ, seval] | (with_reducible apply And.intro) | rfl | (refine ⟨_, rfl, ?_⟩) | (simp [← hCS, eChg]; done) | omega)))
    rintro ⟨j2, hj0⟩
    simp only
    by_cases hj2 : j2 < 2
    · have hs2 := getD_map eChg [] noChg CS j2 (by omega)
      have oky := ok_of noChg okCS (k := j2) (by omega)
      generalize CS.getD j2 noChg = y at hs2 oky
      have z1 := happly t x y ht okx.1 okx.2 oky.1 oky.2
      have z2 := r38apply t x y ht okx.1 okx.2 oky.1 oky.2
      have oku := nextH_okH (x := x) (c := y) ht
      have z3 := r38same (nextH t x y).1 (nextH t x y).1 oku.1 oku.2 oku.1 oku.2
      rw [sameH_refl] at z3
      generalize nextH t x y = u at *
      have b2 : (u.2 != u.2) = false := by simp
      repeat' (first | simp (maxSteps := 9999999) only [↓GE, PL, PP, EE, QQ, seval, lC, hs2, b2, eChg, List.length_map] | (simp (disch := omega) only [IntWalk.i64_in]) | (refine go_brD (fun h => ?_) (fun h => ?_)) | (refine go_gsD (by ((try simp only [EE, QQ, seval]) <;> rfl)) (fun h => ?_) (fun h => ?_)) | (refine go_br (fun h => ?_) (fun h => ?_)) | (refine go_gs (by ((try simp only [EE, QQ, seval]) <;> rfl)) (fun h => ?_) (fun h => ?_)) | (apply go_call 5000 (z1) rfl rfl; (· ((try simp only [CC, LL, NM, EE, QQ, seval]) <;> (first | rfl | ((repeat constructor); done)))); (· exact CallForm.plain rfl); (· ((try simp only [CC, LL, NM, EE, QQ, seval]) <;> (first | rfl | ((repeat constructor); done)))); (· ((try simp only [CC, LL, NM, EE, QQ, seval]) <;> (first | rfl | ((repeat constructor); done))))) | (apply go_call 5000 (z2) rfl rfl; (· ((try simp only [CC, LL, NM, EE, QQ, seval]) <;> (first | rfl | ((repeat constructor); done)))); (· exact CallForm.plain rfl); (· ((try simp only [CC, LL, NM, EE, QQ, seval]) <;> (first | rfl | ((repeat constructor); done)))); (· ((try simp only [CC, LL, NM, EE, QQ, seval]) <;> (first | rfl | ((repeat constructor); done))))) | (apply go_call 5000 (z3) rfl rfl; (· ((try simp only [CC, LL, NM, EE, QQ, seval]) <;> (first | rfl | ((repeat constructor); done)))); (· exact CallForm.plain rfl); (· ((try simp only [CC, LL, NM, EE, QQ, seval]) <;> (first | rfl | ((repeat constructor); done)))); (· ((try simp only [CC, LL, NM, EE, QQ, seval]) <;> (first | rfl | ((repeat constructor); done))))) | (with_reducible apply And.intro) | (with_reducible exact trivial) | omega | (simp only [List.length_map, List.length_cons, List.length_nil] at *; omega) | (show _ = true; first | rfl | kernel_rfl))
      refine ⟨[], [], ⟨j2 + 1, by omega⟩, ?_, by simp only; omega⟩
      simp only [GeZ]; (simp only [GeS]; refine ⟨?_, ?_, ?_, ?_⟩; all_goals (repeat' (first | trivial | (with_reducible rfl) | simp only [CC, LL, EE, QQ, seval] | (with_reducible apply And.intro) | rfl | (refine ⟨_, rfl, ?_⟩) | (simp; done) | omega)))
    obtain rfl : j2 = 2 := by omega
    clear hj2 hj0
    have z0 := (pick l hl kd1 6 (by omega)).nm1 94000 0 (by omega) rfl rfl rfl rfl rfl
    generalize pickV l kd1 6 = x6 at *
    generalize pickK l kd1 = kd2 at *
    repeat' (first | simp (maxSteps := 9999999) only [↓GE, PL, PP, EE, QQ, seval, lC, List.length_map, List.set_cons_zero, List.set_cons_succ, List.replicate] | (simp (disch := omega) only [IntWalk.i64_in]) | (refine go_brD (fun h => ?_) (fun h => ?_)) | (refine go_gsD (by ((try simp only [EE, QQ, seval]) <;> rfl)) (fun h => ?_) (fun h => ?_)) | (refine go_br (fun h => ?_) (fun h => ?_)) | (refine go_gs (by ((try simp only [EE, QQ, seval]) <;> rfl)) (fun h => ?_) (fun h => ?_)) | (apply go_call 5000 (z0) rfl rfl; (· ((try simp only [CC, LL, NM, EE, QQ, seval]) <;> (first | rfl | ((repeat constructor); done)))); (· exact CallForm.lent (by (try simp only [CC, LL, NM, EE, QQ, seval]); repeat' (first | trivial | (with_reducible rfl) | omega | (with_reducible apply And.intro) | rfl)) rfl rfl); (· ((try simp only [CC, LL, NM, EE, QQ, seval]) <;> (first | rfl | ((repeat constructor); done)))); (· ((try simp only [CC, LL, NM, EE, QQ, seval]) <;> (first | rfl | ((repeat constructor); done))))) | (with_reducible apply And.intro) | (with_reducible exact trivial) | omega | (simp only [List.length_map, List.length_cons, List.length_nil] at *; omega) | (show _ = true; first | rfl | kernel_rfl))
    generalize hIS : [index, 0, x6] = IS
    have lI : IS.length = 3 := by rw [← hIS]; rfl
    refine go_loopz 9000 hm0 (ι := {q : Nat × Nat // q.1 ≤ 3}) (fun i => [(4, .d (dInts answer)), (5, I index), (9, .bp 9 0 0), (13, .bp 13 0 0), (17, .bp 94000 0 0), (18, .bp 18 0 0), (20, .bp 20 0 0), (30, .bp 30 0 0), (173, .d (.sl 3 (XS.map eH))), (174, I 3), (175, I k), (232, .d (dInts IS)), (233, I 3), (234, I i.1.1)]) (fun i => [(9, .box 0 [I f]), (13, .box 0 (bC c)), (18, .box 0 (bT t)), (20, .box 0 (bH hin)), (30, .box 0 (bH x)), (94000, .box 0 [.d (dBytes l), I i.1.2])]) (fun i => 3 - i.1.1) [.og 232 0] [] ⟨(0, kd2), by omega⟩ ?_ ?_
    · simp only [GeZ]; (simp only [GeS]; refine ⟨?_, ?_, ?_, ?_⟩; all_goals (repeat' (first | trivial | (with_reducible rfl) | simp only [CC, LL, EE, QQ, seval] | (with_reducible apply And.intro) | rfl | (refine ⟨_, rfl, ?_⟩) | (simp [← hIS, eI]; done) | omega)))
    rintro ⟨⟨j3, ke⟩, hj0⟩
    simp only at hj0 ⊢
    by_cases hj3 : j3 < 3
    · have hs2 := getD_map eI [] 0 IS j3 (by omega)
      generalize IS.getD j3 0 = ix at hs2
      repeat' (first | simp (maxSteps := 9999999) only [↓GE, PL, PP, EE, QQ, seval, lI, hs2, eI, List.length_map, List.set_cons_zero, List.set_cons_succ, List.replicate] | (simp (disch := omega) only [IntWalk.i64_in]) | (refine go_brD (fun h => ?_) (fun h => ?_)) | (refine go_gsD (by ((try simp only [EE, QQ, seval]) <;> rfl)) (fun h => ?_) (fun h => ?_)) | (refine go_br (fun h => ?_) (fun h => ?_)) | (refine go_gs (by ((try simp only [EE, QQ, seval]) <;> rfl)) (fun h => ?_) (fun h => ?_)) | (with_reducible apply And.intro) | (with_reducible exact trivial) | omega | (simp only [List.length_map, List.length_cons, List.length_nil] at *; omega) | (show _ = true; first | rfl | kernel_rfl))
      generalize hZS : [t.p, f] = ZS
      have lZ : ZS.length = 2 := by rw [← hZS]; rfl
      refine go_loopz 9000 hm0 (ι := {q : Nat × Nat // q.1 ≤ 2}) (fun i => [(4, .d (dInts answer)), (5, I index), (9, .bp 9 0 0), (13, .bp 13 0 0), (17, .bp 94000 0 0), (18, .bp 18 0 0), (20, .bp 20 0 0), (30, .bp 30 0 0), (38, I ix), (173, .d (.sl 3 (XS.map eH))), (174, I 3), (175, I k), (232, .d (dInts IS)), (233, I 3), (234, I j3), (241, .d (dInts ZS)), (242, I 2), (243, I i.1.1)]) (fun i => [(9, .box 0 [I f]), (13, .box 0 (bC c)), (18, .box 0 (bT t)), (20, .box 0 (bH hin)), (30, .box 0 (bH x)), (94000, .box 0 [.d (dBytes l), I i.1.2])]) (fun i => 2 - i.1.1) [.og 241 0] [] ⟨(0, ke), by omega⟩ ?_ ?_
      · simp only [GeZ]; (simp only [GeS]; refine ⟨?_, ?_, ?_, ?_⟩; all_goals (repeat' (first | trivial | (with_reducible rfl) | simp only [CC, LL, EE, QQ, seval] | (with_reducible apply And.intro) | rfl | (refine ⟨_, rfl, ?_⟩) | (simp [← hZS, eI]; done) | omega)))
      rintro ⟨⟨j4, kf⟩, hj40⟩
      simp only at hj40 ⊢
      by_cases hj4 : j4 < 2
      · have hs3 := getD_map eI [] 0 ZS j4 (by omega)
        generalize ZS.getD j4 0 = z at hs3
        have z1 := hwithout z x ix okx.1 okx.2
        have z2 := r38without z x ix okx.1 okx.2
        have lw := withF_len (p := z) (ix := ix) okx
        have z3 := ints31 (withF z x ix).1 (withF z x ix).1 (by omega) (by omega)
        rw [decide_eq_true rfl] at z3
        generalize withF z x ix = u at *
        have b2 : (u.2 != u.2) = false := by simp
        have z4 := (delements l hl kf t.p (by omega) t.width.toNat (by omega)).nm1 94000 0 (by omega) rfl rfl rfl rfl rfl
        rw [show ((t.width.toNat : Nat) : Int) = t.width by omega] at z4
        have le := elmG_len (l := l) (p := t.p) (k := kf) (n := t.width.toNat)
        generalize (elmG l t.p kf t.width.toNat).2 = kg at *
        generalize (elmG l t.p kf t.width.toNat).1 = el at *
        repeat' (first | simp (maxSteps := 9999999) only [↓GE, PL, PP, EE, QQ, seval, lZ, hs3, b2, eI, List.length_map, List.set_cons_zero, List.set_cons_succ, List.replicate] | (simp (disch := omega) only [IntWalk.i64_in]) | (refine go_brD (fun h => ?_) (fun h => ?_)) | (refine go_gsD (by ((try simp only [EE, QQ, seval]) <;> rfl)) (fun h => ?_) (fun h => ?_)) | (refine go_br (fun h => ?_) (fun h => ?_)) | (refine go_gs (by ((try simp only [EE, QQ, seval]) <;> rfl)) (fun h => ?_) (fun h => ?_)) | (apply go_call 5000 (z1) rfl rfl; (· ((try simp only [CC, LL, NM, EE, QQ, seval]) <;> (first | rfl | ((repeat constructor); done)))); (· exact CallForm.plain rfl); (· ((try simp only [CC, LL, NM, EE, QQ, seval]) <;> (first | rfl | ((repeat constructor); done)))); (· ((try simp only [CC, LL, NM, EE, QQ, seval]) <;> (first | rfl | ((repeat constructor); done))))) | (apply go_call 5000 (z2) rfl rfl; (· ((try simp only [CC, LL, NM, EE, QQ, seval]) <;> (first | rfl | ((repeat constructor); done)))); (· exact CallForm.plain rfl); (· ((try simp only [CC, LL, NM, EE, QQ, seval]) <;> (first | rfl | ((repeat constructor); done)))); (· ((try simp only [CC, LL, NM, EE, QQ, seval]) <;> (first | rfl | ((repeat constructor); done))))) | (apply go_call 5000 (z3) rfl rfl; (· ((try simp only [CC, LL, NM, EE, QQ, seval]) <;> (first | rfl | ((repeat constructor); done)))); (· exact CallForm.plain rfl); (· ((try simp only [CC, LL, NM, EE, QQ, seval]) <;> (first | rfl | ((repeat constructor); done)))); (· ((try simp only [CC, LL, NM, EE, QQ, seval]) <;> (first | rfl | ((repeat constructor); done))))) | (apply go_call 5000 (z4) rfl rfl; (· ((try simp only [CC, LL, NM, EE, QQ, seval]) <;> (first | rfl | ((repeat constructor); done)))); (· exact CallForm.lent (by (try simp only [CC, LL, NM, EE, QQ, seval]); repeat' (first | trivial | (with_reducible rfl) | omega | (with_reducible apply And.intro) | rfl)) rfl rfl); (· ((try simp only [CC, LL, NM, EE, QQ, seval]) <;> (first | rfl | ((repeat constructor); done)))); (· ((try simp only [CC, LL, NM, EE, QQ, seval]) <;> (first | rfl | ((repeat constructor); done))))) | (with_reducible apply And.intro) | (with_reducible exact trivial) | omega | (simp only [List.length_map, List.length_cons, List.length_nil] at *; omega) | (show _ = true; first | rfl | kernel_rfl))
        have okWS : ∀ x ∈ [answer, el], x.length ≤ 1000000 := by
          intro x hx
          simp only [List.mem_cons, List.not_mem_nil, or_false] at hx
          rcases hx with rfl | rfl
          · omega
          · omega
        generalize hWS : [answer, el] = WS at okWS
        have lW : WS.length = 2 := by rw [← hWS]; rfl
        refine go_loopz 9000 hm0 (ι := {k : Nat // k ≤ 2}) (fun i => [(4, .d (dInts answer)), (5, I index), (9, .bp 9 0 0), (13, .bp 13 0 0), (17, .bp 94000 0 0), (18, .bp 18 0 0), (20, .bp 20 0 0), (30, .bp 30 0 0), (38, I ix), (40, .bp 40 0 0), (173, .d (.sl 3 (XS.map eH))), (174, I 3), (175, I k), (232, .d (dInts IS)), (233, I 3), (234, I j3), (241, .d (dInts ZS)), (242, I 2), (243, I j4), (277, .d (.sl 1 (WS.map eR))), (278, I 2), (279, I i.1)]) (fun i => [(9, .box 0 [I f]), (13, .box 0 (bC c)), (18, .box 0 (bT t)), (20, .box 0 (bH hin)), (30, .box 0 (bH x)), (40, .box 0 [I z]), (94000, .box 0 [.d (dBytes l), I kg])]) (fun i => 2 - i.1) [.og 277 0] [] ⟨0, by omega⟩ ?_ ?_
        · simp only [GeZ]; (simp only [GeS]; refine ⟨?_, ?_, ?_, ?_⟩; all_goals (repeat' (first | trivial | (with_reducible rfl) | simp only [CC, LL, EE, QQ, seval] | (with_reducible apply And.intro) | rfl | (refine ⟨_, rfl, ?_⟩) | (simp [← hWS, eR]; done) | omega)))
        rintro ⟨j5, hj50⟩
        simp only
        by_cases hj5 : j5 < 2
        · have hs4 := getD_map eR [] [] WS j5 (by omega)
          have okw := ok_of [] okWS (k := j5) (by omega)
          generalize WS.getD j5 [] = w at hs4 okw
          have v1 := hrecover z x ix w okx.1 okx.2 okw
          have v2 := r38recover z x ix w okx.1 okx.2 okw
          have lr := recF_len (p := z) (ix := ix) (a := w) okx
          have v3 := ints31 (recF z x ix w).1 (recF z x ix w).1 (by omega) (by omega)
          rw [decide_eq_true rfl] at v3
          generalize recF z x ix w = v at *
          have b3 : (v.2 != v.2) = false := by simp
          repeat' (first | simp (maxSteps := 9999999) only [↓GE, PL, PP, EE, QQ, seval, lW, hs4, b3, eR, List.length_map] | (simp (disch := omega) only [IntWalk.i64_in]) | (refine go_brD (fun h => ?_) (fun h => ?_)) | (refine go_gsD (by ((try simp only [EE, QQ, seval]) <;> rfl)) (fun h => ?_) (fun h => ?_)) | (refine go_br (fun h => ?_) (fun h => ?_)) | (refine go_gs (by ((try simp only [EE, QQ, seval]) <;> rfl)) (fun h => ?_) (fun h => ?_)) | (apply go_call 5000 (v1) rfl rfl; (· ((try simp only [CC, LL, NM, EE, QQ, seval]) <;> (first | rfl | ((repeat constructor); done)))); (· exact CallForm.plain rfl); (· ((try simp only [CC, LL, NM, EE, QQ, seval]) <;> (first | rfl | ((repeat constructor); done)))); (· ((try simp only [CC, LL, NM, EE, QQ, seval]) <;> (first | rfl | ((repeat constructor); done))))) | (apply go_call 5000 (v2) rfl rfl; (· ((try simp only [CC, LL, NM, EE, QQ, seval]) <;> (first | rfl | ((repeat constructor); done)))); (· exact CallForm.plain rfl); (· ((try simp only [CC, LL, NM, EE, QQ, seval]) <;> (first | rfl | ((repeat constructor); done)))); (· ((try simp only [CC, LL, NM, EE, QQ, seval]) <;> (first | rfl | ((repeat constructor); done))))) | (apply go_call 5000 (v3) rfl rfl; (· ((try simp only [CC, LL, NM, EE, QQ, seval]) <;> (first | rfl | ((repeat constructor); done)))); (· exact CallForm.plain rfl); (· ((try simp only [CC, LL, NM, EE, QQ, seval]) <;> (first | rfl | ((repeat constructor); done)))); (· ((try simp only [CC, LL, NM, EE, QQ, seval]) <;> (first | rfl | ((repeat constructor); done))))) | (with_reducible apply And.intro) | (with_reducible exact trivial) | omega | (simp only [List.length_map, List.length_cons, List.length_nil] at *; omega) | (show _ = true; first | rfl | kernel_rfl))
          refine ⟨[], [], ⟨j5 + 1, by omega⟩, ?_, by simp only; omega⟩
          simp only [GeZ]; (simp only [GeS]; refine ⟨?_, ?_, ?_, ?_⟩; all_goals (repeat' (first | trivial | (with_reducible rfl) | simp only [CC, LL, EE, QQ, seval] | (with_reducible apply And.intro) | rfl | (refine ⟨_, rfl, ?_⟩) | (simp; done) | omega)))
        obtain rfl : j5 = 2 := by omega
        repeat' (first | simp (maxSteps := 9999999) only [↓GE, PL, PP, EE, QQ, seval, lW, List.length_map] | (simp (disch := omega) only [IntWalk.i64_in]) | (refine go_brD (fun h => ?_) (fun h => ?_)) | (refine go_gsD (by ((try simp only [EE, QQ, seval]) <;> rfl)) (fun h => ?_) (fun h => ?_)) | (refine go_br (fun h => ?_) (fun h => ?_)) | (refine go_gs (by ((try simp only [EE, QQ, seval]) <;> rfl)) (fun h => ?_) (fun h => ?_)) | (with_reducible apply And.intro) | (with_reducible exact trivial) | omega | (simp only [List.length_map, List.length_cons, List.length_nil] at *; omega) | (show _ = true; first | rfl | kernel_rfl))
        refine ⟨[], [], ⟨(j4 + 1, kg), by simp only; omega⟩, ?_, by simp only; omega⟩
        simp only [GeZ]; (simp only [GeS]; refine ⟨?_, ?_, ?_, ?_⟩; all_goals (repeat' (first | trivial | (with_reducible rfl) | simp only [CC, LL, EE, QQ, seval] | (with_reducible apply And.intro) | rfl | (refine ⟨_, rfl, ?_⟩) | (simp; done) | omega)))
      obtain rfl : j4 = 2 := by omega
      repeat' (first | simp (maxSteps := 9999999) only [↓GE, PL, PP, EE, QQ, seval, lZ, List.length_map] | (simp (disch := omega) only [IntWalk.i64_in]) | (refine go_brD (fun h => ?_) (fun h => ?_)) | (refine go_gsD (by ((try simp only [EE, QQ, seval]) <;> rfl)) (fun h => ?_) (fun h => ?_)) | (refine go_br (fun h => ?_) (fun h => ?_)) | (refine go_gs (by ((try simp only [EE, QQ, seval]) <;> rfl)) (fun h => ?_) (fun h => ?_)) | (with_reducible apply And.intro) | (with_reducible exact trivial) | omega | (simp only [List.length_map, List.length_cons, List.length_nil] at *; omega) | (show _ = true; first | rfl | kernel_rfl))
      refine ⟨[], [], ⟨(j3 + 1, kf), by simp only; omega⟩, ?_, by simp only; omega⟩
      simp only [GeZ]; (simp only [GeS]; refine ⟨?_, ?_, ?_, ?_⟩; all_goals (repeat' (first | trivial | (with_reducible rfl) | simp only [CC, LL, EE, QQ, seval] | (with_reducible apply And.intro) | rfl | (refine ⟨_, rfl, ?_⟩) | (simp; done) | omega)))
    obtain rfl : j3 = 3 := by omega
    repeat' (first | simp (maxSteps := 9999999) only [↓GE, PL, PP, EE, QQ, seval, lI, List.length_map] | (simp (disch := omega) only [IntWalk.i64_in]) | (refine go_brD (fun h => ?_) (fun h => ?_)) | (refine go_gsD (by ((try simp only [EE, QQ, seval]) <;> rfl)) (fun h => ?_) (fun h => ?_)) | (refine go_br (fun h => ?_) (fun h => ?_)) | (refine go_gs (by ((try simp only [EE, QQ, seval]) <;> rfl)) (fun h => ?_) (fun h => ?_)) | (with_reducible apply And.intro) | (with_reducible exact trivial) | omega | (simp only [List.length_map, List.length_cons, List.length_nil] at *; omega) | (show _ = true; first | rfl | kernel_rfl))
    refine ⟨[], [], ⟨(k + 1, ke), by simp only; omega⟩, ?_, by simp only; omega⟩
    simp only [GeZ]; (simp only [GeS]; refine ⟨?_, ?_, ?_, ?_⟩; all_goals (repeat' (first | trivial | (with_reducible rfl) | simp only [CC, LL, EE, QQ, seval] | (with_reducible apply And.intro) | rfl | (refine ⟨_, rfl, ?_⟩) | (simp; done) | omega)))
  obtain rfl : k = 3 := by omega
  repeat' (first | simp (maxSteps := 9999999) only [↓GE, PL, PP, EE, QQ, seval, lX, List.length_map] | (simp (disch := omega) only [IntWalk.i64_in]) | (refine go_brD (fun h => ?_) (fun h => ?_)) | (refine go_gsD (by ((try simp only [EE, QQ, seval]) <;> rfl)) (fun h => ?_) (fun h => ?_)) | (refine go_br (fun h => ?_) (fun h => ?_)) | (refine go_gs (by ((try simp only [EE, QQ, seval]) <;> rfl)) (fun h => ?_) (fun h => ?_)) | (with_reducible apply And.intro) | (with_reducible exact trivial) | omega | (simp only [List.length_map, List.length_cons, List.length_nil] at *; omega) | (show _ = true; first | rfl | kernel_rfl))
  all_goals ((first | apply ret_mk [] | apply end_mk []); (· ((try simp only [CC, LL, EE, QQ, seval]) <;> rfl)); (· ((try simp only [CC, LL, EE, QQ, seval]) <;> repeat' (first | (with_reducible apply And.intro) | rfl | trivial | (exact ⟨_, rfl⟩) | (exact ⟨_, _, _, rfl⟩) | (simp [*, ]; done) | (simp [*, ]; omega) | (simp_all []; done) | (simp_all []; omega)))); all_goals (first | trivial | decide | ((try simp only [CC, LL, EE, QQ, seval]) <;> repeat' (first | (with_reducible apply And.intro) | (exact ⟨_, rfl, rfl, rfl⟩) | (exact ⟨_, _, _, rfl⟩) | (exact ⟨_, rfl⟩) | trivial | rfl | (simp; done)))))
end Go.Proofs.Ytilkjcobkdjlkaa.Sim
end
section
namespace Go.Proofs.Ytilkjcobkdjlkaa.Sim
open Go Go.RowKit Go.ChangeShapes Go.WideShapes
set_option linter.unusedVariables false
set_option linter.unusedSimpArgs false
set_option maxRecDepth 100000
theorem cells_one {w : World} {S : Nat → Prop} {d : D} {v : Value} (h : Cells w S [d] [v]) : d.is w S v := by
  simp only [Cells] at h
  obtain ⟨x, r, e, h1, _⟩ := h
  cases e
  exact h1
theorem bytes_tInt : Try.prog.bytesOf 3 = 8 := by kernel_rfl
theorem bytes_tInts : Try.prog.bytesOf 33 = 24 := by kernel_rfl
theorem bytes_tSet : Try.prog.bytesOf 77 = 32 := by kernel_rfl
def ok_ints (l : List Int) : Prop := l.length ≤ 17592186044416
def ok_rows (l : List (List Int)) : Prop := l.length ≤ 17592186044416 ∧ Short l
def ok_set (s : PSet) : Prop := s.row.length ≤ 17592186044416
def ok_sets (l : List PSet) : Prop := l.length ≤ 17592186044416 ∧ ShortS l
def ok_hint (h : PHint) : Prop := h.fac.length ≤ 17592186044416 ∧ h.sum.length ≤ 17592186044416
def ok_field (x : Int) : Prop := True
def ok_change (c : PChg) : Prop := c.sets.length ≤ 17592186044416 ∧ ShortS c.sets
def ok_bytes (l : List UInt8) : Prop := l.length ≤ 140737488355328
theorem bytes_tU8 : Try.prog.bytesOf 5 = 1 := by kernel_rfl
theorem opens_bytes : OpensD Try.prog 22 (fun l : List UInt8 => [dBytes l]) ok_bytes :=
  (OpensD.slice (f := eB) Try.underlying22 (by kernel_rfl) (by decide) (fun _ => rfl) (OpensD.u8 Try.underlying5)).mono fun l h => by
    have := h.1
    simp only [bytes_tU8, reachBytes] at this
    show l.length ≤ 140737488355328
    omega
theorem opens_ints : OpensD Try.prog 33 (fun l : List Int => [dInts l]) ok_ints :=
  (OpensD.slice (f := eI) Try.underlying33 (by kernel_rfl) (by decide) (fun _ => rfl) (OpensD.int Try.underlying3)).mono fun l h => by
    have := h.1
    simp only [bytes_tInt, reachBytes] at this
    show l.length ≤ 17592186044416
    omega
theorem opens_field : OpensD Try.prog 27 (fun x : Int => [D.at (.int .i64 x)]) ok_field := by
  intro H enc w base spare held fuel cs x h
  obtain ⟨n, xs, hl, hxl, hx, hf⟩ := Opens.parts Try.underlying27 h
  have hl' : cs.length = 1 := hl.trans (by kernel_rfl)
  have hxl' : xs.length = 1 := hxl
  have e_tInt : Try.prog.cellsOf 3 = 1 := by kernel_rfl
  obtain ⟨a0, c0, k0⟩ := part_ok Try.underlying27 hx hf (j := 0) rfl (by omega) (OpensD.int Try.underlying3)
  match cs, hl', c0 with
  | [u0], _, c0 =>
    simp only [List.getElem_toArray, List.getElem_cons_zero, List.getElem_cons_succ, e_tInt, List.drop_zero, List.take_succ_cons, List.take_zero] at c0
    exact ⟨a0, c0, fun _ => trivial⟩
theorem opens_set : OpensD Try.prog 77 eSet ok_set := by
  intro H enc w base spare held fuel cs x h
  obtain ⟨n, xs, hl, hxl, hx, hf⟩ := Opens.parts Try.underlying77 h
  have hl' : cs.length = 2 := hl.trans (by kernel_rfl)
  have hxl' : xs.length = 2 := hxl
  have e_tInt : Try.prog.cellsOf 3 = 1 := by kernel_rfl
  have e_tInts : Try.prog.cellsOf 33 = 1 := by kernel_rfl
  obtain ⟨a0, c0, k0⟩ := part_ok Try.underlying77 hx hf (j := 0) rfl (by omega) (OpensD.int Try.underlying3)
  obtain ⟨a1, c1, k1⟩ := part_ok Try.underlying77 hx hf (j := 1) rfl (by omega) (opens_ints)
  match cs, hl', c0, c1 with
  | [u0, u1], _, c0, c1 =>
    simp only [List.getElem_toArray, List.getElem_cons_zero, List.getElem_cons_succ, e_tInt, e_tInts, List.drop_succ_cons, List.drop_zero, List.take_succ_cons, List.take_zero] at c0 c1
    refine ⟨⟨a0, a1⟩, cells_append c0 (c1), fun hs => ?_⟩
    have k0 := k0 hs
    have k1 := k1 hs
    exact k1
theorem opens_sets : OpensD Try.prog 53 (fun l : List PSet => [dSets l]) ok_sets :=
  (OpensD.slice (f := eSet) Try.underlying53 (by kernel_rfl) (by decide) (fun _ => rfl) opens_set).mono fun l h => by
    have := h.1
    simp only [bytes_tSet, reachBytes] at this
    exact ⟨by omega, h.2⟩
theorem opens_change : OpensD Try.prog 55 eChg ok_change := by
  intro H enc w base spare held fuel cs x h
  obtain ⟨n, xs, hl, hxl, hx, hf⟩ := Opens.parts Try.underlying55 h
  have hl' : cs.length = 4 := hl.trans (by kernel_rfl)
  have hxl' : xs.length = 4 := hxl
  have e_tInt : Try.prog.cellsOf 3 = 1 := by kernel_rfl
  have e_tSets : Try.prog.cellsOf 53 = 1 := by kernel_rfl
  obtain ⟨a0, c0, k0⟩ := part_ok Try.underlying55 hx hf (j := 0) rfl (by omega) (OpensD.int Try.underlying3)
  obtain ⟨a1, c1, k1⟩ := part_ok Try.underlying55 hx hf (j := 1) rfl (by omega) (OpensD.int Try.underlying3)
  obtain ⟨a2, c2, k2⟩ := part_ok Try.underlying55 hx hf (j := 2) rfl (by omega) (OpensD.int Try.underlying3)
  obtain ⟨a3, c3, k3⟩ := part_ok Try.underlying55 hx hf (j := 3) rfl (by omega) (opens_sets)
  match cs, hl', c0, c1, c2, c3 with
  | [u0, u1, u2, u3], _, c0, c1, c2, c3 =>
    simp only [List.getElem_toArray, List.getElem_cons_zero, List.getElem_cons_succ, e_tInt, e_tSets, List.drop_succ_cons, List.drop_zero, List.take_succ_cons, List.take_zero] at c0 c1 c2 c3
    refine ⟨⟨a0, a1, a2, a3⟩, cells_append c0 (cells_append c1 (cells_append c2 (c3))), fun hs => ?_⟩
    have k0 := k0 hs
    have k1 := k1 hs
    have k2 := k2 hs
    have k3 := k3 hs
    exact k3
theorem opens_hint : OpensD Try.prog 36 eH ok_hint := by
  intro H enc w base spare held fuel cs x h
  obtain ⟨n, xs, hl, hxl, hx, hf⟩ := Opens.parts Try.underlying36 h
  have hl' : cs.length = 3 := hl.trans (by kernel_rfl)
  have hxl' : xs.length = 3 := hxl
  have e_tInt : Try.prog.cellsOf 3 = 1 := by kernel_rfl
  have e_tInts : Try.prog.cellsOf 33 = 1 := by kernel_rfl
  obtain ⟨a0, c0, k0⟩ := part_ok Try.underlying36 hx hf (j := 0) rfl (by omega) (OpensD.int Try.underlying3)
  obtain ⟨a1, c1, k1⟩ := part_ok Try.underlying36 hx hf (j := 1) rfl (by omega) (opens_ints)
  obtain ⟨a2, c2, k2⟩ := part_ok Try.underlying36 hx hf (j := 2) rfl (by omega) (opens_ints)
  match cs, hl', c0, c1, c2 with
  | [u0, u1, u2], _, c0, c1, c2 =>
    simp only [List.getElem_toArray, List.getElem_cons_zero, List.getElem_cons_succ, e_tInt, e_tInts, List.drop_succ_cons, List.drop_zero, List.take_succ_cons, List.take_zero] at c0 c1 c2
    refine ⟨⟨a0, a1, a2⟩, cells_append c0 (cells_append c1 (c2)), fun hs => ?_⟩
    have k0 := k0 hs
    have k1 := k1 hs
    have k2 := k2 hs
    exact ⟨k1, k2⟩
section
variable {m : M} {hd : H} {w : World} {S : Nat → Prop}
theorem vrs_nil : VRs m hd w S [] [] := by simp only [VRs]
theorem vrs_cons {x : V} {l : List V} {u : Value} {r : List Value} (h : VR m hd w S x u) (h2 : VRs m hd w S l r) : VRs m hd w S (x :: l) (u :: r) := by
  simp only [VRs]
  exact ⟨_, _, rfl, h, h2⟩
theorem vr_d {d : D} {u : Value} (h : d.is w S u) : VR m hd w S (.d d) u := by
  simp only [VR]
  exact h
theorem vr_int {k : IntKind} {n : Int} : VR m hd w S (.d (.at (.int k n))) (.int k n) := by
  simp [VR, D.is, Value.oneCell']
theorem vr_cells {c : List D} {cs : Array Value} (h : Cells w S c cs.toList) : VR m hd w S (.ag (c.map V.d)) (.agg cs) := by
  simp only [VR]
  exact ⟨cs.toList, by simp, cells_VRs h, h.one⟩
end
end Go.Proofs.Ytilkjcobkdjlkaa.Sim
end
section
namespace Go.Proofs.Ytilkjcobkdjlkaa.hintSteps
open Go Go.RowKit Go.Deep Go.ChangeShapes Go.WideShapes Go.ChangeAt
open Go.ChangeMaps (open_string shut_string)
set_option linter.unusedVariables false

theorem own : ownKnob Try.prog.godebug = none := by kernel_rfl
theorem laidOut : laidOutB Try.prog = true := by kernel_rfl
theorem wf_i64 {x : Int} (h : (Lit.int .i64 x).wf = true) : -9223372036854775808 ≤ x ∧ x ≤ 9223372036854775807 := by simpa [Lit.wf, IntKind.min, IntKind.max, IntKind.signed, IntKind.bits] using h
theorem args (w : World) (v0 : Value) (x0 : List UInt8) (h0 : (Sim.dBytes x0).is w (Lo w.heap.size) v0) (k0 : Sim.ok_bytes x0)
    (cs1 : Array Value) (x1 : Sim.PHint) (h1 : Sim.Cells w (Lo w.heap.size) (Sim.eH x1) cs1.toList) (k1 : Sim.ok_hint x1)
    (cs2 : Array Value) (x2 : Int) (h2 : Sim.Cells w (Lo w.heap.size) ((fun x : Int => [Sim.D.at (.int .i64 x)]) x2) cs2.toList) (k2 : Sim.ok_field x2)
    (v3 : Value) (x3 : List Int) (h3 : (Sim.dInts x3).is w (Lo w.heap.size) v3) (k3 : Sim.ok_ints x3)
    (v4 : Value) (x4 : List Int) (h4 : (Sim.dInts x4).is w (Lo w.heap.size) v4) (k4 : Sim.ok_ints x4)
    (x5 : Int) (l5 : -9223372036854775808 ≤ x5) (u5 : x5 ≤ 9223372036854775807)
    (cs6 : Array Value) (x6 : Sim.PChg) (h6 : Sim.Cells w (Lo w.heap.size) (Sim.eChg x6) cs6.toList) (k6 : Sim.ok_change x6) : Calls Try.prog 11 #[v0, .agg cs1, .agg cs2, v3, v4, .int .i64 x5, .agg cs6] w (Sim.IsTrueS w) := by
  have := Sim.calls_true (us := [v0, .agg cs1, .agg cs2, v3, v4, .int .i64 x5, .agg cs6]) (hd := fun _ => .bool true) ((fun (s : List UInt8) (ks : Sim.ok_bytes s) (r : Sim.PHint) (kr : Sim.ok_hint r) (f : Int) (_ : Sim.ok_field f) (fa : List Int) (kf : Sim.ok_ints fa) (an : List Int) (ka : Sim.ok_ints an) (ix : Int) (_ : -9223372036854775808 ≤ ix) (_ : ix ≤ 9223372036854775807) (c : Sim.PChg) (kc : Sim.ok_change c) => Sim.lawHSteps s r f fa an ix c ks kr.1 kr.2 kf ka kc.1 kc.2) x0 k0 x1 k1 x2 k2 x3 k3 x4 k4 x5 l5 u5 x6 k6) (Sim.vrs_cons (Sim.vr_d h0) (Sim.vrs_cons (Sim.vr_cells h1) (Sim.vrs_cons (Sim.vr_cells h2) (Sim.vrs_cons (Sim.vr_d h3) (Sim.vrs_cons (Sim.vr_d h4) (Sim.vrs_cons Sim.vr_int (Sim.vrs_cons (Sim.vr_cells h6) (Sim.vrs_nil))))))))
  simpa using this

set_option maxRecDepth 100000 in
theorem lifted (os : Os) (started : os.Started) (H : Type) (enc : TypeId × Value → H) :
    ReturnsInHanded {} Try.checked os 11 .any (Rows.hintStepsSpec.pre6 enc Try.prog Try.f11 Rows.hintStepsRow.domain false) (Rows.hintStepsSpec.post enc Try.prog Try.f11 false true false false) := by
  refine returnsInHanded_of_change_sized (C := Try.checked) own started (by kernel_rfl) Try.func11
    (ChangeSpec.witness6 (enc := enc) (C := Try.checked) false ⟨#[], #[.slice none 0 0, .agg #[.int .i64 0, .slice none 0 0, .slice none 0 0], .agg #[.int .i64 0], .slice none 0 0, .slice none 0 0, .int .i64 0, .agg #[.int .i64 0, .int .i64 0, .int .i64 0, .slice none 0 0]], []⟩ 8 (by kernel_rfl) (by kernel_rfl) (by kernel_rfl) (by kernel_rfl)) ?_
  intro W base args ds gs before hval0 hW hcnd hsz0 _
  have hsz : (DataW.weightsEach Try.prog (Try.f11.params.toList ++ Rows.hintStepsSpec.plain.varTypes Try.prog) (ds ++ gs)).all (· ≤ reachBytes) = true := hsz0
  have hval : ∀ (j : Nat) t v, Try.f11.params[j]? = some t → args[j]? = some v → Value.okWide Try.prog W .any base t v := hval0
  have hW' := hW
  obtain ⟨p, q, hA0, hV, rfl, hfz, hnd⟩ := hW
  have hA : DataW.TrodAll enc Try.prog W 0 (fun _ => true) true Try.f11.params.toList args.toList ds p := hA0
  rw [Try.params11] at hA hval hsz
  obtain ⟨v0, vs0, d0, ds0, p0, q0, hargs, rfl, rfl, h0, r0⟩ := trodAll_cons hA
  obtain ⟨v1, vs1, d1, ds1, p1, q1, rfl, rfl, rfl, h1, r1⟩ := trodAll_cons r0
  obtain ⟨v2, vs2, d2, ds2, p2, q2, rfl, rfl, rfl, h2, r2⟩ := trodAll_cons r1
  obtain ⟨v3, vs3, d3, ds3, p3, q3, rfl, rfl, rfl, h3, r3⟩ := trodAll_cons r2
  obtain ⟨v4, vs4, d4, ds4, p4, q4, rfl, rfl, rfl, h4, r4⟩ := trodAll_cons r3
  obtain ⟨v5, vs5, d5, ds5, p5, q5, rfl, rfl, rfl, h5, r5⟩ := trodAll_cons r4
  obtain ⟨v6, vs6, d6, ds6, p6, q6, rfl, rfl, rfl, h6, r6⟩ := trodAll_cons r5
  obtain ⟨rfl, rfl, rfl⟩ := trodAll_nil r6
  obtain rfl : args = #[v0, v1, v2, v3, v4, v5, v6] := by cases args; simp_all
  obtain ⟨rfl, rfl⟩ := trodVars_none hV
  obtain ⟨a0, len0, cap0, rfl⟩ := okWide_slice Try.underlying22 (hval 0 22 v0 rfl rfl)
  have k0 := h0
  have lt0 : ∀ x ∈ p0, x.block < W.heap.size := by obtain ⟨m, hm⟩ := k0; exact DataW.trod_lt m _ _ _ hm
  obtain ⟨fuel0, hf0⟩ := h0
  obtain ⟨x0, hx0, hk0⟩ := Sim.opens_bytes _ _ _ _ _ _ _ _ _ hf0
  simp only [Value.cells] at hx0
  have ok0 := hk0 (Sim.sized_of hsz (j := 0) rfl rfl)
  obtain ⟨cs1, rfl, hsz1⟩ := okWide_struct Try.underlying36 (hval 1 36 v1 rfl rfl)
  have k1 := h1
  have lt1 : ∀ x ∈ p1, x.block < W.heap.size := by obtain ⟨m, hm⟩ := k1; exact DataW.trod_lt m _ _ _ hm
  obtain ⟨fuel1, hf1⟩ := h1
  obtain ⟨x1, hx1, hk1⟩ := Sim.opens_hint _ _ _ _ _ _ _ _ _ hf1
  simp only [Value.cells] at hx1
  have ok1 := hk1 (Sim.sized_of hsz (j := 1) rfl rfl)
  obtain ⟨cs2, rfl, hsz2⟩ := okWide_struct Try.underlying27 (hval 2 27 v2 rfl rfl)
  have k2 := h2
  have lt2 : ∀ x ∈ p2, x.block < W.heap.size := by obtain ⟨m, hm⟩ := k2; exact DataW.trod_lt m _ _ _ hm
  obtain ⟨fuel2, hf2⟩ := h2
  obtain ⟨x2, hx2, hk2⟩ := Sim.opens_field _ _ _ _ _ _ _ _ _ hf2
  simp only [Value.cells] at hx2
  have ok2 := hk2 (Sim.sized_of hsz (j := 2) rfl rfl)
  obtain ⟨a3, len3, cap3, rfl⟩ := okWide_slice Try.underlying33 (hval 3 33 v3 rfl rfl)
  have k3 := h3
  have lt3 : ∀ x ∈ p3, x.block < W.heap.size := by obtain ⟨m, hm⟩ := k3; exact DataW.trod_lt m _ _ _ hm
  obtain ⟨fuel3, hf3⟩ := h3
  obtain ⟨x3, hx3, hk3⟩ := Sim.opens_ints _ _ _ _ _ _ _ _ _ hf3
  simp only [Value.cells] at hx3
  have ok3 := hk3 (Sim.sized_of hsz (j := 3) rfl rfl)
  obtain ⟨a4, len4, cap4, rfl⟩ := okWide_slice Try.underlying33 (hval 4 33 v4 rfl rfl)
  have k4 := h4
  have lt4 : ∀ x ∈ p4, x.block < W.heap.size := by obtain ⟨m, hm⟩ := k4; exact DataW.trod_lt m _ _ _ hm
  obtain ⟨fuel4, hf4⟩ := h4
  obtain ⟨x4, hx4, hk4⟩ := Sim.opens_ints _ _ _ _ _ _ _ _ _ hf4
  simp only [Value.cells] at hx4
  have ok4 := hk4 (Sim.sized_of hsz (j := 4) rfl rfl)
  obtain ⟨x5, rfl, rfl, rfl, w5⟩ := open_int Try.underlying3 (hval 5 3 v5 rfl rfl) h5
  have b5 := wf_i64 w5
  obtain ⟨cs6, rfl, hsz6⟩ := okWide_struct Try.underlying55 (hval 6 55 v6 rfl rfl)
  have k6 := h6
  have lt6 : ∀ x ∈ p6, x.block < W.heap.size := by obtain ⟨m, hm⟩ := k6; exact DataW.trod_lt m _ _ _ hm
  obtain ⟨fuel6, hf6⟩ := h6
  obtain ⟨x6, hx6, hk6⟩ := Sim.opens_change _ _ _ _ _ _ _ _ _ hf6
  simp only [Value.cells] at hx6
  have ok6 := hk6 (Sim.sized_of hsz (j := 6) rfl rfl)
  clear hA0 hval0
  have hw := args W (.slice a0 len0 cap0) x0 (Sim.cells_one (by simpa using hx0)) ok0 cs1 x1 hx1 ok1 cs2 x2 hx2 ok2 (.slice a3 len3 cap3) x3 (Sim.cells_one (by simpa using hx3)) ok3 (.slice a4 len4 cap4) x4 (Sim.cells_one (by simpa using hx4)) ok4 x5 b5.1 b5.2 cs6 x6 hx6 ok6
  refine hw.mono fun e W' ⟨he, bel⟩ => ?_
  subst he
  exact ⟨_, rfl, _, _, _, [], _, [], hW', trodAll_mk1 (shut_bool Try.underlying4 _), (trodAll_cons_mk (Below.trod laidOut (by kernel_rfl) (of_decide_eq_true (by kernel_rfl)) k0 bel lt0) (trodAll_cons_mk (Below.trod laidOut (by kernel_rfl) (of_decide_eq_true (by kernel_rfl)) k1 bel lt1) (trodAll_cons_mk (Below.trod laidOut (by kernel_rfl) (of_decide_eq_true (by kernel_rfl)) k2 bel lt2) (trodAll_cons_mk (Below.trod laidOut (by kernel_rfl) (of_decide_eq_true (by kernel_rfl)) k3 bel lt3) (trodAll_cons_mk (Below.trod laidOut (by kernel_rfl) (of_decide_eq_true (by kernel_rfl)) k4 bel lt4) (trodAll_cons_mk (shut_int Try.underlying3 w5) (trodAll_cons_mk (Below.trod laidOut (by kernel_rfl) (of_decide_eq_true (by kernel_rfl)) k6 bel lt6) trodAll_mk0))))))), rfl, bel.frame _, fun h => by cases h⟩

theorem over : Rows.hintStepsRow.holds Try.pinned (OpenSpec.ofChange Rows.hintStepsSpec) :=
  OpenClaim.holds_of_wide 11 Try.f11 rfl rfl rfl rfl rfl rfl rfl ⟨rfl, rfl, rfl, rfl, rfl⟩ rfl rfl rfl rfl rfl (by kernel_rfl) Try.func11 (by kernel_rfl)
    (of_decide_eq_true (by kernel_rfl)) (by unfold Func.isWrapper; first | (rw [if_pos (by decide +kernel)]; kernel_rfl) | (rw [if_neg (by decide +kernel)]; exact ⟨rfl, rfl⟩))
    (fun os started H enc _ => lifted os started H enc)

theorem proved : Rows.HintStepsSaid := over
#print axioms proved
end Go.Proofs.Ytilkjcobkdjlkaa.hintSteps
end
