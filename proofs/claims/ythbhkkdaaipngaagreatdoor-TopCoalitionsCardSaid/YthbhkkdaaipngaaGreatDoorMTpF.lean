/- What is known of a word: contracts. -/
import Derived.Test.YthbhkkdaaipngaaGreatDoorMTpS
import Derived.Test.YthbhkkdaaipngaaGreatDoorMTpC
section
namespace Go.Proofs.YthbhkkdaaipngaaGreatDoor.Sim
open Go Go.RowKit Go.Deep
set_option maxRecDepth 100000
set_option maxHeartbeats 4000000
set_option linter.unusedVariables false
set_option linter.unusedSimpArgs false
attribute [local irreducible] Go Mean
/-- A step of a division: the rest, the quotient. -/
def divQ (p by_ : Int) (rest : List Int) : Int := rest.getD (rest.length - 1) 0 * by_ % p
def divR (p by_ : Int) (b rest : List Int) : List Int := trimF ((addAt p ((0 - divQ p by_ rest + p) % p) rest b (rest.length - b.length) b.length).take (rest.length - 1))
def divN (p by_ : Int) (b : List Int) : Nat → List Int → List Int → List Int × List Int
  | 0, rest, quot => (rest, quot)
  | f + 1, rest, quot => if b.length ≤ rest.length then divN p by_ b f (divR p by_ b rest) (quot.set (rest.length - b.length) (divQ p by_ rest)) else (rest, quot)
theorem divR_len {p by_ : Int} {b rest : List Int} (h : 1 ≤ rest.length) : (divR p by_ b rest).length + 1 ≤ rest.length := by
  unfold divR
  rw [trimF_len]
  refine Nat.le_trans (Nat.add_le_add_right (trimN_le _ _) 1) ?_
  rw [List.length_take, addAt_len]; omega
theorem trimF_in {p : Int} {l : List Int} (h : l.all (inE p) = true) : (trimF l).all (inE p) = true := by
  rw [List.all_eq_true] at h ⊢
  exact fun x hx => h x (List.mem_of_mem_take hx)
theorem take_in {p : Int} {l : List Int} {n : Nat} (h : l.all (inE p) = true) : (l.take n).all (inE p) = true := by
  rw [List.all_eq_true] at h ⊢
  exact fun x hx => h x (List.mem_of_mem_take hx)
theorem divR_in {p by_ : Int} {b rest : List Int} (hp : 1 ≤ p) (h : rest.all (inE p) = true) : (divR p by_ b rest).all (inE p) = true := trimF_in (take_in (addAt_in hp h))
theorem divN_more {p by_ : Int} {b : List Int} (hb : 1 ≤ b.length) : ∀ {f g : Nat} {rest quot : List Int}, rest.length < f → rest.length < g → divN p by_ b f rest quot = divN p by_ b g rest quot
  | 0, _, _, _, h, _ => by omega
  | _, 0, _, _, _, h => by omega
  | f + 1, g + 1, rest, quot, h1, h2 => by
    simp only [divN]
    split
    · have := divR_len (p := p) (by_ := by_) (b := b) (rest := rest) (by omega)
      exact divN_more hb (by omega) (by omega)
    · rfl
def divF (p : Int) (a b : List Int) : List Int × List Int :=
  let rest := trimF a
  let d := trimF b
  divN p (invI p (d.getD (d.length - 1) 0)) d (rest.length + 1) rest (List.replicate (rest.length + 1 - d.length) 0)
theorem addTimesTAt (p x : Int) (L r : List Int) (e i u : Nat) (hi : i < 1000000) (hp : 1 ≤ p) (hp2 : p ≤ 65521) (hx : 0 ≤ x ∧ x < p) (hL : L.all (inE p) = true) (hr : r.all (inE p) = true) (hl : e + r.length ≤ L.length) (hb : L.length ≤ 1000000) : Does Tryz.prog 47 [I p, .ot i u e, I x, .d (dInts r)] [(i, .arr u 1 true (L.map eI))] (.tu []) [(i, .arr u 1 true ((addAt p x L r e r.length).map eI))] [] := by
  have h := (addTimesT p x L r e hp hp2 hx hL hr hl hb).nm [(900000, i, u)] (by simp [rhoOK, hi]) rfl rfl rfl (by simp [O.wfB, eI]) (by simp [O.wfB, eI]) rfl rfl rfl
  simpa [V.nms, V.nm, nmU, rl, O.addv, I] using h
theorem trimOAt (l : List Int) (i u : Nat) (hi : i < 1000000) (hl : l.length ≤ 1000000) : Does Tryz.prog 96 [.og i u] [(i, .arr u 1 true (l.map eI))] (.og i (u + 1)) [(i, .arr (u + 1) 1 true ((trimF l).map eI))] [] := by
  have h := (trimO l hl).nm [(900000, i, u)] (by simp [rhoOK, hi]) rfl rfl rfl (by simp [O.wfB, eI]) (by simp [O.wfB, eI]) rfl rfl rfl
  simpa [V.nms, V.nm, nmU, rl, O.addv, I, Nat.add_comm] using h
theorem divideT (p : Int) (a b : List Int) (hf : fieldB p = true) (ha : a.all (inE p) = true) (hb : b.all (inE p) = true) (ha2 : a.length ≤ 512) (hb2 : b.length ≤ 512) (hb3 : 1 ≤ (trimF b).length) (hb4 : 0 < (trimF b).getD ((trimF b).length - 1) 0) :
    Does Tryz.prog 76 [.ag [I p], .d (dInts a), .d (dInts b)] [] (.tu [.og 1000000 0, .og 1000001 0, I 0]) [] [.arr 0 1 true ((trimF (divF p a b).2).map eI), .arr 0 1 true ((trimF (divF p a b).1).map eI)] := by
  refine go_poly_Divide rfl BxOK.nil fun cx hm0 => go_in 5000 ?_
  unfold ac_poly_Divide rs_poly_Divide
  have hp := (fieldB_iff.1 hf).1
  have hp2 := (fieldB_iff.1 hf).2.1
  have e1 := openP p a b hf ha hb ha2 hb2
  have e2 := ownP a (by omega)
  have e3 := trimD b (by omega)
  have hra := trimF_in ha
  have hda := trimF_in hb
  have hrl : (trimF a).length ≤ a.length := by rw [trimF_len]; exact trimN_le _ _
  have hdl : (trimF b).length ≤ b.length := by rw [trimF_len]; exact trimN_le _ _
  unfold divF
  simp only
  generalize trimF a = R0 at *
  generalize trimF b = d at *
  have q1 : ((d.length : Int) == 0) = false := by rw [beq_eq_false_iff_ne]; omega
  have hdg := getD_map eI [] 0 d (d.length - 1) (by omega)
  have wd : IntKind.i64.wrap ((d.length : Int) - 1) = ((d.length - 1 : Nat) : Int) := by rw [IntWalk.i64_in _ (by omega)]; omega
  have hdb := all_get hda (i := d.length - 1) (by omega)
  have e4 := inverse p (d.getD (d.length - 1) 0) hf ⟨hb4, hdb.2⟩
  have hbb := invI_in (p := p) (a := d.getD (d.length - 1) 0) hp
  generalize invI p (d.getD (d.length - 1) 0) = by_ at *
  have hl1 : d.length - 1 < d.length := by omega
  have w1 : IntKind.i64.wrap ((R0.length : Int) - (d.length : Int)) = (R0.length : Int) - d.length := IntWalk.i64_in _ (by omega)
  have w2 : IntKind.i64.wrap ((R0.length : Int) - (d.length : Int) + 1) = (R0.length : Int) - d.length + 1 := IntWalk.i64_in _ (by omega)
  have w3 : max (0 : Int) ((R0.length : Int) - d.length + 1) = ((R0.length + 1 - d.length : Nat) : Int) := by rw [Int.max_def]; split <;> omega
  have hn0 : R0.length + 1 - d.length ≤ 513 := by omega
  repeat' (first | simp (maxSteps := 9999999) only [↓GE, PL, PP, EE, QQ, seval, q1, hdg, wd, w1, w2, w3, hl1, eI, List.length_map, Int.toNat_natCast] | (simp (disch := omega) only [IntWalk.i64_in]) | (refine go_brD (fun h => ?_) (fun h => ?_)) | (refine go_gsD aE (fun h => ?_) (fun h => ?_)) | (refine go_br (fun h => ?_) (fun h => ?_)) | (refine go_gs aE (fun h => ?_) (fun h => ?_)) | (apply go_call 5000 (e1) rfl rfl; iterate 4 (first | (exact CallForm.plain rfl) | exact aC)) | (apply go_call 5000 (e2) rfl rfl; iterate 4 (first | (exact CallForm.news rfl rfl) | exact aC)) | (apply go_call 5000 (e3) rfl rfl; iterate 4 (first | (exact CallForm.plain rfl) | exact aC)) | (apply go_call 5000 (e4) rfl rfl; iterate 4 (first | (exact CallForm.plain rfl) | exact aC)) | (with_reducible apply And.intro) | exact aG | fail)
  refine go_loop 5000 hm0 (ι := {s : Nat × List Int × List Int // s.2.1.length ≤ R0.length ∧ s.2.1.all (inE p) = true ∧ s.2.2.length = R0.length + 1 - d.length ∧ divN p by_ d (s.2.1.length + 1) s.2.1 s.2.2 = divN p by_ d (R0.length + 1) R0 (List.replicate (R0.length + 1 - d.length) 0)}) (fun s => [(2, .d (dInts d)), (9, I p), (11, .og 31000 (2 * s.1.1)), (12, I d.length), (13, .og 42 0), (14, I by_)]) (fun s => [(31000, .arr (2 * s.1.1) 1 true (s.1.2.1.map eI)), (42, .arr 0 1 true (s.1.2.2.map eI))]) (fun s => s.1.2.1.length) [] ⟨(0, R0, List.replicate (R0.length + 1 - d.length) 0), Nat.le_refl _, hra, List.length_replicate, rfl⟩ ?_ ?_
  · (simp only [GeS]; refine ⟨?_, ?_, ?_, ?_⟩; all_goals (repeat' (first | (with_reducible exact True.intro) | (with_reducible rfl) | simp only [XC, ↓reduceIte, seval] | (with_reducible apply And.intro) | (refine ⟨_, rfl, ?_⟩) | (simp [List.map_replicate, eI]; done) | exact aS | fail)))
  · rintro ⟨⟨j, rest, quot⟩, g1, g2, g3, g4⟩
    simp only at g1 g2 g3 g4 ⊢
    by_cases hle : d.length ≤ rest.length
    · have q2 : decide ((d.length : Int) ≤ (rest.length : Int)) = true := decide_eq_true (by omega)
      have v1 : IntKind.i64.wrap ((rest.length : Int) - (d.length : Int)) = ((rest.length - d.length : Nat) : Int) := by rw [IntWalk.i64_in _ (by omega)]; omega
      have v2 : IntKind.i64.wrap ((rest.length : Int) - 1) = ((rest.length - 1 : Nat) : Int) := by rw [IntWalk.i64_in _ (by omega)]; omega
      have hs1 := getD_map eI [] 0 rest (rest.length - 1) (by omega)
      have hl2 : rest.length - 1 < rest.length := by omega
      have hl3 : rest.length - d.length < quot.length := by omega
      have hx := all_get g2 hl2
      have hs2 := getD_map eI [] 0 quot (rest.length - d.length) hl3
      have f1 := fmul p (rest.getD (rest.length - 1) 0) by_ (by omega) hp2 hx hbb
      have hq : rest.getD (rest.length - 1) 0 * by_ % p = divQ p by_ rest := rfl
      rw [hq] at f1
      have hqb : 0 ≤ divQ p by_ rest ∧ divQ p by_ rest < p := ⟨Int.emod_nonneg _ (by omega), Int.emod_lt_of_pos _ (by omega)⟩
      have f2 := fsub p 0 (divQ p by_ rest) (by omega) hp2 ⟨by omega, by omega⟩ hqb
      repeat' (first | simp (maxSteps := 9999999) only [↓GE, PL, PP, EE, QQ, seval, q2, v1, v2, hs1, hs2, hl2, hl3, eI, List.length_map, Int.toNat_natCast] | (simp (disch := omega) only [IntWalk.i64_in]) | (refine go_brD (fun h => ?_) (fun h => ?_)) | (refine go_gsD aE (fun h => ?_) (fun h => ?_)) | (refine go_br (fun h => ?_) (fun h => ?_)) | (refine go_gs aE (fun h => ?_) (fun h => ?_)) | (apply go_call 5000 (f1) rfl rfl; iterate 4 (first | (exact CallForm.plain rfl) | exact aC)) | (apply go_call 5000 (f2) rfl rfl; iterate 4 (first | (exact CallForm.plain rfl) | exact aC)) | (with_reducible apply And.intro) | exact aG | fail)
      generalize hy : (0 - divQ p by_ rest + p) % p = y at *
      have hyb : 0 ≤ y ∧ y < p := by rw [← hy]; exact ⟨Int.emod_nonneg _ (by omega), Int.emod_lt_of_pos _ (by omega)⟩
      have f3 := addTimesTAt p y rest d (rest.length - d.length) 31000 (2 * j) (by omega) (by omega) hp2 hyb g2 hda (by omega) (by omega)
      (apply go_call 5000 f3 rfl rfl; (· exact aC); (· exact CallForm.lent ⟨⟨rfl, rfl, by decide, .inl (by decide), wfB_ints, rfl, wfB_ints, rfl, rfl⟩, trivial⟩ rfl rfl); (· exact aC); (· exact aC))
      have hal : (addAt p y rest d (rest.length - d.length) d.length).length = rest.length := addAt_len
      have htk : List.take (rest.length - 1) (List.map eI (addAt p y rest d (rest.length - d.length) d.length)) = List.map eI ((addAt p y rest d (rest.length - d.length) d.length).take (rest.length - 1)) := List.map_take.symm
      have hdr : divR p by_ d rest = trimF ((addAt p y rest d (rest.length - d.length) d.length).take (rest.length - 1)) := by rw [divR, hy]
      have hin : ((addAt p y rest d (rest.length - d.length) d.length).take (rest.length - 1)).length ≤ 1000000 := by rw [List.length_take]; omega
      have f4 := trimOAt _ 31000 (2 * j + 1) (by omega) hin
      repeat' (first | simp (maxSteps := 9999999) only [↓GE, PL, PP, EE, QQ, seval, q2, v1, v2, hal, htk, eI, List.length_map, Int.toNat_natCast] | (simp (disch := omega) only [IntWalk.i64_in]) | (refine go_brD (fun h => ?_) (fun h => ?_)) | (refine go_gsD aE (fun h => ?_) (fun h => ?_)) | (refine go_br (fun h => ?_) (fun h => ?_)) | (refine go_gs aE (fun h => ?_) (fun h => ?_)) | (with_reducible apply And.intro) | exact aG | fail)
      (apply go_call 5000 f4 rfl rfl; (· exact aC); (· exact CallForm.lent ⟨⟨rfl, rfl, by decide, .inl (by decide), wfB_ints, rfl, wfB_ints, rfl, rfl⟩, trivial⟩ rfl (by simp [V.wfR, V.okP, inU])); (· exact aC); (· exact aC))
      repeat' (first | simp (maxSteps := 9999999) only [↓GE, PL, PP, EE, QQ, seval, q2, v1, v2, hal, htk, eI, List.length_map, Int.toNat_natCast] | (simp (disch := omega) only [IntWalk.i64_in]) | (refine go_brD (fun h => ?_) (fun h => ?_)) | (refine go_gsD aE (fun h => ?_) (fun h => ?_)) | (refine go_br (fun h => ?_) (fun h => ?_)) | (refine go_gs aE (fun h => ?_) (fun h => ?_)) | (with_reducible apply And.intro) | exact aG | fail)
      have hdl := divR_len (p := p) (by_ := by_) (b := d) (rest := rest) (by omega)
      have hdi := divR_in (by_ := by_) (b := d) (show 1 ≤ p by omega) g2
      refine ⟨⟨(j + 1, divR p by_ d rest, quot.set (rest.length - d.length) (divQ p by_ rest)), by simp only; omega, hdi, by simp only [List.length_set]; exact g3, ?_⟩, ?_, by simp only; omega⟩
      · simp only
        rw [← g4]
        conv => rhs; rw [divN, if_pos hle]
        exact divN_more hb3 (by omega) (by omega)
      · (simp only [GeS]; refine ⟨?_, ?_, ?_, ?_⟩; all_goals (repeat' (first | (with_reducible exact True.intro) | (with_reducible rfl) | simp only [XC, ↓reduceIte, seval] | (with_reducible apply And.intro) | (refine ⟨_, rfl, ?_⟩) | (simp [hdr, List.map_set, eI, Nat.mul_add]; done) | exact aS | fail)))
    · have q2 : decide ((d.length : Int) ≤ (rest.length : Int)) = false := decide_eq_false (by omega)
      rw [divN, if_neg hle] at g4
      rw [← g4]
      have f5 := ownP quot (by omega)
      have f6 := ownP rest (by omega)
      repeat' (first | simp (maxSteps := 9999999) only [↓GE, PL, PP, EE, QQ, seval, q2, eI, List.length_map] | (simp (disch := omega) only [IntWalk.i64_in]) | (refine go_brD (fun h => ?_) (fun h => ?_)) | (refine go_gsD aE (fun h => ?_) (fun h => ?_)) | (refine go_br (fun h => ?_) (fun h => ?_)) | (refine go_gs aE (fun h => ?_) (fun h => ?_)) | (with_reducible apply And.intro) | exact aG | fail)
      (apply go_call 5000 f5 rfl rfl; iterate 4 (first | (exact CallForm.news rfl rfl) | exact aC))
      repeat' (first | simp (maxSteps := 9999999) only [↓GE, PL, PP, EE, QQ, seval, eI, List.length_map] | (simp (disch := omega) only [IntWalk.i64_in]) | (refine go_brD (fun h => ?_) (fun h => ?_)) | (refine go_gsD aE (fun h => ?_) (fun h => ?_)) | (refine go_br (fun h => ?_) (fun h => ?_)) | (refine go_gs aE (fun h => ?_) (fun h => ?_)) | (with_reducible apply And.intro) | exact aG | fail)
      (apply go_call 5000 f6 rfl rfl; iterate 4 (first | (exact CallForm.news rfl rfl) | exact aC))
      repeat' (first | simp (maxSteps := 9999999) only [↓GE, PL, PP, EE, QQ, seval, eI, List.length_map] | (simp (disch := omega) only [IntWalk.i64_in]) | (refine go_brD (fun h => ?_) (fun h => ?_)) | (refine go_gsD aE (fun h => ?_) (fun h => ?_)) | (refine go_br (fun h => ?_) (fun h => ?_)) | (refine go_gs aE (fun h => ?_) (fun h => ?_)) | (with_reducible apply And.intro) | exact aG | fail)
      ((first | apply ret_mk [some 92000, some 94000] | apply end_mk [some 92000, some 94000]); (· exact aR); (· exact aZ); all_goals exact aF)
end Go.Proofs.YthbhkkdaaipngaaGreatDoor.Sim
end
section
namespace Go.Proofs.YthbhkkdaaipngaaGreatDoor.Sim
open Go Go.RowKit Go.Deep
set_option maxRecDepth 100000
set_option maxHeartbeats 4000000
set_option linter.unusedVariables false
set_option linter.unusedSimpArgs false
attribute [local irreducible] Go Mean
def eS (x : Int × Int) : List D := [.at (.int .i64 x.1), .at (.int .i64 x.2)]
abbrev dShares (l : List (Int × Int)) : D := .sl 2 (l.map eS)
/-- A step of the interpolation: the polynomial so far, the product of all x - at. -/
def intB (p : Int) (s : List Int × List Int) (y : Int × Int) : Int := (y.2 - valF p s.1 y.1 + p) % p * invI p (valF p s.2 y.1) % p
def intS (p : Int) (s : List Int × List Int) (y : Int × Int) : List Int × List Int :=
  (addStep p (intB p s y) (s.1 ++ [0]) s.2 s.2.length, timesF p s.2 [(0 - y.1 + p) % p, 1])
def intN (p : Int) (l : List (Int × Int)) : Nat → List Int × List Int
  | 0 => ([], [1])
  | k + 1 => intS p (intN p l k) (l.getD k (0, 0))
theorem intN_len {p : Int} {l : List (Int × Int)} : ∀ k, (intN p l k).1.length = k ∧ (intN p l k).2.length = k + 1
  | 0 => ⟨rfl, rfl⟩
  | k + 1 => by
    obtain ⟨h1, h2⟩ := intN_len (p := p) (l := l) k
    simp only [intN, intS]
    refine ⟨by rw [addStep_len, List.length_append, h1]; rfl, ?_⟩
    rw [timesF, timesN_len, h2]; rfl
theorem intN_in {p : Int} (hp : 2 ≤ p) {l : List (Int × Int)} : ∀ k, (intN p l k).1.all (inE p) = true ∧ (intN p l k).2.all (inE p) = true
  | 0 => ⟨rfl, by simp [intN, inE]; omega⟩
  | k + 1 => by
    obtain ⟨h1, h2⟩ := intN_in hp (l := l) k
    simp only [intN, intS]
    refine ⟨addStep_in (by omega) ?_, timesN_in (by omega)⟩
    rw [List.all_append, h1]
    simp [inE]; omega
/-- No place comes twice. -/
def onceB : List Int → List Int → Bool
  | _, [] => true
  | s, x :: r => !s.contains x && onceB (x :: s) r
theorem interpolateT (p : Int) (l : List (Int × Int)) (hf : fieldB p = true) (h1 : (l.map (·.1)).all (inE p) = true) (h2 : (l.map (·.2)).all (inE p) = true) (hl : l.length ≤ 512) (ho : onceB [] (l.map (·.1)) = true)
    (hn : ∀ k, k < l.length → 0 < valF p (intN p l k).2 (l.getD k (0, 0)).1) :
    Does Tryz.prog 88 [.ag [I p], .d (dShares l)] [] (.tu [.og 1000000 0, I 0]) [] [.arr 0 1 true ((trimF (intN p l l.length).1).map eI)] := by
  refine go_poly_Interpolate rfl BxOK.nil fun cx hm0 => go_in 5000 ?_
  unfold ac_poly_Interpolate rs_poly_Interpolate
  have hp := (fieldB_iff.1 hf).1
  have hp2 := (fieldB_iff.1 hf).2.1
  repeat' (first | simp (maxSteps := 9999999) only [↓GE, PL, PP, EE, QQ, seval, List.length_map] | (simp (disch := omega) only [IntWalk.i64_in]) | (refine go_brD (fun h => ?_) (fun h => ?_)) | (refine go_gsD aE (fun h => ?_) (fun h => ?_)) | (refine go_br (fun h => ?_) (fun h => ?_)) | (refine go_gs aE (fun h => ?_) (fun h => ?_)) | (with_reducible apply And.intro) | exact aG | fail)
  refine go_loopz 5000 hm0 (ι := {k : Nat // k ≤ l.length}) (fun k => [(2, .bp 2 0 0), (6, .og 31 k.1), (7, .og 36 k.1), (21, .d (dShares l)), (22, I l.length), (23, I k.1)]) (fun k => [(2, .box 0 [I p]), (31, .arr k.1 1 true (((l.map (·.1)).take k.1).map eI)), (36, .arr k.1 1 true (((l.map (·.2)).take k.1).map eI))]) (fun k => l.length - k.1) [] [31, 36] ⟨0, Nat.zero_le _⟩ ?_ ?_
  · simp only [GeZ]; exact aH
  · rintro ⟨k, hk⟩
    simp only
    by_cases hkl : k < l.length
    · have q1 : decide ((k : Int) < (l.length : Int)) = true := decide_eq_true (by omega)
      have w1 : IntKind.i64.wrap ((k : Int) + 1) = ((k + 1 : Nat) : Int) := by rw [IntWalk.i64_in _ (by omega)]; omega
      have hs := getD_map eS [] (0, 0) l k hkl
      have hm1 : ((l.map (·.1)).take k).length = k := by rw [List.length_take, List.length_map]; omega
      have hm2 : ((l.map (·.2)).take k).length = k := by rw [List.length_take, List.length_map]; omega
      repeat' (first | simp (maxSteps := 9999999) only [↓GE, PL, PP, EE, QQ, seval, q1, w1, hs, hkl, hm1, hm2, eS, List.length_map] | (simp (disch := omega) only [IntWalk.i64_in]) | (refine go_brD (fun h => ?_) (fun h => ?_)) | (refine go_gsD aE (fun h => ?_) (fun h => ?_)) | (refine go_br (fun h => ?_) (fun h => ?_)) | (refine go_gs aE (fun h => ?_) (fun h => ?_)) | (with_reducible apply And.intro) | exact aG | fail)
      have hgd : ∀ f : Int × Int → Int, (l.map f).take (k + 1) = (l.map f).take k ++ [f (l.getD k (0, 0))] := fun f => by
        rw [List.take_succ_eq_append_getElem (by rw [List.length_map]; exact hkl), List.getElem_map, List.getD_eq_getElem?_getD, List.getElem?_eq_getElem hkl]; rfl
      refine ⟨[], [], ⟨k + 1, hkl⟩, ?_, by simp only; omega⟩
      simp only [GeZ]; (simp only [GeS]; refine ⟨?_, ?_, ?_, ?_⟩; all_goals (repeat' (first | (with_reducible exact True.intro) | (with_reducible rfl) | simp only [XC, ↓reduceIte, seval] | (with_reducible apply And.intro) | (refine ⟨_, rfl, ?_⟩) | (simp [hgd, eI]; done) | exact aS | fail)))
    · obtain rfl : k = l.length := by omega
      have q1 : decide ((l.length : Int) < (l.length : Int)) = false := decide_eq_false (by omega)
      have hA : (l.map (·.1)).take l.length = l.map (·.1) := List.take_of_length_le (by rw [List.length_map]; exact Nat.le_refl _)
      have hV : (l.map (·.2)).take l.length = l.map (·.2) := List.take_of_length_le (by rw [List.length_map]; exact Nat.le_refl _)
      rw [hA, hV]
      have hgA : ∀ k, k < l.length → (l.map (·.1)).getD k 0 = (l.getD k (0, 0)).1 := fun k hk => by simp [List.getD_eq_getElem?_getD, hk]
      have hgV : ∀ k, k < l.length → (l.map (·.2)).getD k 0 = (l.getD k (0, 0)).2 := fun k hk => by simp [List.getD_eq_getElem?_getD, hk]
      have lA : (l.map (·.1)).length = l.length := List.length_map _
      have lV : (l.map (·.2)).length = l.length := List.length_map _
      generalize l.map (·.1) = A at *
      generalize l.map (·.2) = va at *
      have e1 := openP p A va hf h1 h2 (by omega) (by omega)
      repeat' (first | simp (maxSteps := 9999999) only [↓GE, PL, PP, EE, QQ, seval, q1, lA, lV, List.length_map] | (simp (disch := omega) only [IntWalk.i64_in]) | (refine go_brD (fun h => ?_) (fun h => ?_)) | (refine go_gsD aE (fun h => ?_) (fun h => ?_)) | (refine go_br (fun h => ?_) (fun h => ?_)) | (refine go_gs aE (fun h => ?_) (fun h => ?_)) | (apply go_call 5000 (e1) rfl rfl; iterate 4 (first | (exact CallForm.plain rfl) | exact aC)) | (with_reducible apply And.intro) | exact aG | fail)
      refine go_loopz 5000 hm0 (ι := {k : Nat // k ≤ l.length ∧ onceB (A.take k).reverse (A.drop k) = true}) (fun k => [(2, .bp 2 0 0), (6, .d (dInts A)), (7, .d (dInts va)), (10, I p), (12, .mh 49 0), (50, .d (dInts A)), (51, I l.length), (52, I k.1)]) (fun k => [(2, .box 0 [I p]), (49, .mp 0 (A.take k.1))]) (fun k => l.length - k.1) [] [] ⟨0, Nat.zero_le _, ho⟩ ?_ ?_
      · simp only [GeZ]; exact aH
      · rintro ⟨k, hk, hk2⟩
        simp only
        by_cases hkl : k < l.length
        · have q2 : decide ((k : Int) < (l.length : Int)) = true := decide_eq_true (by omega)
          have w1 : IntKind.i64.wrap ((k : Int) + 1) = ((k + 1 : Nat) : Int) := by rw [IntWalk.i64_in _ (by omega)]; omega
          have hs := getD_map eI [] 0 A k (by omega)
          rw [drop_get 0 _ _ (by omega)] at hk2
          simp only [onceB, Bool.and_eq_true, Bool.not_eq_true'] at hk2
          have hc : (A.take k).contains (A.getD k 0) = false := by
            rw [← hk2.1]; simp
          have htk : A.take (k + 1) = A.take k ++ [A.getD k 0] := by
            rw [List.take_succ_eq_append_getElem (by omega), List.getD_eq_getElem?_getD, List.getElem?_eq_getElem (by omega)]; rfl
          repeat' (first | simp (maxSteps := 9999999) only [↓GE, PL, PP, EE, QQ, seval, q2, w1, hs, hkl, hc, lA, eI, List.length_map] | (simp (disch := omega) only [IntWalk.i64_in]) | (refine go_brD (fun h => ?_) (fun h => ?_)) | (refine go_gsD aE (fun h => ?_) (fun h => ?_)) | (refine go_br (fun h => ?_) (fun h => ?_)) | (refine go_gs aE (fun h => ?_) (fun h => ?_)) | (with_reducible apply And.intro) | exact aG | fail)
          refine ⟨[], [], ⟨k + 1, hkl, by rw [htk, List.reverse_append]; exact hk2.2⟩, ?_, by simp only; omega⟩
          simp only [GeZ]; (simp only [GeS]; refine ⟨?_, ?_, ?_, ?_⟩; all_goals (repeat' (first | (with_reducible exact True.intro) | (with_reducible rfl) | simp only [XC, ↓reduceIte, seval] | (with_reducible apply And.intro) | (refine ⟨_, rfl, ?_⟩) | (simp [htk]; done) | exact aS | fail)))
        · obtain rfl : k = l.length := by omega
          repeat' (first | simp (maxSteps := 9999999) only [↓GE, PL, PP, EE, QQ, seval, q1] | (simp (disch := omega) only [IntWalk.i64_in]) | (refine go_brD (fun h => ?_) (fun h => ?_)) | (refine go_gsD aE (fun h => ?_) (fun h => ?_)) | (refine go_br (fun h => ?_) (fun h => ?_)) | (refine go_gs aE (fun h => ?_) (fun h => ?_)) | (with_reducible apply And.intro) | exact aG | fail)
          refine go_loopz 5000 hm0 (ι := {k : Nat // k ≤ l.length}) (fun k => [(6, .d (dInts A)), (7, .d (dInts va)), (10, I p), (15, .d (dInts (intN p l k.1).1)), (16, .d (dInts (intN p l k.1).2)), (63, .d (dInts A)), (64, I l.length), (65, I k.1)]) (fun k => []) (fun k => l.length - k.1) [.og 62 0] [] ⟨0, Nat.zero_le _⟩ ?_ ?_
          · simp only [GeZ]; (simp only [GeS]; refine ⟨?_, ?_, ?_, ?_⟩; all_goals (repeat' (first | (with_reducible exact True.intro) | (with_reducible rfl) | simp only [XC, ↓reduceIte, seval] | (with_reducible apply And.intro) | (refine ⟨_, rfl, ?_⟩) | (simp [intN, eI, lA]; done) | exact aS | fail)))
          · rintro ⟨k, hk⟩
            simp only
            obtain ⟨n1, n2⟩ := intN_len (p := p) (l := l) k
            obtain ⟨n3, n4⟩ := intN_in hp (l := l) k
            have hnx : intN p l (k + 1) = intS p (intN p l k) (l.getD k (0, 0)) := rfl
            by_cases hkl : k < l.length
            · have q2 : decide ((k : Int) < (l.length : Int)) = true := decide_eq_true (by omega)
              have w1 : IntKind.i64.wrap ((k : Int) + 1) = ((k + 1 : Nat) : Int) := by rw [IntWalk.i64_in _ (by omega)]; omega
              have hz := hn k hkl
              have hs := getD_map eI [] 0 A k (by omega)
              have hs2 := getD_map eI [] 0 va k (by omega)
              have hxb := all_get h1 (i := k) (by omega)
              have hyb := all_get h2 (i := k) (by omega)
              rw [hgA k hkl] at hs hxb
              rw [hgV k hkl] at hs2 hyb
              generalize l.getD k (0, 0) = y at *
              generalize intN p l k = s at *
              have hv1 := valF_in (p := p) (x := y.1) (l := s.1) (by omega)
              have hv2 := valF_in (p := p) (x := y.1) (l := s.2) (by omega)
              have f1 := value p y.1 s.1 (by omega) hp2 hxb n3 (by omega)
              have f2 := value p y.1 s.2 (by omega) hp2 hxb n4 (by omega)
              have f3 := fsub p y.2 (valF p s.1 y.1) (by omega) hp2 hyb hv1
              have f4 := inverse p (valF p s.2 y.1) hf ⟨hz, hv2.2⟩
              have hib := invI_in (p := p) (a := valF p s.2 y.1) hp
              have f5 := fmul p ((y.2 - valF p s.1 y.1 + p) % p) (invI p (valF p s.2 y.1)) (by omega) hp2 ⟨Int.emod_nonneg _ (by omega), Int.emod_lt_of_pos _ (by omega)⟩ hib
              have hB : (y.2 - valF p s.1 y.1 + p) % p * invI p (valF p s.2 y.1) % p = intB p s y := rfl
              rw [hB] at f5
              have hBb : 0 ≤ intB p s y ∧ intB p s y < p := ⟨Int.emod_nonneg _ (by omega), Int.emod_lt_of_pos _ (by omega)⟩
              repeat' (first | simp (maxSteps := 9999999) only [↓GE, PL, PP, EE, QQ, seval, q2, w1, hs, hs2, hkl, lA, lV, eI, List.length_map] | (simp (disch := omega) only [IntWalk.i64_in]) | (refine go_brD (fun h => ?_) (fun h => ?_)) | (refine go_gsD aE (fun h => ?_) (fun h => ?_)) | (refine go_br (fun h => ?_) (fun h => ?_)) | (refine go_gs aE (fun h => ?_) (fun h => ?_)) | (with_reducible apply And.intro) | exact aG | fail)
              (apply go_call 5000 f1 rfl rfl; iterate 4 (first | (exact CallForm.plain rfl) | exact aC))
              repeat' (first | simp (maxSteps := 9999999) only [↓GE, PL, PP, EE, QQ, seval, eI, List.length_map] | (simp (disch := omega) only [IntWalk.i64_in]) | (refine go_brD (fun h => ?_) (fun h => ?_)) | (refine go_gsD aE (fun h => ?_) (fun h => ?_)) | (refine go_br (fun h => ?_) (fun h => ?_)) | (refine go_gs aE (fun h => ?_) (fun h => ?_)) | (apply go_call 5000 (f3) rfl rfl; iterate 4 (first | (exact CallForm.plain rfl) | exact aC)) | (with_reducible apply And.intro) | exact aG | fail)
              (apply go_call 5000 f2 rfl rfl; iterate 4 (first | (exact CallForm.plain rfl) | exact aC))
              repeat' (first | simp (maxSteps := 9999999) only [↓GE, PL, PP, EE, QQ, seval, n1, n2, eI, List.length_map] | (simp (disch := omega) only [IntWalk.i64_in]) | (refine go_brD (fun h => ?_) (fun h => ?_)) | (refine go_gsD aE (fun h => ?_) (fun h => ?_)) | (refine go_br (fun h => ?_) (fun h => ?_)) | (refine go_gs aE (fun h => ?_) (fun h => ?_)) | (apply go_call 5000 (f4) rfl rfl; iterate 4 (first | (exact CallForm.plain rfl) | exact aC)) | (apply go_call 5000 (f5) rfl rfl; iterate 4 (first | (exact CallForm.plain rfl) | exact aC)) | (with_reducible apply And.intro) | exact aG | fail)
              have hcp : List.take ((List.replicate k [D.at (Value.int IntKind.i64 0)]).length + 1) (List.map eI s.1) ++ List.drop k ([D.at (Value.int IntKind.i64 0)] :: List.replicate k [D.at (Value.int IntKind.i64 0)]) = (s.1 ++ [0]).map eI := by
                rw [List.length_replicate, List.take_of_length_le (by rw [List.length_map]; omega), ← List.replicate_succ, List.drop_replicate, show k + 1 - k = 1 by omega, List.map_append]; rfl
              have hin0 : (s.1 ++ [0]).all (inE p) = true := by
                rw [List.all_append, n3]
                simp [inE]; omega
              have f6 := addTimesAt p (intB p s y) (s.1 ++ [0]) s.2 90 0 (by omega) (by omega) hp2 hBb hin0 n4 (by rw [List.length_append, n1, n2]; exact Nat.le_refl _) (by omega)
              have f7 := fsub p 0 y.1 (by omega) hp2 ⟨by omega, by omega⟩ hxb
              have f8 := times p s.2 [(0 - y.1 + p) % p, 1] (by omega) hp2 n4 (by simp [inE]; exact ⟨⟨Int.emod_nonneg _ (by omega), Int.emod_lt_of_pos _ (by omega)⟩, by omega⟩) (by omega) (by simp) (by omega) (by simp)
              simp only [hcp]
              (apply go_call 5000 f6 rfl rfl; (· exact aC); (· exact CallForm.lent ⟨⟨rfl, rfl, by decide, .inl (by decide), wfB_ints, rfl, wfB_ints, rfl, rfl⟩, trivial⟩ rfl rfl); (· exact aC); (· exact aC))
              repeat' (first | simp (maxSteps := 9999999) only [↓GE, PL, PP, EE, QQ, seval, n1, n2, w1, eI, List.length_map] | (simp (disch := omega) only [IntWalk.i64_in]) | (refine go_brD (fun h => ?_) (fun h => ?_)) | (refine go_gsD aE (fun h => ?_) (fun h => ?_)) | (refine go_br (fun h => ?_) (fun h => ?_)) | (refine go_gs aE (fun h => ?_) (fun h => ?_)) | (apply go_call 5000 (f7) rfl rfl; iterate 4 (first | (exact CallForm.plain rfl) | exact aC)) | (apply go_call 5000 (f8) rfl rfl; iterate 4 (first | (exact CallForm.news rfl rfl) | exact aC)) | (with_reducible apply And.intro) | exact aG | fail)
              refine ⟨[.og 90 0, .og 108000 0], [], ⟨k + 1, hkl⟩, ?_, by simp only; omega⟩
              simp only [GeZ]; (simp only [GeS]; refine ⟨?_, ?_, ?_, ?_⟩; all_goals (repeat' (first | (with_reducible exact True.intro) | (with_reducible rfl) | simp only [XC, ↓reduceIte, seval] | (with_reducible apply And.intro) | (refine ⟨_, rfl, ?_⟩) | (simp [hnx, intS, n2]; done) | exact aS | fail)))
            · obtain rfl : k = l.length := by omega
              have f9 := ownP (intN p l l.length).1 (by omega)
              repeat' (first | simp (maxSteps := 9999999) only [↓GE, PL, PP, EE, QQ, seval, q1] | (simp (disch := omega) only [IntWalk.i64_in]) | (refine go_brD (fun h => ?_) (fun h => ?_)) | (refine go_gsD aE (fun h => ?_) (fun h => ?_)) | (refine go_br (fun h => ?_) (fun h => ?_)) | (refine go_gs aE (fun h => ?_) (fun h => ?_)) | (apply go_call 5000 (f9) rfl rfl; iterate 4 (first | (exact CallForm.news rfl rfl) | exact aC)) | (with_reducible apply And.intro) | exact aG | fail)
              ((first | apply ret_mk [some 111000] | apply end_mk [some 111000]); (· exact aR); (· exact aZ); all_goals exact aF)
end Go.Proofs.YthbhkkdaaipngaaGreatDoor.Sim
end
section
namespace Go.Proofs.YthbhkkdaaipngaaGreatDoor.Sim
open Go Go.RowKit Go.Deep
open Go.Proofs.YthbhkkdaaipngaaGreatDoor.Tw (WCell kn kn_len kn_all cells_any)
set_option maxRecDepth 100000
set_option maxHeartbeats 4000000
set_option linter.unusedVariables false
set_option linter.unusedSimpArgs false
attribute [local irreducible] Go Mean
def eC (c : WCell) : List D := [.at (.int .i64 c.v), .at (.bool c.k)]
abbrev dCells (l : List WCell) : D := .sl 2 (l.map eC)
theorem dcells_lst {w : World} {S : Nat → Prop} {v : Value} {l : List WCell} (hq : ∀ x ∈ l, I64 x.v) (h : (dCells l).is w S v) : Lst w S v l :=
  sl_lst (α := WCell) eC (fun x => I64 x.v) (fun cs x hx hc => by
    simp only [eC, Cells, D.is] at hc
    obtain ⟨u, r, rfl, ⟨rfl, -⟩, u2, r2, rfl, ⟨rfl, -⟩, rfl⟩ := hc
    exact ⟨rfl, hx⟩) hq h
/-- A word that fits a field. -/
structure WordIn (p : Int) (l : List WCell) : Prop where
  el : ∀ y ∈ l, 0 ≤ y.v ∧ y.v < p
  len : l.length ≤ 32
  lp : (l.length : Int) < p
theorem cells (p : Int) (l : List WCell) (hf : fieldB p = true) (hl : WordIn p l) : Does Tryz.prog 87 [.ag [I p], .d (dCells l)] [] (.tu [I p, I (kn 0 l).length, I 0]) [] [] := by
  have hp := (fieldB_iff.1 hf).1
  have hp2 := (fieldB_iff.1 hf).2.1
  intro w hd S X us _ hm hv
  simp only [VRs, VR, I, D.is] at hv
  obtain ⟨u, r, rfl, ⟨vs, rfl, ⟨u1, r1, rfl, ⟨rfl, -⟩, rfl⟩, -⟩, u2, r2, rfl, h2, rfl⟩ := hv
  have hq := (dcells_lst (l := l) (fun y hy => by have := hl.el y hy; constructor <;> omega) (by simp only [D.is]; exact h2)).more (S' := Lo w.heap.size) (fun b hb => hm.lt b hb)
  refine (cells_any p l u2 w hp hp2 (isP_field hf) hl.el hq hl.len hl.lp).mono ?_
  rintro e w' ⟨rfl, hb⟩
  refine ⟨_, hd, S, rfl, ⟨hb.os, hb.tape, hb.output, hb.size, fun k hk _ => hb.block k hk⟩, ⟨fun i o h => by simp [ups, fresh] at h, fun i j oi oj b _ h => by simp [ups, fresh] at h, fun b hb' => Nat.lt_of_lt_of_le (hm.lt b hb') hb.size, hb.size, hm.sX⟩, ?_, fun b h => .inl h, Le.refl _ _⟩
  exact ⟨[_, _, _], rfl, by simp [I, VRs, VR, D.is, Value.oneCell']⟩
end Go.Proofs.YthbhkkdaaipngaaGreatDoor.Sim
end
