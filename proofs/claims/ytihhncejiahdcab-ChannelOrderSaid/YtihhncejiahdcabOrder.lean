/- ChannelOrder, walked. -/
import Derived.Test.YtihhncejiahdcabFull
import Derived.Test.YtihhncejiahdcabDiceNew
namespace Go.Proofs.Ytihhncejiahdcab
open Go Go.RowKit Go.Deep
set_option linter.unusedVariables false
set_option linter.unusedSimpArgs false

def InOrder (l : List Note) : Prop := ∀ i (h : i < l.length), l[i].read = i
def Ord1 (w : World) (D Cb gk : Nat) (v5 v6 : Value) (W : World) : Prop :=
  ∃ (a : Option Addr) (c : Nat) (l : List Note), v6 = .int .i64 gk ∧ v5 = .int .i64 l.length ∧ l.length + 2 * gk ≤ 16 ∧ St w [(Cb, [.slice a l.length c])] W ∧ Dice W w.heap.size D ∧
    Lst W (fun b => b ≠ D ∧ b ≠ Cb) (.slice a l.length c) l ∧ SmallAll l ∧ InOrder l
/-- The first note is taken. -/
theorem take_first {w : World} {S : Nat → Prop} {v : Value} {l f : List Note} {i : Nat} (h : Lst w S v f) (hf : f = l.drop i) (hi : i < l.length) (hs : SmallAll l) (hl : l.length ≤ 1000000) :
    ∃ f' x, f' = l.drop (i + 1) ∧ x = l[i] ∧ Calls Try.prog 12 #[.agg #[v], .int .i64 0] w (TakeP w f' x 0) := by
  subst hf
  have := chTake_yes v (l.drop i) 0 S w h (by rw [List.length_drop]; omega) (fun x hx => hs x (List.mem_of_mem_drop hx)) (by rw [List.length_drop]; omega)
  have e1 : (l.drop i).take 0 ++ (l.drop i).drop (0 + 1) = l.drop (i + 1) := by simp
  have e2 : (l.drop i)[0]'(by rw [List.length_drop]; omega) = l[i] := by simp
  rw [e1, e2] at this
  exact ⟨_, _, rfl, rfl, this⟩
def Ord2 (w : World) (D Cb Fb : Nat) (a : Option Addr) (c : Nat) (l : List Note) (gk : Nat) (v10 : Value) (W : World) : Prop :=
  ∃ (af : Option Addr) (cf i : Nat) (f : List Note), gk + i = l.length ∧ f = l.drop i ∧ v10 = .int .i64 i ∧ St w [(Fb, [.slice af f.length cf]), (Cb, [.slice a l.length c])] W ∧ Dice W w.heap.size D ∧
    Lst W (fun b => b ≠ D ∧ b ≠ Cb ∧ b ≠ Fb) (.slice a l.length c) l ∧ Lst W (fun b => b ≠ D ∧ b ≠ Cb ∧ b ≠ Fb) (.slice af f.length cf) f
/-- A block of the call's own, none of its variables, is written. -/
theorem St.far_cell {w0 W : World} {L : List (Nat × List Value)} (h : St w0 L W) {b : Nat} (h1 : w0.heap.size ≤ b) (h2 : ∀ p ∈ L, p.1 ≠ b) (i : Nat) (u : Value) : St w0 L (W.setCell ⟨b, i, none⟩ u) :=
  ⟨h.below.setCell h1 u, h.loc.keep (by simp [World.setCell]) fun p hp => Below.heap_setCell _ _ _ _ (h2 p hp), h.new⟩
/-- One truth value of a list of the call's own. -/
theorem bool_at {w : World} {B Gb N r : Nat} {T : Nat → Prop} {bs : List Bool} {b : Bool} (h : OwnT w B T (.slice (some ⟨Gb, 0, none⟩) N N) bs) (hb : bs[r]? = some b) :
    w.cell? ⟨Gb, r, none⟩ = some (.bool b) ∧ w.frozen? ⟨Gb, r, none⟩ = false ∧ Gb < w.heap.size ∧ ∀ u : Bool, OwnT (w.setCell ⟨Gb, r, none⟩ (.bool u)) B T (.slice (some ⟨Gb, 0, none⟩) N N) (bs.set r u) := by
  obtain ⟨hr, hbr⟩ := List.getElem?_eq_some_iff.1 hb
  have hth := h.there
  obtain ⟨g, off, cs, ha, hg, hra, his⟩ := h.lst.atN 1 rfl hr
  injection ha with ha
  injection ha with h1 h2 h3
  subst h1 h2
  obtain rfl : cs = [.bool bs[r]] := his
  have h4 := hra 0 _ rfl
  simp only [Nat.mul_one, Nat.zero_add, Nat.add_zero, hbr] at h4
  have hfr := (hth.1 r (by show r < N * 1; omega)).2
  rw [Nat.zero_add] at hfr
  refine ⟨h4, hfr, hth.2.2.1, fun u => ?_⟩
  obtain ⟨g, off, ha, _, _, _, ho⟩ := h.putN 1 rfl (i := r) hr (x := u) (cs := [.bool u]) rfl
  injection ha with ha
  injection ha with h1 h2 h3
  subst h1 h2
  rw [Nat.mul_one, Nat.zero_add] at ho
  exact ho
/-- What is still on its way, and what was seen. -/
structure Seen (N : Nat) (l : List Note) (bs : List Bool) : Prop where
  len : bs.length = N
  rd : ∀ x ∈ l, ∃ r : Nat, x.read = r ∧ r < N ∧ bs[r]? = some false
  nd : l.Pairwise fun x y => x.read ≠ y.read
theorem Seen.start {l : List Note} (h : InOrder l) : Seen l.length l (List.replicate l.length false) :=
  ⟨by simp, fun x hx => by
    obtain ⟨i, hi, rfl⟩ := List.getElem_of_mem hx
    exact ⟨i, h i hi, hi, by rw [List.getElem?_replicate, if_pos hi]⟩, List.pairwise_iff_getElem.2 fun i j hi hj hij => by rw [h i hi, h j hj]; omega⟩
theorem Seen.step {N : Nat} {l : List Note} {bs : List Bool} (h : Seen N l bs) {k : Nat} (hk : k < l.length) :
    ∃ r : Nat, l[k].read = r ∧ r < N ∧ bs[r]? = some false ∧ Seen N (l.take k ++ l.drop (k + 1)) (bs.set r true) := by
  obtain ⟨r, hr, hrN, hb⟩ := h.rd _ (List.getElem_mem hk)
  have hl : l = l.take k ++ l[k] :: l.drop (k + 1) := by simp
  have hp := h.nd
  rw [hl, List.pairwise_append, List.pairwise_cons] at hp
  obtain ⟨p1, ⟨p2, p3⟩, p4⟩ := hp
  refine ⟨r, hr, hrN, hb, by rw [List.length_set]; exact h.len, fun y hy => ?_, List.pairwise_append.2 ⟨p1, p3, fun a ha b hb' => p4 a ha b (List.mem_cons_of_mem _ hb')⟩⟩
  have hyl : y ∈ l := (List.mem_append.1 hy).elim List.mem_of_mem_take List.mem_of_mem_drop
  obtain ⟨q, hq, hqN, hqb⟩ := h.rd y hyl
  refine ⟨q, hq, hqN, ?_⟩
  have hne : r ≠ q := fun e => by
    subst e
    rcases List.mem_append.1 hy with h1 | h1
    · exact p4 y h1 l[k] List.mem_cons_self (by rw [hq, hr])
    · exact p2 y h1 (by rw [hq, hr])
  rw [List.getElem?_set_ne hne]
  exact hqb
def Ord3 (w : World) (D Cb Fb Gb N : Nat) (af : Option Addr) (cf : Nat) (gk : Nat) (v15 : Value) (W : World) : Prop :=
  ∃ (a : Option Addr) (c i : Nat) (l : List Note) (bs : List Bool), gk + i = N ∧ l.length = gk ∧ v15 = .int .i64 i ∧ St w [(Fb, [.slice af 0 cf]), (Cb, [.slice a l.length c])] W ∧ Dice W w.heap.size D ∧
    Lst W (fun b => b ≠ D ∧ b ≠ Cb ∧ b ≠ Fb ∧ b ≠ Gb) (.slice a l.length c) l ∧ SmallAll l ∧ Seen N l bs ∧ OwnT W Gb (fun _ => False) (.slice (some ⟨Gb, 0, none⟩) N N) bs
def two (n : Int) : List Note := [noteRead n, noteRead (n + 1)]
theorem two_small (n : Int) : SmallAll (two n) := fun x hx => by
  simp only [two, List.mem_cons, List.not_mem_nil, or_false] at hx
  rcases hx with rfl | rfl <;> exact noteRead_small _
theorem two_order {l : List Note} (h : InOrder l) : InOrder (l ++ two l.length) := fun i hi => by
  simp [two] at hi
  rcases Nat.lt_or_ge i l.length with hj | hj
  · rw [List.getElem_append_left hj]; exact h i hj
  · rcases Nat.lt_or_ge i (l.length + 1) with hk | hk
    · obtain rfl : i = l.length := by omega
      simp [two, noteRead]
    · obtain rfl : i = l.length + 1 := by omega
      simp [two, noteRead]
theorem SmallAll.append {l m : List Note} (h : SmallAll l) (k : SmallAll m) : SmallAll (l ++ m) := fun x hx => (List.mem_append.1 hx).elim (h x) (k x)
theorem two_lst (n : Int) (h0 : 0 ≤ n) (h1 : n ≤ 1000) (W : World) : Lst (W.alloc (.cells #[.int .i64 0, .int .i64 n, .int .i64 0, .int .i64 0, .int .i64 0, .slice none 0 0, .slice none 0 0, .int .i64 0, .int .i64 0, .int .i64 (n + 1), .int .i64 0, .int .i64 0, .int .i64 0, .slice none 0 0, .slice none 0 0, .int .i64 0] 36)) (fun _ => True) (.slice (some ⟨W.heap.size, 0, none⟩) 2 2) (two n) := by
  have hl : Chunks W (fun _ => False) ([.int .i64 0, .int .i64 n, .int .i64 0, .int .i64 0, .int .i64 0, .slice none 0 0, .slice none 0 0, .int .i64 0] ++ [.int .i64 0, .int .i64 (n + 1), .int .i64 0, .int .i64 0, .int .i64 0, .slice none 0 0, .slice none 0 0, .int .i64 0]) (two n) :=
    (Chunks.single (noteRead_is n (by unfold I64; omega) _ _)).append (Chunks.single (noteRead_is (n + 1) (by unfold I64; omega) _ _))
  exact (lst_new (t := 36) hl (n := 2) rfl (by decide)).more fun _ _ => trivial

theorem infoBool : (Try.prog.info? 4).map (fun i => (i.zero, i.size, i.bytes)) = some (some (.bool false), 1, 1) := by kernel_rfl

set_option maxRecDepth 4000 in
set_option maxHeartbeats 2000000 in
theorem order_walk (v : Value) (l0 : List UInt8) (S : Nat → Prop) (w : World) (h : Lst w S v l0) : Calls Try.prog 4 #[v] w (IsTrue w) := by
  go_enter Try.func4, Try.ntmps4
  go_wp2_with fail
  refine (sane_any _).mono ?_
  rintro e w1 ⟨rfl, hb1⟩
  have h1 := h.call hb1
  have HB1 := Lib.hid hb1
  clear h hb1
  go_wp2_with fail
  refine (plnew_any v l0 S w1 h1).mono ?_
  rintro e w2 ⟨D, rfl, hd2, hb2⟩
  have hS2 : St w1 [] w2 := (St.start w1).call hb2
  have hS3 := hS2.alloc [.slice none 0 0] 25
  have hpk := pick_any D 9 w1.heap.size _ (hd2.alloc (.cells #[.slice none 0 0] 25)) (by omega) (by omega)
  have hDlt := hd2.lt
  have HP := Lib.hid hpk
  have H3 := Lib.hid hS3
  clear h1 hd2 hb2 hS2 hS3 hpk
  go_wp2_with fail
  refine HP.out.mono ?_
  rintro e w4 ⟨x, rfl, ⟨x0, x1⟩, hd4, hg4⟩
  obtain ⟨n, rfl⟩ := Int.eq_ofNat_of_zero_le x0
  have h4 := H3.out.grown hg4 (by intro k hk; injection hk; omega) (by intro p hp; simp at hp; subst hp; intro e; injection e; simp at *; omega)
  have H4 := Lib.hid h4
  have HD4 := Lib.hid hd4
  clear hg4 hd4 h4 HP H3
  generalize hCb : w2.heap.size = Cb at *
  go_wp2_with fail
  go_loopg [5, 6] n (fun gk v5 v6 wr => Ord1 w1 D Cb gk v5 v6 wr)
  case atStart => exact ⟨none, 0, [], rfl, rfl, by simp; omega, H4.out, HD4.out, Lst.nil _ _ _ (Nat.zero_le _), (fun x hx => by cases hx), (fun i hi => by cases hi)⟩
  case round =>
    obtain ⟨a, c, l, rfl, rfl, hlen, hS, hD, hl, hsm, hor⟩ := hrel
    have hc := hS.loc
    simp only [Loc, Cel, zeroCells, Note.cells, upd, List.modify_succ_cons, List.modify_zero_cons, List.set_cons_zero, List.set_cons_succ, List.not_mem_nil, List.mem_cons, Nat.reduceAdd, Nat.zero_add, or_false, forall_eq_or_imp, forall_eq, false_implies, implies_true, and_true, true_and] at hc
    have HS := Lib.hid hS
    have HD := Lib.hid hD
    have HL := Lib.hid hl
    have HSM := Lib.hid hsm
    have HOR := Lib.hid hor
    by_cases hlt : 0 < gk
    · have hsend := chSend_yes (.slice a l.length c) _ l (two l.length) (fun _ => True) _ ((hl.more fun _ _ => trivial).alloc _) (two_lst l.length (by omega) (by omega) wr) hsm (two_small _) (by simp [two]; omega)
      have HSEND := Lib.hid hsend
      clear hS hD hl hsm hor hsend
      have hq : decide (0 < (gk : Int)) = true := decide_eq_true (by omega)
      go_wp2_with fail
      refine HSEND.out.mono ?_
      rintro e w5 ⟨v5, rfl, ho5, hb5⟩
      obtain ⟨a5, c5, rfl, _⟩ := ho5.form
      have hl5 : (l ++ two l.length).length = l.length + 2 := by simp [two]
      have hor5 := two_order HOR.out
      have hsm5 := HSM.out.append (two_small l.length)
      generalize hL' : l ++ two l.length = l5 at *
      have h5 := (HS.out.more (.cells #[.int .i64 0, .int .i64 l.length, .int .i64 0, .int .i64 0, .int .i64 0, .slice none 0 0, .slice none 0 0, .int .i64 0, .int .i64 0, .int .i64 (l.length + 1), .int .i64 0, .int .i64 0, .int .i64 0, .slice none 0 0, .slice none 0 0, .int .i64 0] 36)).call hb5
      have hd5 := (HD.out.alloc (.cells #[.int .i64 0, .int .i64 l.length, .int .i64 0, .int .i64 0, .int .i64 0, .slice none 0 0, .slice none 0 0, .int .i64 0, .int .i64 0, .int .i64 (l.length + 1), .int .i64 0, .int .i64 0, .int .i64 0, .slice none 0 0, .slice none 0 0, .int .i64 0] 36)).call hb5
      have hz5 := hb5.size
      simp only [World.size_alloc] at hz5
      have hlw := HD.out.lt
      have hlw2 := (HS.out.loc.get (j := 0) rfl).1
      have hll5 : Lst w5 (fun b => b ≠ D ∧ b ≠ Cb) (.slice a5 l5.length c5) l5 := ho5.lst' fun b hb h => by simp only [World.size_alloc] at h; omega
      have h6 := h5.alloc [.slice a5 l5.length c5] 25
      have hc := h6.loc
      simp only [Loc, Cel, zeroCells, Note.cells, upd, List.modify_succ_cons, List.modify_zero_cons, List.set_cons_zero, List.set_cons_succ, List.not_mem_nil, List.mem_cons, Nat.reduceAdd, Nat.zero_add, or_false, forall_eq_or_imp, forall_eq, false_implies, implies_true, and_true, true_and] at hc
      have H5 := Lib.hid h5
      have HD5 := Lib.hid hd5
      have HL5 := Lib.hid hll5
      have HE5 := Lib.hid hl5
      have HO5 := Lib.hid hor5
      have HM5 := Lib.hid hsm5
      clear ho5 hb5 h5 h6 hd5 hll5 hL' hl5 hor5 hsm5
      go_wp2_with fail
      go_roundg (gk - 1)
      case measure => omega
      case rel =>
        have hE5 := HE5.out
        refine ⟨a5, c5, l5, ?_, ?_, ?_, ?_, ?_, ?_, HM5.out, HO5.out⟩
        · go_num
        · rw [hE5]; rfl
        · have := HE5.out; omega
        · exact ((H5.out.set (j := 0) (i := 0) rfl (by simp) (.slice a5 l5.length c5)).alloc [.slice a5 l5.length c5] 25).tail
        · exact (HD5.out.far (p := ⟨Cb, 0, none⟩) (by show w1.heap.size ≤ Cb; omega) (by show Cb ≠ D; omega) _).alloc _
        · exact (HL5.out.far_cell (p := ⟨Cb, 0, none⟩) (by simp) _).alloc _
    · obtain rfl : gk = 0 := by omega
      have hq : decide (0 < ((0 : Nat) : Int)) = false := rfl
      clear hS hD hl hsm hor
      have hCw := (HS.out.loc.get (j := 0) rfl).1
      have hDw := HD.out.lt
      have h6 := HS.out.alloc [.slice a l.length c] 25
      have hd6 := HD.out.alloc (.cells #[.slice a l.length c] 25)
      have hl6 := HL.out.bound.alloc (.cells #[.slice a l.length c] 25)
      have H6 := Lib.hid h6
      have HD6 := Lib.hid hd6
      have HL6 := Lib.hid hl6
      clear h6 hd6 hl6
      go_wp2_with fail
      generalize hFb : wr.heap.size = Fb at *
      generalize hW6 : wr.alloc (.cells #[.slice a l.length c] 25) = w6 at *
      clear HS HD HL hc hW6
      go_loopg [10] l.length (fun gk v10 W => Ord2 w1 D Cb Fb a c l gk v10 W)
      case atStart => exact ⟨a, c, 0, l, rfl, rfl, rfl, H6.out, HD6.out, HL6.out.more fun b hb => ⟨hb.1.1, hb.1.2, by omega⟩, HL6.out.more fun b hb => ⟨hb.1.1, hb.1.2, by omega⟩⟩
      case round =>
        obtain ⟨af, cf, i, f, hgi, hfd, rfl, hS, hD, hl, hf⟩ := hrel
        have hc := hS.loc
        simp only [Loc, Cel, zeroCells, Note.cells, upd, List.modify_succ_cons, List.modify_zero_cons, List.set_cons_zero, List.set_cons_succ, List.not_mem_nil, List.mem_cons, Nat.reduceAdd, Nat.zero_add, or_false, forall_eq_or_imp, forall_eq, false_implies, implies_true, and_true, true_and] at hc
        have HS := Lib.hid hS
        have HD := Lib.hid hD
        have HL := Lib.hid hl
        have HF := Lib.hid hf
        by_cases hlt : i < l.length
        · obtain ⟨f1, x, hf1, hx, htake⟩ := take_first hf hfd hlt HSM.out (by omega)
          have hri : x.read = i := by rw [hx]; exact HOR.out i hlt
          have HT := Lib.hid htake
          have HR := Lib.hid hri
          have HF1 := Lib.hid hf1
          clear hS hD hl hf htake hri hfd hf1 hx
          have hq : decide (i < l.length) = true := decide_eq_true hlt
          go_wp2_with fail
          refine HT.out.mono ?_
          rintro e w7 ⟨v7, nv, rfl, ho7, ⟨aq, cq, av, cv, rfl, hq7, hv7⟩, hb7⟩
          obtain ⟨a7, c7, rfl, _⟩ := ho7.form
          have h7 := HS.out.call hb7
          have hd7 := HD.out.call hb7
          have hz7 := hb7.size
          have hc := h7.loc
          simp only [Loc, Cel, zeroCells, Note.cells, upd, List.modify_succ_cons, List.modify_zero_cons, List.set_cons_zero, List.set_cons_succ, List.not_mem_nil, List.mem_cons, Nat.reduceAdd, Nat.zero_add, or_false, forall_eq_or_imp, forall_eq, false_implies, implies_true, and_true, true_and] at hc
          have hri := HR.out
          have H7 := Lib.hid h7
          have HD7 := Lib.hid hd7
          have HL7 := Lib.hid (HL.out.call hb7)
          have HO7 := Lib.hid ho7
          clear ho7 hb7 h7 hd7 hq7 hv7
          go_wp2_with fail
          have hdw := HD.out.lt
          go_roundg (gk - 1)
          case measure => omega
          case rel =>
            refine ⟨a7, c7, i + 1, f1, by omega, HF1.out, rfl, ?_, ?_, ?_, ?_⟩
            · exact ((H7.out.set (j := 0) (i := 0) rfl (by simp) (.slice a7 f1.length c7)).more _).more _
            · exact ((HD7.out.far (p := ⟨Fb, 0, none⟩) (by show w1.heap.size ≤ Fb; omega) (by show Fb ≠ D; omega) _).alloc _).alloc _
            · exact ((HL7.out.far_cell (p := ⟨Fb, 0, none⟩) (by simp) _).alloc _).alloc _
            · have hfl : Lst w7 (fun b => b ≠ D ∧ b ≠ Cb ∧ b ≠ Fb) (.slice a7 f1.length c7) f1 := HO7.out.lst' fun b hb h => by omega
              exact ((hfl.far_cell (p := ⟨Fb, 0, none⟩) (by simp) _).alloc _).alloc _
        · obtain rfl : i = l.length := by omega
          have hf0 : f = [] := by rw [hfd]; simp
          subst hf0
          have hq : decide (l.length < l.length) = false := decide_eq_false (Nat.lt_irrefl _)
          clear hS hD hl hf hfd
          have hFw := (HS.out.loc.get (j := 0) rfl).1
          have hmk : ∀ w : World, (Instr.makeSlice 39 (.int .i64 (l.length : Int)) (.int .i64 (l.length : Int))).run Try.prog w = .ok (.slice (some ⟨w.heap.size, 0, none⟩) l.length l.length) (w.alloc (.cells (madeCells #[.bool false] (l.length * 1)) 4)) := by
            obtain ⟨i0, hi, hz0, hz1, hz2⟩ := info_parts infoBool
            exact run_make_cells (P := Try.prog) 39 4 i0 _ #[.bool false] 1 1 rfl hi hz0 rfl hz1 hz2 l.length (by omega) (by omega)
          go_wp2_with fail
          have hs8 := HS.out.more (.cells (madeCells #[.bool false] l.length) 4)
          have hd8 := HD.out.alloc (.cells (madeCells #[.bool false] l.length) 4)
          have hl8 := HL.out.bound.alloc (.cells (madeCells #[.bool false] l.length) 4)
          have hb8 : OwnT (wr.alloc (.cells (madeCells #[.bool false] l.length) 4)) wr.heap.size (fun _ => False) (.slice (some ⟨wr.heap.size, 0, none⟩) l.length l.length) (List.replicate l.length false) := by
            have := OwnT.made (α := Bool) (T := fun _ => False) (w := wr) (t := 4) (zs := [.bool false]) l.length (by unfold maxLen; omega) rfl (by decide)
            rw [show l.length * Rep.sz Bool = l.length from Nat.mul_one _] at this
            exact this
          have H8 := Lib.hid hs8
          have HD8 := Lib.hid hd8
          have HL8 := Lib.hid hl8
          have HB8 := Lib.hid hb8
          clear hs8 hd8 hl8 hb8 hc HL HD HS hmk
          generalize hGb : wr.heap.size = Gb at *
          generalize hW8 : wr.alloc (.cells (madeCells #[.bool false] l.length) 4) = w8 at *
          clear hW8 hGb
          go_loopg [15] l.length (fun gk v15 W => Ord3 w1 D Cb Fb Gb l.length af cf gk v15 W)
          case atStart => exact ⟨a, c, 0, l, _, rfl, rfl, rfl, H8.out, HD8.out, HL8.out.more fun b hb => ⟨hb.1.1, hb.1.2.1, hb.1.2.2, by omega⟩, HSM.out, Seen.start HOR.out, HB8.out⟩
          case round =>
            obtain ⟨a3, c3, j, m, bs, hgj, rfl, rfl, hS, hD, hl, hsm, hsn, hbs⟩ := hrel
            have hc := hS.loc
            simp only [Loc, Cel, zeroCells, Note.cells, upd, List.modify_succ_cons, List.modify_zero_cons, List.set_cons_zero, List.set_cons_succ, List.not_mem_nil, List.mem_cons, Nat.reduceAdd, Nat.zero_add, or_false, forall_eq_or_imp, forall_eq, false_implies, implies_true, and_true, true_and] at hc
            have HS := Lib.hid hS
            have HD := Lib.hid hD
            have HL := Lib.hid hl
            have HB := Lib.hid hbs
            by_cases hlt : j < l.length
            · have hq : decide (j < l.length) = true := decide_eq_true hlt
              have hpk := pick_any D m.length w1.heap.size _ hD (by omega) (by omega)
              have HP := Lib.hid hpk
              have HSN := Lib.hid hsn
              have HSM3 := Lib.hid hsm
              clear hS hD hl hbs hpk hsn hsm

              go_wp2_with fail
              refine HP.out.mono ?_
              rintro e w9 ⟨k, rfl, ⟨k0, k1⟩, hd9, hg9⟩
              obtain ⟨k, rfl⟩ := Int.eq_ofNat_of_zero_le k0
              have hk : k < m.length := by omega
              have h9 := HS.out.grown hg9 (by intro q hq; injection hq; omega) (by intro p hp; simp at hp; rcases hp with rfl | rfl <;> (intro e; injection e; omega))
              have hl9 := HL.out.grown hg9 (by intro q hq hS; injection hq; omega)
              have hb9 := HB.out.grown_far hg9 (.inl (own_ne (by omega))) (fun _ h => h.elim)
              have hc := h9.loc
              simp only [Loc, Cel, zeroCells, Note.cells, upd, List.modify_succ_cons, List.modify_zero_cons, List.set_cons_zero, List.set_cons_succ, List.not_mem_nil, List.mem_cons, Nat.reduceAdd, Nat.zero_add, or_false, forall_eq_or_imp, forall_eq, false_implies, implies_true, and_true, true_and] at hc
              obtain ⟨x, hx, hlook⟩ := chLook_yes _ m k _ _ hl9 hk HSM3.out
              obtain ⟨r, hr, hrN, hbr, hsn2⟩ := HSN.out.step hk
              have htk : ∀ W, Lst W (fun b => b ≠ D ∧ b ≠ Cb ∧ b ≠ Fb ∧ b ≠ Gb) (.slice a3 m.length c3) m → Calls Try.prog 12 #[.agg #[.slice a3 m.length c3], .int .i64 k] W (TakeP W (m.take k ++ m.drop (k + 1)) m[k] 0) := fun W h => chTake_yes _ m k _ W h hk HSM3.out (by omega)
              have hml : (m.take k ++ m.drop (k + 1)).length = m.length - 1 := by simp; omega
              have hxs : x.Small := by rw [hx]; exact HSM3.out _ (List.getElem_mem hk)
              rw [← hx] at htk hr
              clear hx
              generalize hm1 : m.take k ++ m.drop (k + 1) = m1 at *
              have hmr : r < l.length := hrN
              have HLK := Lib.hid hlook
              have HTK := Lib.hid htk
              have HR := Lib.hid hr
              have HSN2 := Lib.hid hsn2
              have HML := Lib.hid hml
              have HXS := Lib.hid hxs
              have HBR := Lib.hid hbr
              have HL9 := Lib.hid hl9
              have HB9 := Lib.hid hb9
              have H9 := Lib.hid h9
              have HD9 := Lib.hid hd9
              have HM1S : SmallAll m1 := fun y hy => HSM3.out y (by rw [← hm1] at hy; exact (List.mem_append.1 hy).elim List.mem_of_mem_take List.mem_of_mem_drop)
              have HM1 := Lib.hid HM1S
              clear HM1S hm1 hlook htk hr hsn2 hml hxs hbr hl9 hb9 h9 hd9 hg9 HS HD HL HB HP HSN
              go_wp2_with fail
              refine HLK.out.mono ?_
              rintro e w10 ⟨nv, rfl, ⟨aq, cq, av, cv, rfl, hq10, hv10⟩, hb10⟩
              have h10 := (H9.out.call hb10).alloc (x.cells (.slice aq x.query.length cq) (.slice av x.values.length cv)) 36
              have hl10 := HL9.out.call hb10
              have hd10 := HD9.out.call hb10
              have hbs10 := HB9.out.below hb10
              have hc := (H9.out.call hb10).loc
              simp only [Loc, Cel, zeroCells, Note.cells, upd, List.modify_succ_cons, List.modify_zero_cons, List.set_cons_zero, List.set_cons_succ, List.not_mem_nil, List.mem_cons, Nat.reduceAdd, Nat.zero_add, or_false, forall_eq_or_imp, forall_eq, false_implies, implies_true, and_true, true_and] at hc
              have H10 := Lib.hid h10
              have HL10 := Lib.hid hl10
              have HD10 := Lib.hid hd10
              have HB10 := Lib.hid hbs10
              have HQ10 := Lib.hid hq10
              have HV10 := Lib.hid hv10
              clear h10 hl10 hd10 hbs10 hq10 hv10 hb10 HL9 HD9 HB9 H9 HLK
              go_wp2_with fail
              refine (HTK.out _ (HL10.out.alloc _)).mono ?_
              rintro e w11 ⟨v11, nv2, rfl, ho11, ⟨aq2, cq2, av2, cv2, rfl, hq11, hv11⟩, hb11⟩
              obtain ⟨a11, c11, rfl, _⟩ := ho11.form
              have h11 := H10.out.call hb11
              have hc := h11.loc
              simp only [Loc, Cel, zeroCells, Note.cells, upd, List.modify_succ_cons, List.modify_zero_cons, List.set_cons_zero, List.set_cons_succ, List.not_mem_nil, List.mem_cons, Nat.reduceAdd, Nat.zero_add, or_false, forall_eq_or_imp, forall_eq, false_implies, implies_true, and_true, true_and] at hc
              have hd11 := (HD10.out.alloc (.cells (x.cells (.slice aq x.query.length cq) (.slice av x.values.length cv)).toArray 36)).call hb11
              have hbs11 := (HB10.out.alloc (.cells (x.cells (.slice aq x.query.length cq) (.slice av x.values.length cv)).toArray 36)).below hb11
              have hsame : ∀ W, Below w11.heap.size w11 W → Calls Try.prog 14 #[.agg #[.int .i64 x.kind, .int .i64 x.read, .int .i64 x.probe, .int .i64 x.server, .int .i64 x.version, .slice aq x.query.length cq, .slice av x.values.length cv, .int .i64 x.mark], .agg #[.int .i64 x.kind, .int .i64 x.read, .int .i64 x.probe, .int .i64 x.server, .int .i64 x.version, .slice aq2 x.query.length cq2, .slice av2 x.values.length cv2, .int .i64 x.mark]] W fun e w' => e = .returned (.bool true) ∧ Below W.heap.size W w' := fun W hW => by
                have e1 := ((((HQ10.out.alloc (.cells (x.cells (.slice aq x.query.length cq) (.slice av x.values.length cv)).toArray 36)).call hb11).call hW).more (S' := fun _ => True) fun _ _ => trivial)
                have e2 := ((((HV10.out.alloc (.cells (x.cells (.slice aq x.query.length cq) (.slice av x.values.length cv)).toArray 36)).call hb11).call hW).more (S' := fun _ => True) fun _ _ => trivial)
                have := chSameNote_any x x aq av aq2 av2 cq cv cq2 cv2 (fun _ => True) W e1 e2 ((hq11.call hW).more fun _ _ => trivial) ((hv11.call hW).more fun _ _ => trivial) HXS.out
                rw [eqN_self] at this
                exact this
              have hl11 : Lst w11 (fun b => b ≠ D ∧ b ≠ Cb ∧ b ≠ Fb ∧ b ≠ Gb) (.slice a11 m1.length c11) m1 := ho11.lst' fun b hb h => by simp only [World.size_alloc] at h; have := HB10.out.there; omega
              obtain ⟨hbc, hbf, hbl, hbo⟩ := bool_at hbs11 HBR.out
              have HBO := Lib.hid hbo
              have HD11 := Lib.hid hd11
              have HB11 := Lib.hid hbs11
              have H11 := Lib.hid h11
              have HL11 := Lib.hid hl11
              have HSA := Lib.hid hsame
              clear hd11 hbs11 h11 hl11 hsame hb11 ho11 hq11 hv11 hbo H10 HL10 HD10 HB10 HQ10 HV10 HTK
              go_wp2_with fail
              refine (HSA.out _ (((Below.refl w11.heap.size w11).alloc (Nat.le_refl _) _).alloc (by simp) _)).mono ?_
              rintro e w12 ⟨rfl, hb12⟩
              have h12 := ((H11.out.alloc [.slice a11 m1.length c11] 25).alloc (x.cells (.slice aq2 x.query.length cq2) (.slice av2 x.values.length cv2)) 36).call hb12
              have hd12 := ((HD11.out.alloc (.cells #[.slice a11 m1.length c11] 25)).alloc (.cells (x.cells (.slice aq2 x.query.length cq2) (.slice av2 x.values.length cv2)).toArray 36)).call hb12
              have hbs12 := ((HB11.out.alloc (.cells #[.slice a11 m1.length c11] 25)).alloc (.cells (x.cells (.slice aq2 x.query.length cq2) (.slice av2 x.values.length cv2)).toArray 36)).below hb12
              have hl12 := ((HL11.out.alloc (.cells #[.slice a11 m1.length c11] 25)).alloc (.cells (x.cells (.slice aq2 x.query.length cq2) (.slice av2 x.values.length cv2)).toArray 36)).call hb12
              have hbl11 := hbl
              clear hbc hbf hbl
              obtain ⟨hbc, hbf, hbl, hbo⟩ := bool_at hbs12 HBR.out
              have hc := h12.loc
              simp only [Loc, Cel, zeroCells, Note.cells, upd, List.modify_succ_cons, List.modify_zero_cons, List.set_cons_zero, List.set_cons_succ, List.not_mem_nil, List.mem_cons, Nat.reduceAdd, Nat.zero_add, or_false, forall_eq_or_imp, forall_eq, false_implies, implies_true, and_true, true_and, World.size_alloc] at hc
              have hri := HR.out
              have H12 := Lib.hid h12
              have HD12 := Lib.hid hd12
              have HL12 := Lib.hid hl12
              have HBO12 := Lib.hid hbo
              clear h12 hd12 hl12 hbs12 hbo hb12 H11 HD11 HL11 HB11 HBO HSA
              have hq2 : decide ((r : Int) < 0) = false := decide_eq_false (by omega)
              have hq3 : decide (l.length ≤ r) = false := decide_eq_false (by omega)
              have hg1 : Gb ≠ w11.heap.size := by omega
              have hg2 : Gb ≠ w11.heap.size + 1 := by omega
              have hg3 : Gb ≠ Cb := by omega
              have hg4 : Cb ≠ w11.heap.size := by omega
              go_wp2_with fail
              go_region
              go_wp2_with fail
              have hml := HML.out
              go_roundg (m.length - 1)
              case measure => omega
              case rel =>
                refine ⟨a11, c11, j + 1, m1, bs.set r true, by omega, by omega, rfl, ?_, ?_, ?_, HM1.out, HSN2.out, ?_⟩
                · exact ((H12.out.tail.tail.tail.far_cell (b := Gb) (by omega) (by intro p hp; simp at hp; rcases hp with rfl | rfl <;> (show _ ≠ Gb; simp; omega)) r (.bool true)).set (j := 1) (i := 0) rfl (by simp) (.slice a11 m1.length c11)).drew
                · exact ((HD12.out.far (p := ⟨Gb, r, none⟩) (by show w1.heap.size ≤ Gb; omega) (by show Gb ≠ D; omega) _).far (p := ⟨Cb, 0, none⟩) (by show w1.heap.size ≤ Cb; omega) (by show Cb ≠ D; omega) _).drew
                · exact ((HL12.out.far_cell (p := ⟨Gb, r, none⟩) (by simp) _).far_cell (p := ⟨Cb, 0, none⟩) (by simp) _).drew
                · exact ((HBO12.out true).far_lt (p := ⟨Cb, 0, none⟩) (by show Cb < Gb; omega) (by simp) _).drew
            · obtain rfl : j = l.length := by omega
              have hm0 : m = [] := List.eq_nil_of_length_eq_zero (by omega)
              subst hm0
              have hq : decide (l.length < l.length) = false := decide_eq_false (Nat.lt_irrefl _)
              clear hD hl hbs hsm hsn HD HL HB
              go_wp2_with fail
              go_ret
              exact ⟨rfl, HB1.out.trans (HS.out.below.mono HB1.out.size)⟩
end Go.Proofs.Ytihhncejiahdcab
