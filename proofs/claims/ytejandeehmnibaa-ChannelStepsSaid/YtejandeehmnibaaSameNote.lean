/- Equality of notes, in the program and in the reference. -/
import Derived.Test.YtejandeehmnibaaSend
namespace Go.Proofs.Ytejandeehmnibaa
open Go Go.RowKit Go.Deep
set_option linter.unusedVariables false
set_option linter.unusedSimpArgs false

/-- Equality of notes, as a name that the walk does not open. -/
def eqN (x y : Note) : Bool := decide (x = y)
theorem eqN_true {x y : Note} (h1 : x.kind = y.kind) (h2 : x.read = y.read) (h3 : x.probe = y.probe) (h4 : x.server = y.server) (h5 : x.version = y.version) (h6 : x.query = y.query) (h7 : x.values = y.values) (h8 : x.mark = y.mark) : eqN x y = true := by
  obtain ⟨_, _, _, _, _, _, _, _⟩ := x
  obtain ⟨_, _, _, _, _, _, _, _⟩ := y
  exact decide_eq_true (by simp_all)
theorem eqN_self (x : Note) : eqN x x = true := decide_eq_true rfl
theorem eqN_false {x y : Note} (h : x ≠ y) : eqN x y = false := decide_eq_false h

theorem equal_at {v u : Value} {l m : List Int} {S : Nat → Prop} {w : World} (h : Lst w S v l) (k : Lst w S u m) (hl : l.length ≤ 1000000) :
    ∀ W, Below w.heap.size w W → Calls Try.prog 28 #[v, u] W fun e w' => e = .returned (.bool (eqL l m)) ∧ ∃ n, w' = W.drewN n :=
  fun W hW => equal_any v u l m S W (h.call hW) (k.call hW) hl

set_option maxHeartbeats 1000000 in
theorem chSameNote_any (x y : Note) (a a2 b b2 : Option Addr) (c c2 d d2 : Nat) (S : Nat → Prop) (w : World) (hq : Lst w S (.slice a x.query.length c) x.query) (hv : Lst w S (.slice a2 x.values.length c2) x.values) (kq : Lst w S (.slice b y.query.length d) y.query) (kv : Lst w S (.slice b2 y.values.length d2) y.values) (hs : x.Small) :
    Calls Try.prog 10 #[.agg #[.int .i64 x.kind, .int .i64 x.read, .int .i64 x.probe, .int .i64 x.server, .int .i64 x.version, .slice a x.query.length c, .slice a2 x.values.length c2, .int .i64 x.mark], .agg #[.int .i64 y.kind, .int .i64 y.read, .int .i64 y.probe, .int .i64 y.server, .int .i64 y.version, .slice b y.query.length d, .slice b2 y.values.length d2, .int .i64 y.mark]] w fun e w' => e = .returned (.bool (eqN x y)) ∧ Below w.heap.size w w' := by
  have h1 := equal_at hq kq hs.1
  have h2 := equal_at hv kv hs.2
  have hb := ((Below.refl w.heap.size w).alloc (Nat.le_refl _) (.cells #[.int .i64 x.kind, .int .i64 x.read, .int .i64 x.probe, .int .i64 x.server, .int .i64 x.version, .slice a x.query.length c, .slice a2 x.values.length c2, .int .i64 x.mark] 34)).alloc (by simp) (.cells #[.int .i64 y.kind, .int .i64 y.read, .int .i64 y.probe, .int .i64 y.server, .int .i64 y.version, .slice b y.query.length d, .slice b2 y.values.length d2, .int .i64 y.mark] 34)
  have HB := Lib.hid hb
  clear hq hv kq kv hs hb
  by_cases ekind : x.kind = y.kind
  · have tkind : (x.kind == y.kind) = true := beq_iff_eq.2 ekind
    have Ekind := Lib.hid ekind
    clear ekind
    by_cases eread : x.read = y.read
    · have tread : (x.read == y.read) = true := beq_iff_eq.2 eread
      have Eread := Lib.hid eread
      clear eread
      by_cases eprobe : x.probe = y.probe
      · have tprobe : (x.probe == y.probe) = true := beq_iff_eq.2 eprobe
        have Eprobe := Lib.hid eprobe
        clear eprobe
        by_cases eserver : x.server = y.server
        · have tserver : (x.server == y.server) = true := beq_iff_eq.2 eserver
          have Eserver := Lib.hid eserver
          clear eserver
          by_cases eversion : x.version = y.version
          · have tversion : (x.version == y.version) = true := beq_iff_eq.2 eversion
            have Eversion := Lib.hid eversion
            clear eversion
            by_cases emark : x.mark = y.mark
            · have tmark : (x.mark == y.mark) = true := beq_iff_eq.2 emark
              have Emark := Lib.hid emark
              clear emark
              by_cases eq : x.query = y.query
              · rw [eqL_true eq] at h1
                by_cases ev : x.values = y.values
                · rw [eqL_true ev] at h2
                  have hr : eqN x y = true := eqN_true Ekind.out Eread.out Eprobe.out Eserver.out Eversion.out eq ev Emark.out
                  rw [hr]
                  have h1 := Lib.hid h1
                  have h2 := Lib.hid h2
                  clear eq ev hr
                  go_enter Try.func10, Try.ntmps10
                  go_wp2_with (first | (go_at_call_of 28 (Value.slice a x.query.length c); refine (h1.out _ HB.out).mono ?_; rintro e w1 ⟨rfl, n1, rfl⟩) | (go_at_call_of 28 (Value.slice a2 x.values.length c2); refine (h2.out _ (below_drewN HB.out n1)).mono ?_; rintro e w2 ⟨rfl, n2, rfl⟩))
                  go_ret
                  exact ⟨rfl, below_drewN HB.out _⟩
                · rw [eqL_false ev] at h2
                  have hr : eqN x y = false := eqN_false fun h => ev (by rw [h])
                  rw [hr]
                  have h1 := Lib.hid h1
                  have h2 := Lib.hid h2
                  clear eq ev hr
                  go_enter Try.func10, Try.ntmps10
                  go_wp2_with (first | (go_at_call_of 28 (Value.slice a x.query.length c); refine (h1.out _ HB.out).mono ?_; rintro e w1 ⟨rfl, n1, rfl⟩) | (go_at_call_of 28 (Value.slice a2 x.values.length c2); refine (h2.out _ (below_drewN HB.out n1)).mono ?_; rintro e w2 ⟨rfl, n2, rfl⟩))
                  go_ret
                  exact ⟨rfl, below_drewN HB.out _⟩
              · rw [eqL_false eq] at h1
                have hr : eqN x y = false := eqN_false fun h => eq (by rw [h])
                rw [hr]
                have h1 := Lib.hid h1
                have h2 := Lib.hid h2
                clear eq hr
                go_enter Try.func10, Try.ntmps10
                go_wp2_with (first | (go_at_call_of 28 (Value.slice a x.query.length c); refine (h1.out _ HB.out).mono ?_; rintro e w1 ⟨rfl, n1, rfl⟩))
                go_ret
                exact ⟨rfl, below_drewN HB.out _⟩
            · have tmark : (x.mark == y.mark) = false := beq_eq_false_iff_ne.2 emark
              have hr : eqN x y = false := eqN_false fun h => emark (by rw [h])
              rw [hr]
              have h1 := Lib.hid h1
              have h2 := Lib.hid h2
              clear emark hr
              go_enter Try.func10, Try.ntmps10
              go_wp2_with fail
              go_ret
              exact ⟨rfl, HB.out⟩
          · have tversion : (x.version == y.version) = false := beq_eq_false_iff_ne.2 eversion
            have hr : eqN x y = false := eqN_false fun h => eversion (by rw [h])
            rw [hr]
            have h1 := Lib.hid h1
            have h2 := Lib.hid h2
            clear eversion hr
            go_enter Try.func10, Try.ntmps10
            go_wp2_with fail
            go_ret
            exact ⟨rfl, HB.out⟩
        · have tserver : (x.server == y.server) = false := beq_eq_false_iff_ne.2 eserver
          have hr : eqN x y = false := eqN_false fun h => eserver (by rw [h])
          rw [hr]
          have h1 := Lib.hid h1
          have h2 := Lib.hid h2
          clear eserver hr
          go_enter Try.func10, Try.ntmps10
          go_wp2_with fail
          go_ret
          exact ⟨rfl, HB.out⟩
      · have tprobe : (x.probe == y.probe) = false := beq_eq_false_iff_ne.2 eprobe
        have hr : eqN x y = false := eqN_false fun h => eprobe (by rw [h])
        rw [hr]
        have h1 := Lib.hid h1
        have h2 := Lib.hid h2
        clear eprobe hr
        go_enter Try.func10, Try.ntmps10
        go_wp2_with fail
        go_ret
        exact ⟨rfl, HB.out⟩
    · have tread : (x.read == y.read) = false := beq_eq_false_iff_ne.2 eread
      have hr : eqN x y = false := eqN_false fun h => eread (by rw [h])
      rw [hr]
      have h1 := Lib.hid h1
      have h2 := Lib.hid h2
      clear eread hr
      go_enter Try.func10, Try.ntmps10
      go_wp2_with fail
      go_ret
      exact ⟨rfl, HB.out⟩
  · have tkind : (x.kind == y.kind) = false := beq_eq_false_iff_ne.2 ekind
    have hr : eqN x y = false := eqN_false fun h => ekind (by rw [h])
    rw [hr]
    have h1 := Lib.hid h1
    have h2 := Lib.hid h2
    clear ekind hr
    go_enter Try.func10, Try.ntmps10
    go_wp2_with fail
    go_ret
    exact ⟨rfl, HB.out⟩
end Go.Proofs.Ytejandeehmnibaa
