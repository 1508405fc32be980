/- What each operation does with values without memory: of no program. Conditions: none. -/
import Derived.Test.YtabfajhflaladaaKSimB
namespace Go.Proofs.Ytabfajhflaladaa.Sim
open Go Go.RowKit Go.Deep
set_option linter.unusedVariables false

abbrev U := List (Nat × O)
def up {α : Type} (f : Nat → α) (i : Nat) (x : α) : Nat → α := fun j => if j = i then x else f j
def ups : M → U → M
  | m, [] => m
  | m, (i, o) :: r => ups (up m i (some o)) r
def V.cells : V → List V
  | .ag l => l
  | x => [x]
/-- A value of cells that are known. -/
def V.good : V → Bool
  | .un => false
  | .tu _ => false
  | _ => true
def V.mk : Bool → List V → V
  | true, l => .ag l
  | false, l => l.headD .un
def V.notOg (i : Nat) : V → Bool
  | .og j _ => j != i
  | _ => true
def nv (m : M) (d : Nat) : Nat := match m d with
  | some o => o.ver + 1
  | none => 0
/-- Cells written over cells. -/
def splice {α : Type} (l : List α) (o : Nat) (c : List α) : List α := l.take o ++ (c ++ l.drop (o + c.length))
def fillV : List V → List (Nat × Nat) → List V → List V
  | z, (o, _) :: fs, x :: r => fillV (splice z o x.cells) fs r
  | z, _, _ => z
def fitB (n : Nat) : List (Nat × Nat) → List V → Bool
  | [], [] => true
  | (o, s) :: fs, x :: xs => x.good && x.cells.length == s && decide (o + s ≤ n) && fitB n fs xs
  | _, _ => false
/-- A cell as data. -/
def dcell (m : M) : V → Option D
  | .d x => some x
  | .nl k => some (.sl k [])
  | .og i v => match m i with
    | some (.arr v' k mu l) => if v' = v then some (.sl k l) else none
    | _ => none
  | _ => none
def dcells (m : M) : List V → Option (List D)
  | [] => some []
  | x :: l => match dcell m x, dcells m l with
    | some y, some ys => some (y :: ys)
    | _, _ => none
/-- What is data from now on is written no more. -/
def frz (m : M) : List V → U
  | [] => []
  | .og i v :: l => match m i with
    | some (.arr v' k mu l') => (i, .arr v' k false l') :: frz m l
    | _ => frz m l
  | _ :: l => frz m l
def zD (z : List V) : List D := z.map fun x => match x with
  | .d y => y
  | .nl k => .sl k []
  | _ => .at .nilFunc
def B (b : Bool) : V := .d (.at (.bool b))
def I (n : Int) : V := .d (.at (.int .i64 n))

def semMov : List V → Option (V × U)
  | [x] => some (x, [])
  | _ => none
def semPick : List V → Option (V × U)
  | [.d (.at (.bool c)), a, b] => some (match c with | true => a | false => b, [])
  | _ => none
def semBox (d : Nat) (m : M) : List V → Option (V × U)
  | [x] => if x.good = true then some (.bp d (nv m d) 0, [(d, .box (nv m d) x.cells)]) else none
  | _ => none
def semBuild (z : List V) (fs : List (Nat × Nat)) (xs : List V) : Option (V × U) :=
  if fitB z.length fs xs = true then some (.ag (fillV z fs xs), []) else none
def fillD (m : M) (k : Nat) : List (List D) → List (Nat × V) → Option (List (List D))
  | l, [] => some l
  | l, (i, x) :: r => match dcells m x.cells with
    | some c => if x.good = true ∧ c.length = k ∧ i < l.length then fillD m k (l.set i c) r else none
    | none => none
/-- A slice, or another value of one cell. -/
def V.lone : V → Bool
  | .d _ => true
  | .nl _ => true
  | .og _ _ => true
  | _ => false
def semBsl (k : Nat) (z : List V) (n : Nat) (fs : List Nat) (d : Nat) (m : M) (xs : List V) : Option (V × U) :=
  match z with
  | [] => if xs.all V.lone = true ∧ xs.length = n then some (.ep d (nv m d) n 1, [(d, .box (nv m d) xs)]) else none
  | y :: r => match fillD m k (List.replicate n (zD (y :: r))) (fs.zip xs) with
    | some l => some (.og d (nv m d), frz m (xs.flatMap V.cells) ++ [(d, .arr (nv m d) k true l)])
    | none => none
def semLoad (n : Nat) (g : Bool) (m : M) : List V → Option (V × U)
  | [.bp i v o] => match m i with
    | some (.box v' cs) => if v' = v ∧ o + n ≤ cs.length then some (V.mk g ((cs.drop o).take n), []) else none
    | _ => none
  | [.fp cs o] => if o + n ≤ cs.length then some (V.mk g (((cs.drop o).take n).map .d), []) else none
  | [.ep i v e o] => match m i with
    | some (.arr v' k mu l) => if v' = v ∧ e < l.length ∧ o + n ≤ k then some (V.mk g ((((l.getD e []).drop o).take n).map .d), []) else none
    | _ => none
  | _ => none
def semStore (n : Nat) (m : M) : List V → Option (V × U)
  | [.bp i v o, x] => match m i with
    | some (.box v' cs) => if v' = v ∧ x.good = true ∧ x.cells.length = n ∧ o + n ≤ cs.length then some (.un, [(i, .box v (splice cs o x.cells))]) else none
    | _ => none
  | [.ep i v e o, x] => match m i, dcells m x.cells with
    | some (.arr v' k true l), some c => if v' = v ∧ x.good = true ∧ x.cells.all (V.notOg i) = true ∧ c.length = n ∧ e < l.length ∧ o + n ≤ k then
        some (.un, frz m x.cells ++ [(i, .arr v k true (l.set e (splice (l.getD e []) o c)))]) else none
    | _, _ => none
  | _ => none
/-- It is known where it lies. -/
def curB (m : M) (i v : Nat) : Bool := match m i with
  | some (.box v' _) => v' == v
  | _ => false
def curA (m : M) (i v : Nat) : Bool := match m i with
  | some (.arr v' _ _ _) => v' == v
  | _ => false
def semNck (m : M) : List V → Option (V × U)
  | [.bp i v o] => if curB m i v = true then some (.bp i v o, []) else none
  | [.ep i v e o] => if curA m i v = true then some (.ep i v e o, []) else none
  | [.fp cs o] => some (.fp cs o, [])
  | _ => none
def eqCells : List V → List V → Option Bool
  | [], [] => some true
  | .d (.at (.int k a)) :: l, .d (.at (.int k' b)) :: r => match eqCells l r with
    | some t => if k = k' then some (a == b && t) else none
    | none => none
  | _, _ => none
def semInt (k : IntKind) (op : BinOp) (a b : Int) : Option V :=
  match op with
  | .add => some (.d (.at (.int k (k.wrap (a + b)))))
  | .sub => some (.d (.at (.int k (k.wrap (a - b)))))
  | .mul => some (.d (.at (.int k (k.wrap (a * b)))))
  | .quo => some (.d (.at (.int k (k.wrap (a.tdiv b)))))
  | .rem => some (.d (.at (.int k (a.tmod b))))
  | .eql => some (B (a == b))
  | .neq => some (B (a != b))
  | .lss => some (B (decide (a < b)))
  | .leq => some (B (decide (a ≤ b)))
  | .gtr => some (B (decide (a > b)))
  | .geq => some (B (decide (a ≥ b)))
  | _ => none
def semStr (op : BinOp) (a b : ByteArray) : Option V :=
  match op with
  | .add => some (.d (.at (.string (a ++ b))))
  | .eql => some (B (a.toList == b.toList))
  | .neq => some (B (!(a.toList == b.toList)))
  | .lss => some (B (Op.bytesLess a.toList b.toList))
  | .leq => some (B (Op.bytesLess a.toList b.toList || a.toList == b.toList))
  | .gtr => some (B (!(Op.bytesLess a.toList b.toList || a.toList == b.toList)))
  | .geq => some (B (!(Op.bytesLess a.toList b.toList)))
  | _ => none
def semBin (op : BinOp) : List V → Option (V × U)
  | [.d (.at (.int k a)), .d (.at (.int k' b))] => if k = k' then (semInt k op a b).map fun v => (v, []) else none
  | [.d (.at (.string a)), .d (.at (.string b))] => (semStr op a b).map fun v => (v, [])
  | _ => none
def semBeq (ne : Bool) : List V → Option (V × U)
  | [.d (.at (.bool a)), .d (.at (.bool b))] => match ne with
    | true => some (B (a != b), [])
    | false => some (B (a == b), [])
  | _ => none
/-- Is a slice nil? Where it is empty: who knows. -/
def nilB (ne : Bool) : List (List D) → V
  | [] => .ub
  | _ :: _ => B ne
def semIsn (ne : Bool) (m : M) : List V → Option (V × U)
  | [.d (.sl _ l), .nl _] => some (nilB ne l, [])
  | [.nl _, .nl _] => some (B (!ne), [])
  | [.og i v, .nl _] => match m i with
    | some (.arr v' _ _ l) => if v' = v then some (nilB ne l, []) else none
    | _ => none
  | _ => none
def semSeq (n : Nat) (ne : Bool) : List V → Option (V × U)
  | [.ag l, .ag r] => match eqCells l r with
    | some t => if l.length = n then (match ne with
      | true => some (B (!t), [])
      | false => some (B t, [])) else none
    | none => none
  | _ => none
def semUn (op : UnOp) : List V → Option (V × U)
  | [.d (.at (.bool a))] => match op with
    | .not => some (B (!a), [])
    | _ => none
  | [.d (.at (.int k a))] => match op with
    | .neg => some (.d (.at (.int k (k.wrap (0 - a)))), [])
    | _ => none
  | _ => none
def semConv (k : IntKind) : List V → Option (V × U)
  | [.d (.at (.int _ a))] => some (.d (.at (.int k (k.wrap a))), [])
  | _ => none
def semMks (k : Nat) (z : List V) (d : Nat) (m : M) : List V → Option (V × U)
  | [.d (.at (.int k1 n)), .d (.at (.int k2 c))] => match z with
    | [] => some (.ep d (nv m d) n.toNat 1, [(d, .box (nv m d) (List.replicate n.toNat (.nl 1)))])
    | y :: r => some (.og d (nv m d), [(d, .arr (nv m d) k true (List.replicate n.toNat (zD (y :: r))))])
  | _ => none
/-- The bounds of a slice expression. -/
def bnd (x : V) : Option Int := match x with
  | .d (.at (.int _ n)) => some n
  | _ => none
def bnds (lo hi mx : Bool) (xs : List V) : Option (Option Int × Option Int × Option Int) :=
  match lo, hi, mx, xs with
  | true, false, false, [a] => (bnd a).map fun n => (some n, none, none)
  | false, true, false, [b] => (bnd b).map fun n => (none, some n, none)
  | true, true, false, [a, b] => match bnd a, bnd b with
    | some n, some c => some (some n, some c, none)
    | _, _ => none
  | false, true, true, [b, c] => match bnd b, bnd c with
    | some n, some c => some (none, some n, some c)
    | _, _ => none
  | true, true, true, [a, b, c] => match bnd a, bnd b, bnd c with
    | some x, some y, some z => some (some x, some y, some z)
    | _, _, _ => none
  | _, _, _, _ => none
/-- As numbers of elements. -/
def bl (b : Option Int × Option Int × Option Int) : Nat := (b.1.getD 0).toNat
def bh (b : Option Int × Option Int × Option Int) (n : Nat) : Nat := match b.2.1 with
  | some x => x.toNat
  | none => n
def isZ (b : Option Int × Option Int × Option Int) : Bool := match b with
  | (none, some x, some y) => x == 0 && y == 0
  | _ => false
def semSlc (lo hi mx : Bool) (k : Nat) (m : M) : List V → Option (V × U)
  | .d (.at (.string s)) :: r => match bnds lo hi mx r with
    | some b => if k = 0 then some (.d (.at (.string (s.extract (bl b) (bh b s.size)))), []) else none
    | none => none
  | .d (.sl k' l) :: r => match bnds lo hi mx r with
    | some b => if k' = k ∧ 0 < k then (match isZ b with
      | true => some (.z0, [])
      | false => some (.d (.sl k ((l.take (bh b l.length)).drop (bl b))), [])) else none
    | none => none
  | .og i v :: r => match bnds lo hi mx r, m i with
    | some b, some (.arr v' k' mu l) => if v' = v ∧ k' = k ∧ 0 < k then (match isZ b, lo, mx, mu with
      | true, _, _, _ => some (.z0, [])
      | false, false, false, true => some (.og i (v + 1), [(i, .arr (v + 1) k true (l.take (bh b l.length)))])
      | false, _, _, _ => some (.d (.sl k ((l.take (bh b l.length)).drop (bl b))), [(i, .arr v k false l)])) else none
    | _, _ => none
  | _ => none
def semFad (off : Nat) (m : M) : List V → Option (V × U)
  | [.bp i v o] => if curB m i v = true then some (.bp i v (o + off), []) else none
  | [.ep i v e o] => if curA m i v = true then some (.ep i v e (o + off), []) else none
  | [.fp cs o] => some (.fp cs (o + off), [])
  | _ => none
def semFld (off n : Nat) (g : Bool) : List V → Option (V × U)
  | [.ag l] => if off + n ≤ l.length then some (V.mk g ((l.drop off).take n), []) else none
  | _ => none
def semIad (k : Nat) (m : M) : List V → Option (V × U)
  | [.d (.sl k' l), .d (.at (.int _ n))] => if k' = k then some (.fp (l.getD n.toNat []) 0, []) else none
  | [.og i v, .d (.at (.int _ n))] => some (.ep i v n.toNat 0, [])
  | [.ep i v e o, .d (.at (.int _ n))] => if curB m i v = true ∧ k = 1 then some (.bp i v n.toNat, []) else none
  | _ => none
def semIada (c k : Nat) (m : M) : List V → Option (V × U)
  | [.bp i v o, .d (.at (.int _ n))] => if curB m i v = true then some (.bp i v (o + n.toNat * k), []) else none
  | _ => none
def semIxs : List V → Option (V × U)
  | [.d (.at (.string s)), .d (.at (.int _ n))] => some (.d (.at (.int .u8 ((s.data.toList.getD n.toNat 0).toNat : Int))), [])
  | _ => none
def semIxa (c k : Nat) (g : Bool) : List V → Option (V × U)
  | [.ag l, .d (.at (.int _ n))] => if l.length = c * k then some (V.mk g ((l.drop (n.toNat * k)).take k), []) else none
  | _ => none
def semExt (j : Nat) : List V → Option (V × U)
  | [.tu l] => if j < l.length then some (l.getD j .un, []) else none
  | _ => none
def semLen (m : M) : List V → Option (V × U)
  | [.d (.sl _ l)] => some (I l.length, [])
  | [.nl _] => some (I 0, [])
  | [.og i v] => match m i with
    | some (.arr v' k mu l) => if v' = v then some (I l.length, []) else none
    | _ => none
  | [.ep i v e o] => if curB m i v = true then some (I e, []) else none
  | _ => none
def semLens : List V → Option (V × U)
  | [.d (.at (.string s))] => some (I s.size, [])
  | _ => none
/-- What is appended. -/
def news (k : Nat) (m : M) : V → Option (List (List D))
  | .d (.sl k' l) => if k' = k then some l else none
  | .nl _ => some []
  | .og i v => match m i with
    | some (.arr v' k' mu l) => if v' = v ∧ k' = k then some l else none
    | _ => none
  | _ => none
/-- Cells that are data. -/
def dall : List V → Option (List D)
  | [] => some []
  | .d x :: r => match dall r with
    | some ds => some (x :: ds)
    | none => none
  | _ :: _ => none
def semApp (k : Nat) (d : Nat) (m : M) : List V → Option (V × U)
  | [.og i v, y] => match m i, news k m y with
    | some (.arr v' k' true l), some ns => if v' = v ∧ k' = k ∧ y.notOg i = true then some (.og i (v + 1), [(i, .arr (v + 1) k true (l ++ ns))]) else none
    | _, _ => none
  | [.nl _, y] => match news k m y with
    | some ns => some (.og d (nv m d), [(d, .arr (nv m d) k true ns)])
    | none => none
  | [.z0, y] => match news k m y with
    | some ns => some (.og d (nv m d), [(d, .arr (nv m d) k true ns)])
    | none => none
  | [.ep i v e o, y] => match m i, news k m y with
    | some (.box v' cs), some ns => match dall cs with
      | some ds => if v' = v ∧ k = 1 ∧ e = cs.length ∧ 0 < ns.length then some (.og d (nv m d), [(d, .arr (nv m d) 1 true (ds.map (fun x => [x]) ++ ns))]) else none
      | none => none
    | _, _ => none
  | _ => none
def semCpy (k : Nat) (m : M) : List V → Option (V × U)
  | [.og i v, y] => match m i, news k m y with
    | some (.arr v' k' true l), some ns => if v' = v ∧ k' = k ∧ y.notOg i = true then
        some (I (min ns.length l.length : Nat), [(i, .arr v k true (ns.take l.length ++ l.drop ns.length))]) else none
    | _, _ => none
  | _ => none
def semMn : List V → Option (V × U)
  | [.d (.at (.int k a)), .d (.at (.int k' b))] => some (.d (.at (.int k (min a b))), [])
  | _ => none
def semMx : List V → Option (V × U)
  | [.d (.at (.int k a)), .d (.at (.int k' b))] => some (.d (.at (.int k (max a b))), [])
  | _ => none

def sem (k : K) (d : Nat) (m : M) (xs : List V) : Option (V × U) :=
  match k with
  | .mov => semMov xs
  | .pick => semPick xs
  | .alloc z => some (.bp d (nv m d) 0, [(d, .box (nv m d) z)])
  | .box => semBox d m xs
  | .build z fs => semBuild z fs xs
  | .bsl k z n fs => semBsl k z n fs d m xs
  | .load n g => semLoad n g m xs
  | .store n => semStore n m xs
  | .nck => semNck m xs
  | .bin op => semBin op xs
  | .beq ne => semBeq ne xs
  | .isn ne => semIsn ne m xs
  | .seq n ne => semSeq n ne xs
  | .un op => semUn op xs
  | .conv k => semConv k xs
  | .mkf f => some (.cl f xs, [])
  | .mks k z _ => semMks k z d m xs
  | .slc lo hi mx k => semSlc lo hi mx k m xs
  | .fad o => semFad o m xs
  | .fld o n g => semFld o n g xs
  | .iad k => semIad k m xs
  | .iada c k => semIada c k m xs
  | .ixs => semIxs xs
  | .ixa c k g => semIxa c k g xs
  | .ext j => semExt j xs
  | .len => semLen m xs
  | .lens => semLens xs
  | .app k _ => semApp k d m xs
  | .cpy k => semCpy k m xs
  | .mn => semMn xs
  | .mx => semMx xs
  | _ => none

/-- What must hold besides. -/
def preBin (op : BinOp) : List V → Prop
  | [.d (.at (.int k a)), .d (.at (.int k' b))] => match op with
    | .quo => b ≠ 0
    | .rem => b ≠ 0
    | _ => True
  | [.d (.at (.string a)), .d (.at (.string b))] => match op with
    | .add => a.size + b.size ≤ 9223372036854775807
    | _ => True
  | _ => True
def preMks (bytes : Nat) : List V → Prop
  | [.d (.at (.int k1 n)), .d (.at (.int k2 c))] => k1 = .i64 ∧ k2 = .i64 ∧ 0 ≤ n ∧ n ≤ c ∧ c * bytes ≤ 140737488355328 ∧ c ≤ 140737488355328
  | _ => False
/-- The bounds are in order. -/
def okB (b : Option Int × Option Int × Option Int) (n : Nat) : Prop :=
  match b with
  | (some x, none, none) => 0 ≤ x ∧ x ≤ n
  | (none, some y, none) => 0 ≤ y ∧ y ≤ n
  | (some x, some y, none) => 0 ≤ x ∧ x ≤ y ∧ y ≤ n
  | (none, some y, some z) => 0 ≤ y ∧ y ≤ z ∧ z ≤ n
  | (some x, some y, some z) => 0 ≤ x ∧ x ≤ y ∧ y ≤ z ∧ z ≤ n
  | _ => False
def preSlc (lo hi mx : Bool) (m : M) : List V → Prop
  | .d (.at (.string s)) :: r => match bnds lo hi mx r with
    | some b => okB b s.size
    | none => False
  | .d (.sl _ l) :: r => match bnds lo hi mx r with
    | some b => okB b l.length
    | none => False
  | .og i v :: r => match bnds lo hi mx r, m i with
    | some b, some (.arr v' k' mu l) => okB b l.length
    | _, _ => False
  | _ => False
def preIad (k0 : Nat) (m : M) : List V → Prop
  | [.d (.sl k' l), .d (.at (.int _ n))] => 0 ≤ n ∧ n.toNat < l.length
  | [.og i v, .d (.at (.int _ n))] => match m i with
    | some (.arr v' k mu l) => v' = v ∧ k = k0 ∧ 0 ≤ n ∧ n.toNat < l.length
    | _ => False
  | [.ep i v e o, .d (.at (.int _ n))] => 0 ≤ n ∧ n.toNat < e
  | _ => False
def preIada (c : Nat) : List V → Prop
  | [.bp i v o, .d (.at (.int _ n))] => 0 ≤ n ∧ n.toNat < c
  | _ => False
def preIxs : List V → Prop
  | [.d (.at (.string s)), .d (.at (.int _ n))] => 0 ≤ n ∧ n.toNat < s.data.toList.length
  | _ => False
def preIxa (c : Nat) : List V → Prop
  | [.ag l, .d (.at (.int _ n))] => 0 ≤ n ∧ n.toNat < c
  | _ => False
def preApp (k bytes : Nat) (m : M) : List V → Prop
  | [.og i v, y] => match m i, news k m y with
    | some (.arr v' k' mu l), some ns => (l.length + ns.length) * bytes ≤ 140737488355328 ∧ l.length + ns.length ≤ 140737488355328
    | _, _ => False
  | [.ep i v e o, y] => match news k m y with
    | some ns => (e + ns.length) * bytes ≤ 140737488355328 ∧ e + ns.length ≤ 140737488355328
    | none => False
  | [_, y] => match news k m y with
    | some ns => ns.length * bytes ≤ 140737488355328 ∧ ns.length ≤ 140737488355328
    | none => False
  | _ => False
def pre (k : K) (m : M) (xs : List V) : Prop :=
  match k with
  | .bin op => preBin op xs
  | .mks _ _ b => preMks b xs
  | .slc lo hi mx _ => preSlc lo hi mx m xs
  | .iad k => preIad k m xs
  | .iada c _ => preIada c xs
  | .ixs => preIxs xs
  | .ixa c _ _ => preIxa c xs
  | .app k b => preApp k b m xs
  | _ => True
end Go.Proofs.Ytabfajhflaladaa.Sim
