/- The operations on values without memory: of no program. Conditions: none. -/
import Derived.Test.YtabfajhflaladaaKSimA
namespace Go.Proofs.Ytabfajhflaladaa.Sim
open Go Go.RowKit Go.Deep
set_option linter.unusedVariables false

/-- An operand. -/
inductive AV where
  | t (n : Nat)
  | c (x : V)
/-- The kinds of operations. -/
inductive K where
  | mov | pick
  | alloc (z : List V)
  | box
  | build (z : List V) (fs : List (Nat × Nat))
  | bsl (k : Nat) (z : List V) (n : Nat) (fs : List Nat)
  | load (n : Nat) (g : Bool)
  | store (n : Nat)
  | nck
  | bin (op : BinOp)
  | beq (ne : Bool)
  | isn (ne : Bool)
  | seq (n : Nat) (ne : Bool)
  | un (op : UnOp)
  | conv (k : IntKind)
  | mkf (f : FuncId)
  | mks (k : Nat) (z : List V) (bytes : Nat)
  | slc (lo hi mx : Bool) (k : Nat)
  | fad (off : Nat)
  | fld (off n : Nat) (g : Bool)
  | iad (k : Nat)
  | iada (n k : Nat)
  | ixs
  | ixa (n k : Nat) (g : Bool)
  | ext (j : Nat)
  | call (f : FuncId)
  | callv
  | len
  | lens
  | app (k bytes : Nat)
  | cpy (k : Nat)
  | mn | mx
/-- An operation. -/
structure AO where
  dst : Option Nat
  k : K
  xs : List AV
  after : List Nat
  guard : Option (Nat × Nat × Bool)

/-! ### Out of the program's operations -/
section
variable (P : Program)
/-- A type's zero, cell by cell. -/
def zeroV : Nat → TypeId → Option (List V)
  | 0, _ => none
  | n + 1, t => match P.underlying t with
    | some (.int k) => some [.d (.at (.int k 0))]
    | some .bool => some [.d (.at (.bool false))]
    | some .string => some [.d (.at (.string ⟨#[]⟩))]
    | some (.slice e) => some [.nl (P.cellsOf e)]
    | some (.pointer _) => some [.d (.at (.pointer none))]
    | some (.func _ _ _) => some [.d (.at .nilFunc)]
    | some (.struct fs) => (fs.toList.mapM fun f => zeroV n f.type).map List.flatten
    | some (.array c e) => (zeroV n e).map fun z => (List.replicate c z).flatten
    | _ => none
/-- It is that value. -/
def zOk : V → Value → Bool
  | .d (.at (.int k n)), .int k' n' => k == k' && n == n'
  | .d (.at (.bool b)), .bool b' => b == b'
  | .d (.at (.string s)), .string s' => s.data == s'.data
  | .d (.at (.pointer none)), .pointer none => true
  | .d (.at .nilFunc), .nilFunc => true
  | .nl _, .slice none 0 0 => true
  | _, _ => false
def zOks : List V → List Value → Bool
  | [], [] => true
  | z :: zs, u :: us => zOk z u && zOks zs us
  | _, _ => false
def zcs (t : TypeId) : Option (List V) := match P.info? t, zeroV P 8 t with
  | some i, some z => match i.zero with
    | some v => if zOks z v.cells.toList && z.length == i.size then some z else none
    | none => none
  | _, _ => none
def cv (t : TypeId) : Value → Option V
  | .int k n => some (.d (.at (.int k n)))
  | .bool b => some (.d (.at (.bool b)))
  | .string s => some (.d (.at (.string s)))
  | .pointer none => some (.d (.at (.pointer none)))
  | .nilFunc => some (.d (.at .nilFunc))
  | .slice none 0 0 => match P.underlying t with
    | some (.slice e) => some (.nl (P.cellsOf e))
    | _ => some (.nl 1)
  | _ => none
def av (t : TypeId) : Operand → Option AV
  | .tmp n => some (.t n)
  | .const v => (cv P t v).map .c
  | .func f => some (.c (.cl f []))
  | .global _ => none
def avs : List TypeId → List Operand → Option (List AV)
  | _, [] => some []
  | ts, x :: xs => match av P (ts.headD 0) x, avs ts.tail xs with
    | some y, some ys => some (y :: ys)
    | _, _ => none
/-- A struct or an array? its cells. -/
def form (t : TypeId) : Option (Nat × Bool) := match P.info? t, P.underlying t with
  | some i, some d => if d.isRow || i.size == 1 then some (i.size, d.isRow) else none
  | _, _ => none
/-- A slice's elements: cells, bytes. -/
def elemOf' (t : TypeId) : Option (TypeId × Nat × Nat) := match P.underlying t with
  | some (.slice e) => match P.info? e with
    | some i => some (e, i.size, i.bytes)
    | none => none
  | _ => none
/-- Where the parts of a type lie. -/
def placeF (t : TypeId) : Option (Nat → Option (Nat × Nat)) := match P.info? t, P.underlying t with
  | some it, some (.array _ e) => (P.info? e).map fun ie => fun i => some (i * ie.size, ie.size)
  | some it, some (.struct fields) => match fields.toList.mapM (fun f => (P.info? f.type).map fun i => (f.offset, i.size)) with
    | some places => some (places.toArray[·]?)
    | none => none
  | _, _ => none
/-- The types of parts. -/
def partT (t : TypeId) (i : Nat) : TypeId := match P.underlying t with
  | some (.array _ e) => e
  | some (.struct fields) => ((fields[i]?).map (·.type)).getD 0
  | _ => 0
def offs (f : Nat → Option (Nat × Nat)) : List (Nat × Operand) → Option (List (Nat × Nat))
  | [] => some []
  | (i, _) :: r => match f i, offs f r with
    | some o, some os => some (o :: os)
    | _, _ => none
def op3 : List (Option Operand) → List Operand
  | [] => []
  | some x :: r => x :: op3 r
  | none :: r => op3 r

/-- Fields that are numbers, one behind the other. -/
def intFields : List Field → Nat → Bool
  | [], _ => true
  | f :: fs, off => f.offset == off && f.name != "_" && (match P.underlying f.type with
    | some (.int _) => true
    | _ => false) && intFields fs (off + 1)
/-- An array of slices, made with no room beside: it is a variable of slices. -/
def isBx (k : Nat) (z : List V) (l c : Operand) : Bool := match k, z, l, c with
  | 1, [.nl _], .tmp i, .tmp j => i == j
  | _, _, _, _ => false
/-- A list of slices that is written out, one of them as nil: it is a variable of slices. -/
def isNilO : Operand → Bool
  | .const (.slice none 0 0) => true
  | _ => false
def isLt (k : Nat) (z : List V) (n : Nat) (ps : List (Nat × Operand)) : Bool := match k, z with
  | 1, [.nl _] => (ps.map (·.1)) == List.range n && ps.any fun p => isNilO p.2
  | _, _ => false
def opK (o : Oper) : Option (K × List Operand × List TypeId) :=
  match o.op with
  | .move x => some (.mov, [x], [o.type])
  | .assign x => some (.mov, [x], [o.type])
  | .pick c a b => some (.pick, [c, a, b], [0, o.type, o.type])
  | .alloc t => (zcs P t).map fun z => (.alloc z, [], [])
  | .box t x => some (.box, [x], [t])
  | .build t ps => match placeF P t, zcs P t with
    | some f, some z => match offs f ps.toList with
      | some os => some (.build z os, ps.toList.map (·.2), ps.toList.map fun p => partT P t p.1)
      | none => none
    | _, _ => none
  | .buildSlice t n ps => match elemOf' P t with
    | some (e, k, _) => match zcs P e with
      | some z => if n * k ≤ 1000 ∧ 0 < k then (if isLt k z n ps.toList then some (.bsl 1 [] n (List.range n), ps.toList.map (·.2), ps.toList.map fun _ => e) else some (.bsl k z n (ps.toList.map (·.1)), ps.toList.map (·.2), ps.toList.map fun _ => e)) else none
      | none => none
    | none => none
  | .load t x => (form P t).map fun (n, g) => (.load n g, [x], [0])
  | .store t x y => (form P t).map fun (n, _) => (.store n, [x, y], [0, t])
  | .nilCheck x => some (.nck, [x], [0])
  | .binOp op t x y u => match P.underlying t, op with
    | some .bool, .eql => some (.beq false, [x, y], [t, u])
    | some .bool, .neq => some (.beq true, [x, y], [t, u])
    | some (.slice _), .eql => some (.isn false, [x, y], [t, u])
    | some (.slice _), .neq => some (.isn true, [x, y], [t, u])
    | some (.struct fs), .eql => if intFields P fs.toList 0 && !P.stoodInHeld t && !P.eqGuardType P.depth t then some (.seq fs.size false, [x, y], [t, u]) else none
    | some (.struct fs), .neq => if intFields P fs.toList 0 && !P.stoodInHeld t && !P.eqGuardType P.depth t then some (.seq fs.size true, [x, y], [t, u]) else none
    | _, _ => some (.bin op, [x, y], [t, u])
  | .unOp op t x => some (.un op, [x], [t])
  | .convert s t x => match P.underlying t with
    | some (.int k) => if (P.underlying s).isSome then some (.conv k, [x], [0]) else none
    | _ => none
  | .makeFunc (.func f) first cs => if first.size == 0 then some (.mkf f, cs.toList, []) else none
  | .makeSlice t l c => match elemOf' P t with
    | some (e, k, by_) => match zcs P e with
      | some z => if 0 < k then (if isBx k z l c then some (.mks 1 [] by_, [l, c], [0, 0]) else some (.mks k z by_, [l, c], [0, 0])) else none
      | none => none
    | none => none
  | .slice t x lo hi mx => match P.underlying t with
    | some .string => if mx.isNone then some (.slc lo.isSome hi.isSome false 0, op3 [some x, lo, hi], [t]) else none
    | some (.slice e) => match P.info? e with
      | some i => if 0 < i.size then some (.slc lo.isSome hi.isSome mx.isSome i.size, op3 [some x, lo, hi, mx], [t]) else none
      | none => none
    | _ => none
  | .fieldAddr t x j => match P.underlying t with
    | some (.struct fs) => match fs[j]? with
      | some f => match P.info? f.type with
        | some i => if 0 < i.size then some (.fad f.offset, [x], [0]) else none
        | none => none
      | none => none
    | _ => none
  | .field t x j => match P.underlying t with
    | some (.struct fs) => match fs[j]? with
      | some f => (form P f.type).map fun (n, g) => (.fld f.offset n g, [x], [0])
      | none => none
    | _ => none
  | .indexAddr t x y => match P.underlying t with
    | some (.slice e) => match P.info? e with
      | some i => if 0 < i.size then some (.iad i.size, [x, y], [t, 0]) else none
      | none => none
    | some (.array n e) => match P.info? e with
      | some i => if 0 < i.size then some (.iada n i.size, [x, y], [t, 0]) else none
      | none => none
    | _ => none
  | .index t x y => match P.underlying t with
    | some .string => some (.ixs, [x, y], [t, 0])
    | some (.array n e) => match form P e with
      | some (k, g) => some (.ixa n k g, [x, y], [t, 0])
      | none => none
    | _ => none
  | .extract x j => some (.ext j, [x], [0])
  | .call c => match c.callee with
    | .value (.func f) => match P.funcs[f]? with
      | some fn => if fn.body.isSome && !(fn.name == "runtime.NumGoroutine") then some (.call f, c.args.toList, c.argTypes.toList) else none
      | none => none
    | .value (.tmp t) => some (.callv, .tmp t :: c.args.toList, 0 :: c.argTypes.toList)
    | .builtin .len => match c.args.toList, c.argTypes.toList with
      | [x], [t] => match P.underlying t with
        | some .string => some (.lens, [x], [t])
        | some (.slice _) => some (.len, [x], [t])
        | _ => none
      | _, _ => none
    | .builtin .append => match c.args.toList, c.argTypes.toList with
      | [x, y], [t, tx] => match elemOf' P t, P.underlying tx with
        | some (e, k, by_), some (.slice _) => if (zcs P e).isSome then some (.app k by_, [x, y], [t, tx]) else none
        | _, _ => none
      | _, _ => none
    | .builtin .copy => match c.args.toList, c.argTypes.toList with
      | [x, y], [t, tx] => match elemOf' P t, P.underlying tx with
        | some (e, k, by_), some (.slice _) => if k = 1 then some (.cpy k, [x, y], [t, tx]) else none
        | _, _ => none
      | _, _ => none
    | .builtin .min => match c.args.toList with
      | [x, y] => some (.mn, [x, y], c.argTypes.toList)
      | _ => none
    | .builtin .max => match c.args.toList with
      | [x, y] => some (.mx, [x, y], c.argTypes.toList)
      | _ => none
    | _ => none
  | _ => none
/-- The operations that must have come before. -/
def befores (o : Oper) : List Nat := o.after.toList.filterMap fun e => if Region.binds .any e then some e.on else none
def dstOK (N : Nat) : Option Nat → Bool
  | some d => decide (d < N)
  | none => true
def opA (N : Nat) (ops : Array Oper) (o : Oper) : Option AO := match opK P o with
  | some (k, xs, ts) => match avs P ts xs with
    | some ys => if dstOK N o.dst = true then (match o.guard with
      | none => some ⟨o.dst, k, ys, befores o, none⟩
      | some (j, b) => match (ops[j]?).bind (·.dst) with
        | some d => some ⟨o.dst, k, ys, befores o, some (j, d, b)⟩
        | none => none) else none
    | none => none
  | none => none
def opAs (N : Nat) (ops : Array Oper) : List Oper → Option (List AO)
  | [] => some []
  | o :: r => match opA P N ops o, opAs N ops r with
    | some y, some ys => some (y :: ys)
    | _, _ => none
end
/-- A region that clears the rest of a slice, from a number on: the slots of both, three slots that it sets, an element's zero. -/
structure Clr where
  sl : Nat
  il : Nat
  d1 : Nat
  d2 : Nat
  d3 : Nat
  k : Nat
  z : List V
def clrOf (P : Program) (N : Nat) : Bool → List Oper → Option Clr
  | false, [⟨some d1, .move (.tmp sl), _, _, _, none⟩, ⟨some d2, .move (.tmp il), _, _, _, none⟩, ⟨some d3, .slice t (.tmp x) (some (.tmp y)) none none, _, _, _, none⟩, ⟨none, .call c, _, _, _, none⟩] =>
    match c.callee, c.args.toList, c.argTypes.toList, elemOf' P t with
    | .builtin .clear, [.tmp u], [t'], some (e, k, _) => match zcs P e with
      | some z => if x = d1 ∧ y = d2 ∧ u = d3 ∧ t' = t ∧ d1 ≠ d2 ∧ il ≠ d1 ∧ d1 < N ∧ d2 < N ∧ d3 < N ∧ 0 < k then some ⟨sl, il, d1, d2, d3, k, z⟩ else none
      | none => none
    | _, _, _, _ => none
  | _, _ => none
/-- Code. -/
inductive AC where
  | skip
  | clr (c : Clr)
  | region (ops : List AO) (draw : Bool)
  | seq (a b : AC)
  | cond (c : AV) (a b : AC)
  | block (id : Nat) (a : AC)
  | loop (a : AC)
  | exit (id : Nat)
  | ret
def compile (P : Program) (N : Nat) : Code → Option AC
  | .skip => some .skip
  | .region _ ops draw => match clrOf P N draw ops.toList with
    | some c => some (.clr c)
    | none => (opAs P N ops ops.toList).map fun l => .region l draw
  | .seq a b => match compile P N a, compile P N b with
    | some x, some y => some (.seq x y)
    | _, _ => none
  | .cond c a b => match av P 0 c, compile P N a, compile P N b with
    | some c, some x, some y => some (.cond c x y)
    | _, _, _ => none
  | .block id a => (compile P N a).map (.block id)
  | .loop a => (compile P N a).map .loop
  | .exit id => some (.exit id)
  | .ret => some .ret
  | _ => none
end Go.Proofs.Ytabfajhflaladaa.Sim
