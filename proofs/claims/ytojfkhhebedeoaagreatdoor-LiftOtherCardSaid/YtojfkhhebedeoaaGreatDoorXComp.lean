/- A verified executor, part 4: from the loaded program's code to compact code. -/
import Derived.Test.YtojfkhhebedeoaaGreatDoorXDef
set_option linter.unusedVariables false
universe u v
namespace Go.X
noncomputable section

mutual
def ofV : Value → Option V
  | .bool b => some (.bool b)
  | .int k n => some (.int k n)
  | .string s => some (.str (s.data.toList.map (·.toNat)))
  | .pointer none => some .nilp
  | .slice none 0 0 => some .nils
  | .map none => some .nilmap
  | .nilFunc => some .nilfn
  | .nilIface => some .nili
  | .agg ⟨l⟩ => match ofVs l with | some l => some (.agg l) | none => none
  | .tuple ⟨l⟩ => match ofVs l with | some l => some (.tup l) | none => none
  | _ => none
def ofVs : List Value → Option (List V)
  | [] => some []
  | v :: l => match ofV v, ofVs l with
    | some a, some b => some (a :: b)
    | _, _ => none
end

/-- One after the other; none if one is none. -/
def allSome {α : Type u} {β : Type v} (f : α → Option β) : List α → Option (List β)
  | [] => some []
  | x :: l => match f x, allSome f l with
    | some a, some b => some (a :: b)
    | _, _ => none

/-- Does the operation compare two values of a struct type? -/
structure Cx where
  P : Program
  eqs : List Nat              -- struct types that may be compared field by field
  pathOf : Nat → Nat → Path
  glob : Nat → List V         -- what package variables hold, as far as it is known

/-- The loops over functions in a piece of code, in order. -/
def loopsOf : Code → List (Array Tmp × Code × Code)
  | .seq a b => loopsOf a ++ loopsOf b
  | .cond _ a b => loopsOf a ++ loopsOf b
  | .block _ a => loopsOf a
  | .loop a => loopsOf a
  | .scope a => loopsOf a
  | .rangeFunc _ ps a b => (ps, a, b) :: (loopsOf a ++ loopsOf b)
  | _ => []
def nLoops : Code → Nat
  | .seq a b => nLoops a + nLoops b
  | .cond _ a b => nLoops a + nLoops b
  | .block _ a => nLoops a
  | .loop a => nLoops a
  | .scope a => nLoops a
  | .rangeFunc _ _ a b => nLoops a + nLoops b + 1
  | _ => 0
/-- Loop j of function g: how many temporaries the function has, yield's parameters, the assignment, the body. -/
def rngOf (P : Program) (g j : Nat) : Option (Nat × Array Tmp × Code × Code) := match P.funcs[g]? with
  | some fn => match fn.body with
    | some b => match (loopsOf b)[j]? with
      | some x => some (fn.ntmps, x)
      | none => none
    | none => none
  | none => none

/-- The temporaries that code looks at; those that it sets. -/
def opTmps (l : List Operand) : List Nat := l.filterMap fun | .tmp t => some t | _ => none
def usesC : Code → List Nat
  | .seq a b => usesC a ++ usesC b
  | .cond x a b => opTmps [x] ++ (usesC a ++ usesC b)
  | .block _ a => usesC a
  | .loop a => usesC a
  | .scope a => usesC a
  | .rangeFunc f _ a b => opTmps [f] ++ (usesC a ++ usesC b)
  | .region _ ops _ => (ops.toList.map fun o => opTmps o.op.operands.toList).flatten
  | _ => []
def setsC : Code → List Nat
  | .seq a b => setsC a ++ setsC b
  | .cond _ a b => setsC a ++ setsC b
  | .block _ a => setsC a
  | .loop a => setsC a
  | .scope a => setsC a
  | .rangeFunc _ ps a b => ps.toList ++ (setsC a ++ setsC b)
  | .region _ ops _ => ops.toList.filterMap fun o => o.dst
  | _ => []
def hasN (l : List Nat) (t : Nat) : Bool := l.any (Nat.beq t)
def onceN : List Nat → List Nat
  | [] => []
  | t :: l => if hasN l t then onceN l else t :: onceN l
/-- What the rounds of a range over a function look at of what was there before. -/
def keepOf (ps : List Nat) (a b : Code) : List Nat := onceN ((usesC a ++ usesC b).filter fun t => !(hasN ps t || hasN (setsC a) t || hasN (setsC b) t))

section
variable (Γ : Cx) (w nt : Nat)

def cA : Operand → Option A
  | .tmp t => if t < lim w then some (.t (Γ.pathOf w t)) else none
  | .const v => match ofV v with | some v => some (.c v) | none => none
  | .func f => some (.c (.fn (.func f) [] []))
  | .global g => some (.c (.view (Γ.glob g)))
def cO : Option Operand → Option (Option A)
  | none => some none
  | some x => match cA Γ w x with | some a => some (some a) | none => none

def zeroL (t : Nat) : Option (List V) := match Γ.P.info? t with
  | some i => match i.zero with
    | some z => match ofV z with
      | some v => if v.cells.length = i.size then some v.cells else none
      | none => none
    | none => none
  | none => none
def sizeT (t : Nat) : Option Nat := match Γ.P.info? t with | some i => some i.size | none => none
def bytesT (t : Nat) : Option Nat := match Γ.P.info? t with | some i => some i.bytes | none => none
def isAggT (t : Nat) : Option Bool := match Γ.P.underlying t with
  | some (.struct _) => some true
  | some (.array _ _) => some true
  | some _ => some false
  | none => none

/-- Where the parts of a struct, an array lie: offset, size, operand. -/
def cParts (place : Nat → Option (Nat × Nat)) (ps : List (Nat × Operand)) : Option (List (Nat × Nat × A)) :=
  allSome (fun p => match place p.1, cA Γ w p.2 with
    | some (o, n), some a => some (o, n, a)
    | _, _ => none) ps
def structPlace (fs : Array Field) (i : Nat) : Option (Nat × Nat) := match fs[i]? with
  | some f => match sizeT Γ f.type with | some n => some (f.offset, n) | none => none
  | none => none
/-- Words alone, one cell each, in order: their kinds. -/
def flatK (fs : List Field) (i : Nat) : Option (List FK) := match fs with
  | [] => some []
  | f :: r => if f.offset = i ∧ f.name ≠ "_" then (match (match Γ.P.underlying f.type with
    | some .bool => some .b
    | some (.int _) => some .i
    | some .string => some .s
    | _ => none : Option FK), flatK r (i + 1) with
    | some k, some l => some (k :: l)
    | _, _ => none) else none

/-- Held against nil. -/
def cNil (d : TypeDesc) (y : A) : Option (Bool → A → I) := match d, y with
  | .pointer _, .c .nilp => some I.nilP
  | .interface _, .c .nili => some I.nilI
  | .slice _, .c .nils => some I.nilS
  | _, _ => none
/-- An address, held against itself. -/
def cSame (op : BinOp) (d : TypeDesc) (x y : A) : Option I := match d with
  | .pointer e => (match sizeT Γ e with
    | some _ => (match op with
      | .eql => some (I.sameP false x y)
      | .neq => some (I.sameP true x y)
      | _ => none)
    | none => none)
  | _ => none
def cBin (op : BinOp) (t : Nat) (x y : A) : Option I := match Γ.P.underlying t with
  | some (.struct fs) => if Γ.eqs.elem t then (match flatK Γ fs.toList 0 with
      | some ks => (match op with
        | .eql => some (I.eqs false ks x y)
        | .neq => some (I.eqs true ks x y)
        | _ => none)
      | none => none) else none
  | some .bool => some (I.binB op x y)
  | some (.int _) => some (I.bin op x y)
  | some .string => some (I.bin op x y)
  | some d => (match cNil d y with
    | some f => (match op with
      | .eql => some (f false x)
      | .neq => some (f true x)
      | _ => none)
    | none => cSame Γ op d x y)
  | none => none

def cSlice (t : Nat) (x : A) (lo hi : Option A) : Option I := match Γ.P.underlying t with
  | some .string => some (I.cutS lo hi x)
  | some (.slice e) => (match sizeT Γ e with | some n => if 1 ≤ n then some (I.cutL n lo hi x) else none | none => none)
  | some (.array n e) => (match sizeT Γ e with | some s => if 1 ≤ s then some (I.cutA n s lo hi x) else none | none => none)
  | _ => none

def cSliceM (t : Nat) (x : A) (lo hi mx : Option A) : Option I := match Γ.P.underlying t with
  | some (.slice e) => (match sizeT Γ e with | some n => if 1 ≤ n then some (I.cutM n lo hi mx x) else none | none => none)
  | _ => none
def cBuiltin (b : Builtin) (ts : List Nat) (xs : List A) : Option I := match b, ts, xs with
  | .len, [t], [x] => (match Γ.P.underlying t with
    | some (.slice _) => some (I.lenL x)
    | some .string => some (I.lenS x)
    | some (.array n _) => some (I.lenA n x)
    | _ => none)
  | .append, [t, u], [x, y] => (match Γ.P.underlying t, Γ.P.underlying u with
    | some (.slice e), some (.slice _) => (match sizeT Γ e, bytesT Γ e, zeroL Γ e with
      | some n, some m, some _ => if 1 ≤ n && 1 ≤ m then some (I.appendQ (Nat.succ e) n m x y) else none
      | _, _, _ => none)
    | some (.slice e), some .string => (match sizeT Γ e, bytesT Γ e, zeroL Γ e with
      | some n, some m, some _ => if 1 ≤ n && 1 ≤ m then some (I.appendQ (Nat.succ e) n m x y) else none
      | _, _, _ => none)
    | _, _ => none)
  | .max, [_, _], [x, y] => some (I.max x y)
  | .min, [_, _], [x, y] => some (I.min x y)
  | .unsafeSliceData, [_], [x] => some (I.sdata x)
  | .unsafeString, [t, _], [x, y] => (match Γ.P.underlying t with
    | some (.pointer e) => (match sizeT Γ e with | some n => if n = 1 then some (I.ustr (Nat.succ e) x y) else none | none => none)
    | _ => none)
  | .clear, [t], [x] => (match Γ.P.underlying t with
    | some (.slice e) => (match zeroL Γ e with | some z => some (I.clear z x) | none => none)
    | _ => none)
  | _, _, _ => none

def c1 (f : A → I) (x : Operand) : Option I := match cA Γ w x with | some a => some (f a) | none => none
def c2 (f : A → A → Option I) (x y : Operand) : Option I := match cA Γ w x, cA Γ w y with | some a, some b => f a b | _, _ => none
def c3 (f : A → A → A → Option I) (x y z : Operand) : Option I := match cA Γ w x, cA Γ w y, cA Γ w z with | some a, some b, some c => f a b c | _, _, _ => none

/-- internal/abi.NoEscape, that has no body. -/
def noEsc : Operand → Bool
  | .func g => (match Γ.P.funcs[g]? with
    | some fn => fn.body.isNone && fn.name == "internal/abi.NoEscape" && (fn.origin == "" || fn.origin == "internal/abi.NoEscape")
    | none => false)
  | _ => false

def cI0 (o : Oper) : Option I := match o.op with
  | .move x => c1 Γ w I.mov x
  | .assign x => c1 Γ w I.mov x
  | .pick c a b => c3 Γ w (fun c a b => some (I.pick c a b)) c a b
  | .alloc t => (match zeroL Γ t with | some z => if allOneB z then some (I.newT (Nat.succ t) z) else none | none => none)
  | .box _ x => c1 Γ w I.box x
  | .build t ps => (match Γ.P.underlying t, zeroL Γ t with
    | some (.struct fs), some z => if fs.toList.all (fun f => (sizeT Γ f.type).isSome) then (match cParts Γ w (structPlace Γ fs) ps.toList with | some l => some (I.build z l) | none => none) else none
    | some (.array _ e), some z => (match sizeT Γ e with
      | some n => (match cParts Γ w (fun i => some (i * n, n)) ps.toList with | some l => some (I.build z l) | none => none)
      | none => none)
    | _, _ => none)
  | .buildSlice t n ps => (match Γ.P.underlying t with
    | some (.slice e) => (match zeroL Γ e with
      | some z => if 1 ≤ z.length && n * z.length ≤ 65536 then (match cParts Γ w (fun i => some (i * z.length, z.length)) ps.toList with
        | some l => some (I.slit ((List.replicate n z).flatten) z.length n l)
        | none => none) else none
      | none => none)
    | _ => none)
  | .load t x => (match isAggT Γ t, sizeT Γ t with
    | some true, some n => c1 Γ w (I.loadN n) x
    | some false, some _ => c1 Γ w I.load1 x
    | _, _ => none)
  | .store t x y => (match isAggT Γ t, sizeT Γ t with
    | some true, some n => c2 Γ w (fun a b => some (I.storeN n a b)) x y
    | some false, some n => if n = 1 then c2 Γ w (fun a b => some (I.store1 a b)) x y else none
    | _, _ => none)
  | .nilCheck x => c1 Γ w I.nilck x
  | .binOp op t x y _ => c2 Γ w (cBin Γ op t) x y
  | .unOp op _ x => (match op with
    | .not => c1 Γ w I.not x
    | .neg => c1 Γ w I.neg x
    | _ => none)
  | .convert s d x => (match Γ.P.underlying s, Γ.P.underlying d with
    | some .string, some .string => c1 Γ w I.same x
    | some (.int _), some (.int k) => c1 Γ w (I.conv k) x
    | some (.pointer t), some .unsafePointer => (match sizeT Γ t with | some n => if 1 ≤ n then c1 Γ w I.toU x else none | none => none)
    | some .unsafePointer, some (.pointer u) => (match sizeT Γ u with | some n => if 1 ≤ n then c1 Γ w (I.ofU (Nat.succ u) n) x else none | none => none)
    | _, _ => none)
  | .makeInterface t x => (match Γ.P.underlying t with
    | some (.interface _) => none
    | some _ => c1 Γ w (I.iface t) x
    | none => none)
  | .makeFunc f a b => (match allSome (cA Γ w) a.toList, allSome (cA Γ w) b.toList with
    | some l, some m => some (I.fn f l m)
    | _, _ => none)
  | .makeMap _ none => some I.mkmap
  | .makeSlice t l c => (match Γ.P.underlying t with
    | some (.slice e) => (match zeroL Γ e, bytesT Γ e with
      | some z, some bytes => if 1 ≤ z.length && 1 ≤ bytes then c2 Γ w (fun a b => some (I.mkslice z z.length bytes a b)) l c else none
      | _, _ => none)
    | _ => none)
  | .slice t x lo hi none => (match cA Γ w x, cO Γ w lo, cO Γ w hi with
    | some x, some lo, some hi => cSlice Γ t x lo hi
    | _, _, _ => none)
  | .slice t x lo (some hi) (some mx) => (match cA Γ w x, cO Γ w lo, cA Γ w hi, cA Γ w mx with
    | some x, some lo, some hi, some mx => cSliceM Γ t x lo (some hi) (some mx)
    | _, _, _, _ => none)
  | .fieldAddr t x f => (match Γ.P.underlying t with
    | some (.struct fs) => (match structPlace Γ fs f with
      | some (d, n) => if 1 ≤ n then c1 Γ w (I.fld d) x else none
      | none => none)
    | _ => none)
  | .field t x f => (match Γ.P.underlying t with
    | some (.struct fs) => (match fs[f]? with
      | some fd => (match isAggT Γ fd.type, sizeT Γ fd.type with
        | some true, some n => c1 Γ w (I.partN fd.offset n) x
        | some false, some _ => c1 Γ w (I.part1 fd.offset) x
        | _, _ => none)
      | none => none)
    | _ => none)
  | .indexAddr t x i => (match Γ.P.underlying t with
    | some (.slice e) => (match sizeT Γ e with | some s => c2 Γ w (fun a b => some (I.idxL s a b)) x i | none => none)
    | some (.array n e) => (match sizeT Γ e with | some s => c2 Γ w (fun a b => some (I.idxA n s a b)) x i | none => none)
    | _ => none)
  | .index t x i => (match Γ.P.underlying t with
    | some .string => c2 Γ w (fun a b => some (I.byte a b)) x i
    | some (.array n e) => (match isAggT Γ e, sizeT Γ e with
      | some true, some s => c2 Γ w (fun a b => some (I.atN n s a b)) x i
      | some false, some s => if s = 1 then c2 Γ w (fun a b => some (I.at1 n a b)) x i else none
      | _, _ => none)
    | _ => none)
  | .lookup t m k ok => (match Γ.P.underlying t with
    | some (.map kt e) => (match Γ.P.underlying kt, Γ.P.info? e with
      | some (.int _), some i => (match i.zero with | some z => (match ofV z with | some z => c2 Γ w (fun a b => some (I.look false ok z a b)) m k | none => none) | none => none)
      | some .string, some i => (match i.zero with | some z => (match ofV z with | some z => c2 Γ w (fun a b => some (I.look true ok z a b)) m k | none => none) | none => none)
      | _, _ => none)
    | _ => none)
  | .insert t m k x => (match Γ.P.underlying t with
    | some (.map kt _) => (match Γ.P.underlying kt with
      | some (.int _) => c3 Γ w (fun a b c => some (I.insert false a b c)) m k x
      | some .string => c3 Γ w (fun a b c => some (I.insert true a b c)) m k x
      | _ => none)
    | _ => none)
  | .typeAssert x _ t ok => (match Γ.P.underlying t with
    | some (.interface _) => none
    | some _ => (match Γ.P.info? t with
      | some i => c1 Γ w (I.assert t ok (match i.zero with | some z => ofV z | none => none)) x
      | none => none)
    | none => none)
  | .extract x i => c1 Γ w (I.ext i) x
  | .call c => (match c.callee with
    | .builtin b => (match allSome (cA Γ w) c.args.toList with
      | some l => cBuiltin Γ b c.argTypes.toList l
      | none => none)
    | .value f => (match noEsc Γ f with
      | true => (match c.args.toList with
        | [x] => c1 Γ w I.mov x
        | _ => none)
      | false => (match cA Γ w f, allSome (cA Γ w) c.args.toList with
        | some f, some l => some (I.call f l)
        | _, _ => none))
    | .invoke _ _ => none)
  | _ => none
where
  allOneB : List V → Bool
    | [] => true
    | v :: l => (match v with | .agg _ => false | .tup _ => false | _ => true) && allOneB l

/-- What is not told stops. -/
def cI (o : Oper) : Option I := match cI0 Γ w o with
  | some i => some i
  | none => some I.stop

def cOper (ops : List Oper) (o : Oper) : Option Ins :=
  match (match o.dst with | none => some none | some d => if d < nt then some (some (Γ.pathOf w d)) else none : Option (Option Path)),
    (match o.guard with
      | none => some none
      | some (j, want) => (match ops[j]? with
        | some p => (match p.dst with
          | some d => if d < lim w then some (some (Γ.pathOf w d, want)) else none
          | none => none)
        | none => none) : Option (Option (Path × Bool))), cI Γ w o with
  | some d, some none, some i => some ⟨d, i⟩
  | some d, some (some g), some i => some ⟨d, I.when g.1 g.2 i⟩
  | _, _, _ => none

/-- May it touch a block? -/
def touches : Op → Bool
  | .alloc _ => true
  | .box _ _ => true
  | .buildSlice _ _ _ => true
  | .load _ _ => true
  | .store _ _ _ => true
  | .makeMap _ _ => true
  | .makeSlice _ _ _ => true
  | .lookup _ _ _ _ => true
  | .insert _ _ _ _ => true
  | .convert _ _ _ => true
  | .slice _ _ _ _ _ => true
  | .call c => (match c.callee with
    | .builtin .len => false
    | .builtin .max => false
    | .builtin .min => false
    | _ => true)
  | _ => false

/-- Of each operation, as bits, those that must come before it. -/
def ancOf (done : List Nat) (o : Oper) : Nat :=
  o.after.toList.foldl (fun s e => if Region.binds .any e then s ||| (1 <<< e.on) ||| (done.getD e.on 0) else s) 0
def ancs : List Oper → List Nat → List Nat
  | [], done => done
  | o :: r, done => ancs r (done ++ [ancOf done o])
def pairsFrom (ops : List Oper) (j : Nat) (anc : Nat) : List (Nat × Nat) :=
  (ops.zipIdx.filter fun (p, i) => decide (i < j) && touches p.op && !(anc.testBit i)).map fun (_, i) => (i, j)
def pairs (ops : List Oper) : List (Nat × Nat) :=
  let an := ancs ops []
  (ops.zipIdx.map fun (o, j) => if touches o.op then pairsFrom ops j (an.getD j 0) else []).flatten
/-- Every binding edge goes back; what two operations both name, if one of them writes it, is ordered. -/
def usesOf (ops : List Oper) (o : Oper) : List Nat :=
  (o.op.operands.toList.filterMap fun | .tmp t => some t | _ => none) ++ (match o.guard with
    | some (j, _) => (match ops[j]? with | some p => p.dst.toList | none => [])
    | none => [])
def drawOk (ops : List Oper) : Bool :=
  let an := ancs ops []
  (ops.zipIdx.all fun (o, i) => o.after.toList.all fun e => !(Region.binds .any e) || decide (e.on < i)) &&
  ops.zipIdx.all fun (o, i) => ops.zipIdx.all fun (p, j) => match p.dst with
    | some d => i == j || !((o.dst == some d) || (usesOf ops o).contains d) || (an.getD (Nat.max i j) 0).testBit (Nat.min i j)
    | none => true

def cC (g : Nat) : Nat → Code → Option C
  | _, .skip => some C.skip
  | _, .label _ => some C.skip
  | _, .region _ ops draw => (match allSome (cOper Γ w nt ops.toList) ops.toList with
    | some l => if draw then (if drawOk ops.toList then some (C.drw l (pairs ops.toList)) else some C.stop) else some (C.reg l)
    | none => none)
  | j, .seq a b => (match cC g j a, cC g (j + nLoops a) b with | some a, some b => some (C.seq a b) | _, _ => none)
  | j, .cond x a b => (match cA Γ w x, cC g j a, cC g (j + nLoops a) b with | some x, some a, some b => some (C.cond x a b) | _, _, _ => none)
  | j, .block id a => (match cC g j a with | some a => some (C.block id a) | none => none)
  | j, .loop a => (match cC g j a with | some a => some (C.loop a) | none => none)
  | _, .exit id => some (C.exit id)
  | _, .ret => some C.ret
  | j, .scope a => (match cC g j a with | some a => some a | none => none)
  | j, .rangeFunc f ps a b => (match cA Γ w f with | some f => if ps.toList.all (fun t => decide (t < nt)) then some (C.rangeF g j (keepOf ps.toList a b) f) else none | none => none)
  | _, _ => some C.stop

/-- The loops over functions, compact. -/
def cLs (g : Nat) : Nat → Code → Option (List RngC)
  | j, .seq a b => (match cLs g j a, cLs g (j + nLoops a) b with | some a, some b => some (a ++ b) | _, _ => none)
  | j, .cond _ a b => (match cLs g j a, cLs g (j + nLoops a) b with | some a, some b => some (a ++ b) | _, _ => none)
  | j, .block _ a => cLs g j a
  | j, .loop a => cLs g j a
  | j, .scope a => cLs g j a
  | j, .rangeFunc _ ps a b => (match cC Γ w nt g (j + 1) a, cC Γ w nt g (j + 1 + nLoops a) b, cLs g (j + 1) a, cLs g (j + 1 + nLoops a) b with
    | some ca, some cb, some la, some lb => if ps.toList.all (fun t => decide (t < nt)) then some (⟨ps.toList.map (Γ.pathOf w), ca, cb⟩ :: (la ++ lb)) else none
    | _, _, _, _ => none)
  | _, _ => some []

def cR : ResultVar → Option RC
  | .tmp t => if t < lim w then some (.t (Γ.pathOf w t)) else none
  | .cell a t => if a < lim w then (match isAggT Γ t, sizeT Γ t with
    | some true, some n => some (.cellN n (Γ.pathOf w a))
    | some false, some _ => some (.cell1 (Γ.pathOf w a))
    | _, _ => none) else none
end

/-- A function, compact. -/
def cF (Γ : Cx) (w g : Nat) (fn : Func) : Option FnC :=
  match fn.body with
  | some b => (match cC Γ w fn.ntmps g 0 b, allSome (cR Γ w) fn.results.toList, cLs Γ w fn.ntmps g 0 b with
    | some c, some r, some l => if fn.ntmps ≤ lim w && decide (fn.params.size + fn.nfree ≤ fn.ntmps) && fn.name != "runtime.NumGoroutine" then
        some ⟨(List.range (fn.params.size + fn.nfree)).map (Γ.pathOf w), c, r, l⟩ else none
    | _, _, _ => none)
  | none => none
end
end Go.X
