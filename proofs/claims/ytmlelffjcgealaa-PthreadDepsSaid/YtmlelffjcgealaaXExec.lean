/- A verified executor, part 3: compact code, and the executor. -/
import Derived.Test.YtmlelffjcgealaaXMem
set_option linter.unusedVariables false
namespace Go.X
noncomputable section

abbrev Tm := Tp V

def V.cells : V → List V
  | .agg l => l
  | v => [v]
/-- May it lie in one cell? -/
def V.one : V → Bool
  | .agg _ => false
  | .tup _ => false
  | _ => true
def allOne : List V → Bool := List.rec true (fun v _ ih => Bool.rec false ih v.one)

/-- An operand. -/
inductive A where
  | t (p : Path)
  | c (v : V)

def evK {R : Type} (tm : Tm) (K : V → Option R) (a : A) : Option R := A.rec (fun p => Tp.getK K p tm) (fun v => K v) a
def evsK {R : Type} (tm : Tm) (l : List A) : (List V → Option R) → Option R := List.rec (fun K => K []) (fun a _ ih K => evK tm (fun v => ih fun vs => K (v :: vs)) a) l

/-- What is called; what operators come to of which only the names are known. -/
structure CallF where
  call : Nat → List V → Kal V
  ask : BinOp → V → V → Option V
/-- An instruction. -/
abbrev I := CallF → Tm → Kal V

/-! numbers -/
def wrap64s (n : Int) : Int :=
  match Int.emod n 18446744073709551616 with
  | .ofNat m => Bool.rec (Int.ofNat m) (Int.negSucc (Nat.sub 18446744073709551615 m)) (Nat.ble 9223372036854775808 m)
  | x => x
def wrap64 (n : Int) : Int :=
  match n with
  | .ofNat m => Bool.rec (wrap64s (Int.ofNat m)) (Int.ofNat m) (Nat.ble m 9223372036854775807)
  | .negSucc m => Bool.rec (wrap64s (Int.negSucc m)) (Int.negSucc m) (Nat.ble m 9223372036854775807)
def wrapK (k : IntKind) (n : Int) : Option Int := match k with
  | .i64 => some (wrap64 n)
  | .u64 => some (Int.emod n 18446744073709551616)
  | .u32 => some (Int.emod n 4294967296)
  | .u8 => some (Int.emod n 256)
  | _ => none
def ieq (a b : Int) : Bool := match a, b with
  | .ofNat m, .ofNat n => Nat.beq m n
  | .negSucc m, .negSucc n => Nat.beq m n
  | _, _ => false
def ilt (a b : Int) : Bool := match a, b with
  | .ofNat m, .ofNat n => Nat.ble (Nat.succ m) n
  | .negSucc m, .negSucc n => Nat.ble (Nat.succ n) m
  | .negSucc _, .ofNat _ => true
  | .ofNat _, .negSucc _ => false
def sEq (a : List Nat) : List Nat → Bool := List.rec (fun b => List.rec true (fun _ _ _ => false) b) (fun x _ ih b => List.rec false (fun y b _ => Bool.rec false (ih b) (Nat.beq x y)) b) a
def sLt (a : List Nat) : List Nat → Bool := List.rec (fun b => List.rec false (fun _ _ _ => true) b)
  (fun x _ ih b => List.rec false (fun y b _ => Bool.rec (Bool.rec false (ih b) (Nat.beq x y)) true (Nat.ble (Nat.succ x) y)) b) a
def intV (k : IntKind) (n : Int) : Option V := match wrapK k n with
  | some m => some (.int k m)
  | none => none
def kindEq : IntKind → IntKind → Bool
  | .i64, .i64 => true
  | .u8, .u8 => true
  | .u64, .u64 => true
  | .u32, .u32 => true
  | .i32, .i32 => true
  | _, _ => false
def bitsV (k : IntKind) (f : Nat → Nat → Nat) (a b : Int) : Option V := match a, b with
  | .ofNat x, .ofNat y => (match k with
    | .i64 => Bool.rec none (Bool.rec none (some (.int k (Int.ofNat (f x y)))) (Nat.ble y 9223372036854775807)) (Nat.ble x 9223372036854775807)
    | .u64 => Bool.rec none (Bool.rec none (some (.int k (Int.ofNat (f x y)))) (Nat.ble y 18446744073709551615)) (Nat.ble x 18446744073709551615)
    | .u32 => Bool.rec none (Bool.rec none (some (.int k (Int.ofNat (f x y)))) (Nat.ble y 4294967295)) (Nat.ble x 4294967295)
    | .u8 => Bool.rec none (Bool.rec none (some (.int k (Int.ofNat (f x y)))) (Nat.ble y 255)) (Nat.ble x 255)
    | _ => none)
  | _, _ => none
def arith (op : BinOp) (k : IntKind) (a b : Int) : Option V := match op with
  | .add => intV k (Int.add a b)
  | .sub => intV k (Int.sub a b)
  | .mul => intV k (Int.mul a b)
  | .eql => some (.bool (ieq a b))
  | .neq => some (.bool (Bool.not (ieq a b)))
  | .lss => some (.bool (ilt a b))
  | .gtr => some (.bool (ilt b a))
  | .leq => some (.bool (Bool.not (ilt b a)))
  | .geq => some (.bool (Bool.not (ilt a b)))
  | .rem => Bool.rec (some (.int k (Int.tmod a b))) none (ieq b 0)
  | .quo => Bool.rec (intV k (Int.tdiv a b)) none (ieq b 0)
  | .and => bitsV k Nat.land a b
  | .or => bitsV k Nat.lor a b
  | .xor => bitsV k Nat.xor a b
  | _ => none
def bitsOf : IntKind → Nat
  | .i64 => 64
  | .u64 => 64
  | .u32 => 32
  | .u8 => 8
  | _ => 0
def shift (op : BinOp) (k : IntKind) (a : Int) (b : Int) : Option V := match b with
  | .ofNat n => Bool.rec none (match op with
    | .shl => intV k (Int.mul a (Int.ofNat (Nat.pow 2 n)))
    | .shr => (match a with | .ofNat x => some (.int k (Int.ofNat (Nat.div x (Nat.pow 2 n)))) | _ => none)
    | _ => none) (Nat.ble n (bitsOf k))
  | _ => none
def binV (op : BinOp) (x y : V) : Option V := match x, y with
  | .int k a, .int k' b => (match op with
    | .shl => shift .shl k a b
    | .shr => shift .shr k a b
    | op => Bool.rec none (arith op k a b) (kindEq k k'))
  | .str a, .str b => (match op with
    | .add => Bool.rec none (some (.str (a ++ b))) (Nat.ble (Nat.add a.length b.length) 1073741824)
    | .eql => some (.bool (sEq a b))
    | .neq => some (.bool (Bool.not (sEq a b)))
    | .lss => some (.bool (sLt a b))
    | _ => none)
  | _, _ => none
def boolV (op : BinOp) (a b : Bool) : Option V := match op with
    | .eql => some (.bool (Bool.rec (Bool.not b) b a))
    | .neq => some (.bool (Bool.rec b (Bool.not b) a))
    | _ => none
/-- A field's kind: a whole number, a bool, a text. -/
inductive FK where
  | i
  | b
  | s
def eq1 (k : FK) (x y : V) : Option Bool := match k with
  | .i => (match x, y with | .int j a, .int j' b => Bool.rec none (some (ieq a b)) (kindEq j j') | _, _ => none)
  | .b => (match x, y with | .bool a, .bool b => some (Bool.rec (Bool.not b) b a) | _, _ => none)
  | .s => (match x, y with | .str a, .str b => some (sEq a b) | _, _ => none)
/-- Words, held against each other one by one. -/
def flatEq (ks : List FK) : List V → List V → Option Bool := List.rec (fun a b => List.rec (List.rec (some true) (fun _ _ _ => none) b) (fun _ _ _ => none) a)
  (fun k _ ih a b => List.rec none (fun x a _ => List.rec none (fun y b _ => Option.rec none (fun r => Bool.rec (some false) (ih a b) r) (eq1 k x y)) b) a) ks

/-! memory -/
def nthK {R : Type} (K : V → Option R) (l : List V) : Nat → Option R := List.rec (fun _ => none) (fun x _ ih n => Nat.rec (K x) (fun m _ => ih m) n) l
def dropN (l : List V) : Nat → List V := List.rec (fun _ => []) (fun x l ih n => Nat.rec (x :: l) (fun m _ => ih m) n) l
/-- The first n, if there are so many. -/
def takeK {R : Type} (n : Nat) : List V → (List V → Option R) → Option R := Nat.rec (fun _ K => K []) (fun _ ih l K => List.rec none (fun x l _ => ih l fun r => K (x :: r)) l) n
/-- The items from o on are written over, if there are so many. -/
def overK {R : Type} (vs : List V) : List V → (List V → Option R) → Option R := List.rec (fun l K => K l) (fun v _ ih l K => List.rec none (fun _ l _ => ih l fun r => K (v :: r)) l) vs
def putAtK {R : Type} (vs : List V) (K : List V → Option R) (l : List V) (o : Nat) : Option R :=
  Nat.rec (fun l K => overK vs l K) (fun _ ih l K => List.rec none (fun x l _ => ih l fun r => K (x :: r)) l) o l K

def ld1 (b o : Nat) : Kal V := fun R h K => read b R h fun k h => match k with
  | .cells c _ => nthK (fun v => K v h) c o
  | _ => none
def ldN (n b o : Nat) : Kal (List V) := fun R h K => read b R h fun k h => match k with
  | .cells c _ => takeK n (dropN c o) fun l => K l h
  | _ => none
def stW (b o : Nat) (l : List V) (k : Blk) : Kal Unit := fun R h K => match k with
  | .cells c w => Bool.rec none (putAtK l (fun c => write b (.cells c true) R h K) c o) w
  | _ => none
def stN (b o : Nat) (l : List V) : Kal Unit := fun R h K => Bool.rec none (read b R h fun k h => stW b o l k R h K) (allOne l)
def st1 (b o : Nat) (v : V) : Kal Unit := fun R h K => Bool.rec none (read b R h fun k h => stW b o [v] k R h K) v.one
def newCells (l : List V) : Kal Nat := fun R h K => Bool.rec none (newB (.cells l true) R h K) (allOne l)

def fillK {R : Type} (tm : Tm) (ps : List (Nat × Nat × A)) : List V → (List V → Option R) → Option R :=
  List.rec (fun z K => K z) (fun p _ ih z K => evK tm (fun v => Bool.rec none (putAtK v.cells (fun z => ih z K) z p.1) (Nat.beq p.2.1 v.cells.length)) p.2.2) ps
def rep (n : Nat) (z : List V) : List V := Nat.rec [] (fun _ ih => z ++ ih) n
def undef : V := .tup []

/-- append: what is appended, of so many items. -/
def appended (es : Nat) (y : V) : Kal (List V) := fun R h K => match y with
  | .nils => K [] h
  | .emp => K [] h
  | .slice b o n es' _ => Bool.rec none (ldN (Nat.mul n es) b o R h K) (Nat.beq es es')
  | .str t => Bool.rec none (K (t.map fun n => .int .u8 (Int.ofNat n)) h) (Nat.beq es 1)
  | _ => none
def grow (es : Nat) (l : List V) (n : Nat) : Kal V := fun R h K => newCells l R h fun b h => K (.slice b 0 n es none) h
def isNil {α : Type} : List α → Bool := List.rec true (fun _ _ _ => false)
/-- append where it grows: into a new block; the old one is used no more if it might have had room. -/
def growV (es bytes : Nat) (b o n : Nat) (cap : Option Nat) (l c : List V) (w : Bool) : Kal V := fun R h K =>
  Bool.rec none (takeK (Nat.mul n es) (dropN c o) fun old => Option.rec
    (Bool.rec none (Bool.rec none (Bool.rec none (write b .dead R h fun _ h => grow es (old ++ l) (Nat.add n (Nat.div l.length es)) R h K) w) (Nat.beq (Nat.mul n es) c.length)) (Nat.beq o 0))
    (fun _ => grow es (old ++ l) (Nat.add n (Nat.div l.length es)) R h K) cap)
   (Nat.ble (Nat.mul (Nat.add n (Nat.div l.length es)) bytes) 1048576)
def appendB (es bytes : Nat) (b o n : Nat) (cap : Option Nat) (l : List V) (k : Blk) : Kal V := fun R h K => match k with
  | .cells c w => Bool.rec (growV es bytes b o n cap l c w R h K) (stN b (Nat.add o (Nat.mul n es)) l R h fun _ h => K (.slice b o (Nat.add n (Nat.div l.length es)) es cap) h)
      (Option.rec (Nat.ble (Nat.add o (Nat.mul (Nat.add n (Nat.div l.length es)) es)) c.length) (fun cap => Nat.ble (Nat.add n (Nat.div l.length es)) cap) cap)
  | _ => none
def appendL (es bytes : Nat) (x : V) (l : List V) : Kal V := fun R h K => match x with
  | .nils => Bool.rec none (grow es l (Nat.div l.length es) R h K) (Nat.ble (Nat.mul (Nat.div l.length es) bytes) 1048576)
  | .slice b o n es' cap => Bool.rec none (read b R h fun k h => appendB es bytes b o n cap l k R h K) (Nat.beq es es')
  | _ => none
def isSlice : V → Bool
  | .nils => true
  | .emp => true
  | .slice _ _ _ _ _ => true
  | _ => false
def appendV (es bytes : Nat) (x y : V) : Kal V := fun R h K =>
  appended es y R h fun l h => Bool.rec (appendL es bytes x l R h K) (Bool.rec none (K x h) (isSlice x)) (isNil l)

def sliceL (es : Nat) (x : V) (lo hi : Option Nat) : Option V := match x with
  | .slice b o n es' cap =>
    Bool.rec none (Bool.rec none (match cap with
      | some c => Bool.rec none (some (.slice b (Bool.rec (Nat.add o (Nat.mul (lo.getD 0) es)) o (Nat.beq (lo.getD 0) c)) (Nat.sub (hi.getD n) (lo.getD 0)) es (some (Nat.sub c (lo.getD 0))))) (Nat.ble (hi.getD n) c)
      | none => Bool.rec none (Bool.rec (Bool.rec (some .emp) (some (.slice b o (Nat.sub (hi.getD n) (lo.getD 0)) es none)) (Nat.beq (lo.getD 0) 0)) (some (.slice b (Nat.add o (Nat.mul (lo.getD 0) es)) (Nat.sub (hi.getD n) (lo.getD 0)) es none)) (Nat.ble (Nat.succ (lo.getD 0)) n)) (Nat.ble (hi.getD n) n))
      (Nat.ble (lo.getD 0) (hi.getD n))) (Nat.beq es es')
  | .emp => Bool.rec none (Bool.rec none (some .emp) (Nat.beq (hi.getD 0) 0)) (Nat.beq (lo.getD 0) 0)
  | .nils => Bool.rec none (Bool.rec none (some .nils) (Nat.beq (hi.getD 0) 0)) (Nat.beq (lo.getD 0) 0)
  | _ => none
def sliceS (x : V) (lo hi : Option Nat) : Option V := match x with
  | .str s => Bool.rec none (Bool.rec none (some (.str ((s.take (hi.getD s.length)).drop (lo.getD 0)))) (Nat.ble (hi.getD s.length) s.length)) (Nat.ble (lo.getD 0) (hi.getD s.length))
  | _ => none
def boundK {R : Type} (tm : Tm) (a : Option A) (K : Option Nat → Option R) : Option R := Option.rec (K none) (fun a => evK tm (fun v => match v with | .int _ (.ofNat n) => K (some n) | _ => none) a) a

/-- What is there at a key: 'none': it can't be told. -/
def lookupM (k : V) : List (V × V) → Option (Option V) := List.rec (some none) (fun p _ ih => match k, p.1 with
    | .int j x, .int j' y => Bool.rec none (Bool.rec ih (some (some p.2)) (ieq x y)) (kindEq j j')
    | .str x, .str y => Bool.rec ih (some (some p.2)) (sEq x y)
    | _, _ => none)
def isKey (str : Bool) : V → Bool
  | .int _ _ => Bool.not str
  | .str _ => str
  | _ => false

def I.mov (x : A) : I := fun _ tm R h K => evK tm (fun v => K v h) x
def I.pick (c : A) (a : A) (b : A) : I := fun _ tm R h K => evK tm (fun v => match v with | .bool true => evK tm (fun v => K v h) a | .bool false => evK tm (fun v => K v h) b | _ => none) c
def I.new (z : List V) : I := fun _ tm R h K => newB (.cells z true) R h fun b h => K (.ptr b 0) h
def I.box (x : A) : I := fun _ tm R h K => evK tm (fun v => newCells v.cells R h fun b h => K (.ptr b 0) h) x
def I.build (z : List V) (ps : List (Nat × Nat × A)) : I := fun _ tm R h K => fillK tm ps z fun l => K (.agg l) h
def I.slit (z : List V) (es : Nat) (n : Nat) (ps : List (Nat × Nat × A)) : I := fun _ tm R h K => fillK tm ps z fun l => newCells l R h fun b h => K (.slice b 0 n es (some n)) h
def I.load1 (x : A) : I := fun _ tm R h K => evK tm (fun v => match v with | .ptr b o => ld1 b o R h K | _ => none) x
def I.loadN (n : Nat) (x : A) : I := fun _ tm R h K => evK tm (fun v => match v with | .ptr b o => ldN n b o R h fun l h => K (.agg l) h | _ => none) x
def I.store1 (x : A) (y : A) : I := fun _ tm R h K => evK tm (fun v => match v with | .ptr b o => evK tm (fun u => st1 b o u R h fun _ h => K undef h) y | _ => none) x
def I.storeN (n : Nat) (x : A) (y : A) : I := fun _ tm R h K => evK tm (fun v => match v with | .ptr b o => evK tm (fun u => Bool.rec none (stN b o u.cells R h fun _ h => K undef h) (Nat.beq n u.cells.length)) y | _ => none) x
def I.nilck (x : A) : I := fun _ tm R h K => evK tm (fun v => match v with | .ptr b o => K (.ptr b o) h | .fn (.func f) a c => K (.fn (.func f) a c) h | _ => none) x
def binF (F : CallF) (op : BinOp) (v u : V) : Option V := Option.rec (F.ask op v u) (fun r => some r) (binV op v u)
def I.bin (op : BinOp) (x : A) (y : A) : I := fun F tm R h K => evK tm (fun v => evK tm (fun u => Option.rec none (fun r => K r h) (binF F op v u)) y) x
def I.binB (op : BinOp) (x : A) (y : A) : I := fun _ tm R h K => evK tm (fun v => match v with | .bool a => evK tm (fun u => match u with | .bool b => Option.rec none (fun r => K r h) (boolV op a b) | _ => none) y | _ => none) x
def I.eqs (neg : Bool) (ks : List FK) (x : A) (y : A) : I := fun _ tm R h K => evK tm (fun v => match v with | .agg a => evK tm (fun u => match u with | .agg b => Option.rec none (fun r => K (.bool (Bool.rec r (Bool.not r) neg)) h) (flatEq ks a b) | _ => none) y | _ => none) x
def I.not (x : A) : I := fun _ tm R h K => evK tm (fun v => match v with | .bool b => K (.bool (Bool.not b)) h | _ => none) x
def I.neg (x : A) : I := fun _ tm R h K => evK tm (fun v => match v with | .int k n => Option.rec none (fun r => K r h) (intV k (Int.sub 0 n)) | _ => none) x
def I.conv (k : IntKind) (x : A) : I := fun _ tm R h K => evK tm (fun v => match v with | .int _ n => Option.rec none (fun r => K r h) (intV k n) | _ => none) x
def I.same (x : A) : I := fun _ tm R h K => evK tm (fun v => match v with | .str s => K (.str s) h | _ => none) x
def I.iface (t : Nat) (x : A) : I := fun _ tm R h K => evK tm (fun v => K (.iface t v) h) x
def I.fn (f : Fn) (a : List A) (b : List A) : I := fun _ tm R h K => evsK tm a fun l => evsK tm b fun m => K (.fn f l m) h
def I.mkmap : I := fun _ tm R h K => newB (.map []) R h fun b h => K (.map b) h
def I.mkslice (z : List V) (es : Nat) (bytes : Nat) (l : A) (c : A) : I := fun _ tm R h K => evK tm (fun v => match v with
    | .int .i64 (.ofNat l) => evK tm (fun u => match u with
      | .int .i64 (.ofNat c) => Bool.rec none (Bool.rec none (newCells (rep c z) R h fun b h => K (.slice b 0 l es (some c)) h) (Nat.ble (Nat.mul c bytes) 1048576)) (Nat.ble l c)
      | _ => none) c
    | _ => none) l
def I.cutS (lo : Option A) (hi : Option A) (x : A) : I := fun _ tm R h K => evK tm (fun v => boundK tm lo fun lo => boundK tm hi fun hi => Option.rec none (fun r => K r h) (sliceS v lo hi)) x
def I.cutL (es : Nat) (lo : Option A) (hi : Option A) (x : A) : I := fun _ tm R h K => evK tm (fun v => boundK tm lo fun lo => boundK tm hi fun hi => Option.rec none (fun r => K r h) (sliceL es v lo hi)) x
def I.cutA (n : Nat) (es : Nat) (lo : Option A) (hi : Option A) (x : A) : I := fun _ tm R h K => evK tm (fun v => match v with | .ptr b o => boundK tm lo fun lo => boundK tm hi fun hi => Option.rec none (fun r => K r h) (sliceL es (.slice b o n es (some n)) lo hi) | _ => none) x
def I.fld (d : Nat) (x : A) : I := fun _ tm R h K => evK tm (fun v => match v with | .ptr b o => K (.ptr b (Nat.add o d)) h | _ => none) x
def I.part1 (d : Nat) (x : A) : I := fun _ tm R h K => evK tm (fun v => match v with | .agg l => Option.rec none (fun r => K r h) (l[d]?) | _ => none) x
def I.partN (d : Nat) (n : Nat) (x : A) : I := fun _ tm R h K => evK tm (fun v => match v with | .agg l => Bool.rec none (K (.agg ((l.drop d).take n)) h) (Nat.ble (Nat.add d n) l.length) | _ => none) x
def idxK (es : Nat) (i : A) (tm : Tm) (b o n es' : Nat) : Kal V := fun R h K => evK tm (fun u => match u with | .int _ (.ofNat i) => Bool.rec none (Bool.rec none (K (.ptr b (Nat.add o (Nat.mul i es))) h) (Nat.ble (Nat.succ i) n)) (Nat.beq es es') | _ => none) i
def I.idxL (es : Nat) (x : A) (i : A) : I := fun _ tm R h K => evK tm (fun v => match v with | .slice b o n es' _ => idxK es i tm b o n es' R h K | .bigs b o n es' _ => idxK es i tm b o n es' R h K | _ => none) x
def I.idxA (n : Nat) (es : Nat) (x : A) (i : A) : I := fun _ tm R h K => evK tm (fun v => match v with | .ptr b o => evK tm (fun u => match u with | .int _ (.ofNat i) => Bool.rec none (K (.ptr b (Nat.add o (Nat.mul i es))) h) (Nat.ble (Nat.succ i) n) | _ => none) i | _ => none) x
def I.byte (x : A) (i : A) : I := fun _ tm R h K => evK tm (fun v => match v with | .str s => evK tm (fun u => match u with | .int _ (.ofNat i) => Option.rec none (fun c => K (.int .u8 (Int.ofNat c)) h) (s[i]?) | _ => none) i | _ => none) x
def I.at1 (n : Nat) (x : A) (i : A) : I := fun _ tm R h K => evK tm (fun v => match v with | .agg l => evK tm (fun u => match u with | .int _ (.ofNat i) => Bool.rec none (Option.rec none (fun r => K r h) (l[i]?)) (Nat.ble (Nat.succ i) n) | _ => none) i | _ => none) x
def I.atN (n : Nat) (es : Nat) (x : A) (i : A) : I := fun _ tm R h K => evK tm (fun v => match v with | .agg l => evK tm (fun u => match u with | .int _ (.ofNat i) => Bool.rec none (Bool.rec none (K (.agg ((l.drop (Nat.mul i es)).take es)) h) (Nat.ble (Nat.add (Nat.mul i es) es) l.length)) (Nat.ble (Nat.succ i) n) | _ => none) i | _ => none) x
def I.look (str : Bool) (ok : Bool) (z : V) (m : A) (k : A) : I := fun _ tm R h K => evK tm (fun v => match v with
    | .map b => evK tm (fun k => read b R h fun q h => match q with
      | .map es => Bool.rec none (Option.rec none (fun r => K (Option.rec (Bool.rec z (.tup [z, .bool false]) ok) (fun v => Bool.rec v (.tup [v, .bool true]) ok) r) h) (lookupM k es)) (isKey str k)
      | _ => none) k
    | _ => none) m
def I.insert (str : Bool) (m : A) (k : A) (x : A) : I := fun _ tm R h K => evK tm (fun v => match v with
    | .map b => evK tm (fun k => evK tm (fun x => read b R h fun q h => match q with
      | .map es => Bool.rec none (match lookupM k es with
        | some none => write b (.map (es ++ [(k, x)])) R h fun _ h => K undef h
        | _ => none) (isKey str k)
      | _ => none) x) k
    | _ => none) m
def I.assert (t : Nat) (ok : Bool) (z : Option V) (x : A) : I := fun _ tm R h K => evK tm (fun v => match v with
    | .iface u v => Bool.rec (Bool.rec none (Option.rec none (fun z => K (.tup [z, .bool false]) h) z) ok) (K (Bool.rec v (.tup [v, .bool true]) ok) h) (Nat.beq u t)
    | _ => none) x
def I.ext (i : Nat) (x : A) : I := fun _ tm R h K => evK tm (fun v => match v with | .tup l => Option.rec none (fun r => K r h) (l[i]?) | _ => none) x
def I.lenL (x : A) : I := fun _ tm R h K => evK tm (fun v => match v with | .slice _ _ n _ _ => K (.int .i64 (Int.ofNat n)) h | .emp => K (.int .i64 (Int.ofNat 0)) h | .nils => K (.int .i64 (Int.ofNat 0)) h | .bigs _ _ _ _ i => K (.sym .i64 i) h | _ => none) x
def I.lenS (x : A) : I := fun _ tm R h K => evK tm (fun v => match v with | .str s => K (.int .i64 (Int.ofNat s.length)) h | _ => none) x
def I.lenA (n : Nat) (_x : A) : I := fun _ tm R h K => K (.int .i64 (Int.ofNat n)) h
def I.append (es : Nat) (bytes : Nat) (x : A) (y : A) : I := fun _ tm R h K => evK tm (fun v => evK tm (fun u => appendV es bytes v u R h K) y) x
def I.max (x : A) (y : A) : I := fun _ tm R h K => evK tm (fun v => match v with | .int k a => evK tm (fun u => match u with | .int _ b => K (.int k (Bool.rec a b (ilt a b))) h | _ => none) y | _ => none) x
def I.min (x : A) (y : A) : I := fun _ tm R h K => evK tm (fun v => match v with | .int k a => evK tm (fun u => match u with | .int _ b => K (.int k (Bool.rec a b (ilt b a))) h | _ => none) y | _ => none) x
def I.clear (z : List V) (x : A) : I := fun _ tm R h K => evK tm (fun v => match v with
    | .slice b o n es _ => Bool.rec none (stN b o (rep n z) R h fun _ h => K undef h) (Nat.beq z.length es)
    | .emp => K undef h
    | .nils => K undef h
    | _ => none) x
def I.callG (F : CallF) (v : V) (l : List V) : Kal V := fun R h K => match v with
  | .fn f a c => (match f with | .func g => F.call g (a ++ (l ++ c)) R h K | _ => none)
  | _ => none
def I.call (f : A) (xs : List A) : I := fun F tm R h K => evK tm (fun v => evsK tm xs fun l => I.callG F v l R h K) f

/-- An instruction under a guard. -/
def I.when (p : Path) (want : Bool) (i : I) : I := fun F tm R h K => Tp.getK (fun v => match v with
    | .bool b => Bool.rec (K undef h) (i F tm R h K) (Bool.rec (Bool.not b) b want)
    | _ => K undef h) p tm

structure Ins where
  dst : Option Path
  i : I

inductive Out where
  | normal
  | exit (id : Nat)
  | ret

def putD (tm : Tm) (d : Option Path) (v : V) : Tm := Option.rec tm (fun p => Tp.put v p tm) d

def regionN (F : CallF) (l : List Ins) : Tm → Kal Tm :=
  List.rec (fun tm _ h K => K tm h) (fun o _ ih tm R h K => o.i F tm R h fun v h => ih (putD tm o.dst v) R h K) l

structure Note where
  log : List (Nat × Bool)
  lo : Nat
  hi : Nat
/-- Two operations, the first ahead in the text: has the second touched what the first has written or made, or the first what the second writes? -/
def hits (b : Nat) (w : Bool) : List (Nat × Bool) → Bool := List.rec false (fun p _ ih => Bool.rec ih (Bool.rec (Bool.rec ih true p.2) true w) (Nat.beq b p.1))
def anyHit (y : List (Nat × Bool)) : List (Nat × Bool) → Bool := List.rec false (fun p _ ih => Bool.rec ih true (hits p.1 p.2 y))
def anyIn (lo hi : Nat) : List (Nat × Bool) → Bool := List.rec false (fun p _ ih => Bool.rec ih (Bool.rec ih true (Nat.ble (Nat.succ p.1) hi)) (Nat.ble lo p.1))
def clash (x y : Note) : Bool := Bool.rec (anyIn x.lo x.hi y.log) true (anyHit y.log x.log)
def noteAt (l : List Note) : Nat → Option Note := List.rec (fun _ => none) (fun x _ ih n => Nat.rec (some x) (fun m _ => ih m) n) l
def pairOk (notes : List Note) (p : Nat × Nat) : Bool := Option.rec false (fun x => Option.rec false (fun y => Bool.not (clash x y)) (noteAt notes p.2)) (noteAt notes p.1)
def pairsOk (notes : List Note) : List (Nat × Nat) → Bool := List.rec true (fun p _ ih => Bool.rec false ih (pairOk notes p))
def regionD (F : CallF) (ps : List (Nat × Nat)) (l : List Ins) : Tm → List Note → Nat → Kal Tm :=
  List.rec (fun tm notes _ _ h K => Bool.rec none (K tm h) (pairsOk notes ps))
    (fun o _ ih tm notes lo R h K => logged (o.i F tm) R h fun r h => ih (putD tm o.dst r.1) (notes ++ [⟨r.2.1, lo, r.2.2⟩]) r.2.2 R h K) l
def nextOf : Kal Nat := fun _ h K => K h.nx h

/-- A piece of code: what it does to the temporaries, the memory, and how it ends. -/
abbrev C := CallF → Tm → Kal (Out × Tm)

def C.skip : C := fun _ tm _ h K => K (.normal, tm) h
def C.reg (l : List Ins) : C := fun F tm R h K => regionN F l tm R h fun tm h => K (.normal, tm) h
def C.drw (l : List Ins) (ps : List (Nat × Nat)) : C := fun F tm R h K => nextOf R h fun lo h => regionD F ps l tm [] lo R h fun tm h => K (.normal, tm) h
def C.seqK (b : C) (F : CallF) (r : Out × Tm) : Kal (Out × Tm) := fun R h K => match r.1 with
    | .normal => b F r.2 R h K
    | o => K (o, r.2) h
def C.seq (a b : C) : C := fun F tm R h K => a F tm R h fun r h => C.seqK b F r R h K
def C.cond (x : A) (a b : C) : C := fun F tm R h K => evK tm (fun v => match v with | .bool c => Bool.rec (b F tm R h K) (a F tm R h K) c | _ => none) x
def C.blockK (id : Nat) (r : Out × Tm) : Kal (Out × Tm) := fun _ h K => match r.1 with
    | .exit j => Bool.rec (K (.exit j, r.2) h) (K (.normal, r.2) h) (Nat.beq j id)
    | o => K (o, r.2) h
def C.block (id : Nat) (a : C) : C := fun F tm R h K => a F tm R h fun r h => C.blockK id r R h K
def C.loopN (a : C) (F : CallF) (n : Nat) : Tm → Kal (Out × Tm) := Nat.rec (fun _ _ _ _ => none) (fun _ ih tm R h K => a F tm R h fun r h => match r.1 with
    | .normal => ih r.2 R h K
    | o => K (o, r.2) h) n
def C.loop (a : C) : C := fun F => C.loopN a F 1000000
def C.exit (id : Nat) : C := fun _ tm _ h K => K (.exit id, tm) h
def C.ret : C := fun _ tm _ h K => K (.ret, tm) h

inductive RC where
  | t (p : Path)
  | cell1 (p : Path)
  | cellN (n : Nat) (p : Path)

structure FnC where
  pars : List Path
  body : C
  res : List RC

def resK (tm : Tm) (l : List RC) : Kal (List V) :=
  List.rec (fun _ h K => K [] h) (fun r _ ih R h K => match r with
    | .t p => Tp.getK (fun v => ih R h fun l h => K (v :: l) h) p tm
    | .cell1 p => Tp.getK (fun v => match v with | .ptr b o => ld1 b o R h fun v h => ih R h fun l h => K (v :: l) h | _ => none) p tm
    | .cellN n p => Tp.getK (fun v => match v with | .ptr b o => ldN n b o R h fun v h => ih R h fun l h => K (.agg v :: l) h | _ => none) p tm) l
def oneOf (l : List V) : V := match l with
  | [v] => v
  | l => .tup l
def setPars (ps : List Path) : List V → Tm → Option Tm := List.rec (fun l tm => List.rec (some tm) (fun _ _ _ => none) l) (fun p _ ih l tm => List.rec none (fun v l _ => ih l (Tp.put v p tm)) l) ps

def callRet (fc : FnC) (r : Out × Tm) : Kal V := fun R h K => match r.1 with
    | .exit _ => none
    | _ => resK r.2 fc.res R h fun l h => K (oneOf l) h
def callFn (F : CallF) (fc : FnC) (args : List V) : Kal V := fun R h K =>
  Option.rec none (fun tm => fc.body F tm R h fun r h => callRet fc r R h K) (setPars fc.pars args .nil)
/-- What is told of calls and of operators from without. -/
structure Orc where
  call : Nat → List V → Option V
  ask : BinOp → V → V → Option V
/-- A call, so many calls deep. -/
def callG (Θ : Orc) (Γ : Tr FnC) (n : Nat) : Nat → List V → Kal V := Nat.rec (fun _ _ _ _ _ => none) (fun _ ih g args R h K =>
  Option.rec (Tr.getK (fun fc => callFn ⟨ih, Θ.ask⟩ fc args R h K) Γ g) (fun r => K r h) (Θ.call g args)) n
def callN (Θ : Orc) (Γ : Tr FnC) (n : Nat) : CallF := ⟨callG Θ Γ n, Θ.ask⟩
def noOrc : Orc := ⟨fun _ _ => none, fun _ _ _ => none⟩

def h0 : H := ⟨.nil, 0, false, []⟩
def isTrue (o : Option (V × H)) : Bool := match o with
  | some (v, _) => (match v with | .bool b => b | _ => false)
  | none => false
end
end Go.X
