/- A verified executor: instructions whose operands are values: the words of code whose regions are opened. -/
import Derived.Test.YtheojbhaajbecaaGreatDoorXTable
set_option linter.unusedVariables false
namespace Go.X
noncomputable section
def fillV {R : Type} (ps : List (Nat × Nat × V)) : List V → (List V → Option R) → Option R :=
  List.rec (fun z K => K z) (fun p _ ih z K => Bool.rec none (putAtK p.2.2.cells (fun z => ih z K) z p.1) (Nat.beq p.2.1 (len p.2.2.cells))) ps
def boundV {R : Type} (a : Option V) (K : Option Nat → Option R) : Option R := Option.rec (K none) (fun v => Option.rec none (fun n => K (some n)) v.toNat) a
namespace J
def stop : Kal V := fun _ _ _ => none
def pure (v : V) : Kal V := fun _ h K => K v h
def pick (c a b : V) : Kal V := fun _ h K => Option.rec none (fun q => Bool.rec (K b h) (K a h) q) c.toBool
def newT (y : Nat) (z : List V) : Kal V := fun R h K => newB (.cells z true y) R h fun b h => K (.ptr b 0) h
def box (v : V) : Kal V := fun R h K => newCells v.cells R h fun b h => K (.ptr b 0) h
def build (z : List V) (ps : List (Nat × Nat × V)) : Kal V := fun R h K => fillV ps z fun l => K (.agg l) h
def slit (z : List V) (es n : Nat) (ps : List (Nat × Nat × V)) : Kal V := fun R h K => fillV ps z fun l => newCells l R h fun b h => K (.slice b 0 n es (some n)) h
def load1 (v : V) : Kal V := fun R h K => Option.rec (Option.rec none (fun l => nthK (fun v => K v h) l 0) v.toView) (fun p => ld1 p.1 p.2 R h K) v.toPtr
def loadN (n : Nat) (v : V) : Kal V := fun R h K => Option.rec (Option.rec none (fun l => takeK n l fun l => K (.agg l) h) v.toView) (fun p => ldN n p.1 p.2 R h fun l h => K (.agg l) h) v.toPtr
def store1 (v u : V) : Kal V := fun R h K => Option.rec none (fun p => st1 p.1 p.2 u R h fun _ h => K undef h) v.toPtr
def storeN (n : Nat) (v u : V) : Kal V := fun R h K => Option.rec none (fun p => Bool.rec none (stN p.1 p.2 u.cells R h fun _ h => K undef h) (Nat.beq n (len u.cells))) v.toPtr
def nilck (v : V) : Kal V := fun R h K => Option.rec (Option.rec (Option.rec none (fun _ => K v h) v.toView) (fun p => Option.rec none (fun _ => K v h) (funcOf p.1)) v.toFn) (fun _ => K v h) v.toPtr
def bin (F : CallF) (op : BinOp) (v u : V) : Kal V := fun R h K => Option.rec none (fun r => K r h) (binF F op v u)
def binB (op : BinOp) (v u : V) : Kal V := fun R h K => Option.rec none (fun a => Option.rec none (fun b => Option.rec none (fun r => K r h) (boolV op a b)) u.toBool) v.toBool
def eqs (neg : Bool) (ks : List FK) (v u : V) : Kal V := fun R h K => Option.rec none (fun a => Option.rec none (fun b => Option.rec none (fun r => K (.bool (Bool.rec r (Bool.not r) neg)) h) (flatEq ks a b)) u.toAgg) v.toAgg
def nilK (f : V → Option Bool) (neg : Bool) (v : V) : Kal V := fun R h K => Option.rec none (fun r => K (.bool (Bool.rec r (Bool.not r) neg)) h) (f v)
def nilP : Bool → V → Kal V := nilK V.nilP
def nilI : Bool → V → Kal V := nilK V.nilI
def nilS : Bool → V → Kal V := nilK V.nilS
def not (v : V) : Kal V := fun R h K => Option.rec none (fun b => K (.bool (Bool.not b)) h) v.toBool
def neg (v : V) : Kal V := fun R h K => Option.rec none (fun p => Option.rec none (fun r => K r h) (intV p.1 (ineg p.2))) v.toInt
def conv (k : IntKind) (v : V) : Kal V := fun R h K => Option.rec none (fun p => Option.rec none (fun r => K r h) (intV k p.2)) v.toInt
def same (v : V) : Kal V := fun R h K => Option.rec none (fun s => K (.str s) h) v.toStr
def mkmap : Kal V := fun R h K => newB (.map []) R h fun b h => K (.map b) h
def mkslice (z : List V) (es bytes : Nat) (v u : V) : Kal V := fun R h K => Option.rec none (fun l => Option.rec none (fun c =>
      Bool.rec none (Bool.rec none (newCells (rep c z) R h fun b h => K (.slice b 0 l es (some c)) h) (Nat.ble (Nat.mul c bytes) 1048576)) (Nat.ble l c)) u.to64) v.to64
def cutS (lo hi : Option V) (v : V) : Kal V := fun R h K => boundV lo fun lo => boundV hi fun hi => Option.rec none (fun r => K r h) (sliceS v lo hi)
def cutL (es : Nat) (lo hi : Option V) (v : V) : Kal V := fun R h K => boundV lo fun lo => boundV hi fun hi => sliceK es v lo hi R h K
def cutM (es : Nat) (lo hi mx : Option V) (v : V) : Kal V := fun R h K => boundV lo fun lo => boundV hi fun hi => boundV mx fun mx => Option.rec none (fun r => K r h) (sliceM es v lo hi mx)
def cutA (n es : Nat) (lo hi : Option V) (v : V) : Kal V := fun R h K => Option.rec none (fun p => boundV lo fun lo => boundV hi fun hi => Option.rec none (fun r => K r h) (sliceL es (.slice p.1 p.2 n es (some n)) lo hi)) v.toPtr
def fld (d : Nat) (v : V) : Kal V := fun R h K => Option.rec (Option.rec none (fun l => K (.view (dropN l d)) h) v.toView) (fun p => K (.ptr p.1 (Nat.add p.2 d)) h) v.toPtr
def part1 (d : Nat) (v : V) : Kal V := fun R h K => Option.rec none (fun l => nthK (fun r => K r h) l d) v.toAgg
def partN (d n : Nat) (v : V) : Kal V := fun R h K => Option.rec none (fun l => Bool.rec none (takeK n (dropN l d) fun l => K (.agg l) h) (Nat.ble (Nat.add d n) (len l))) v.toAgg
def idxS (es : Nat) (u : V) (b o n es' : Nat) : Kal V := fun R h K => Option.rec none (fun i => Bool.rec none (Bool.rec none (K (.ptr b (Nat.add o (Nat.mul i es))) h) (Nat.ble (Nat.succ i) n)) (Nat.beq es es')) u.toNat
def idxB (es : Nat) (u : V) (es' : Nat) (l : List V) : Kal V := fun R h K => Option.rec none (fun i => Bool.rec none (Bool.rec none (K (.view (dropN l (Nat.mul i es))) h) (Nat.ble (Nat.mul (Nat.succ i) es) (len l))) (sameEs es es')) u.toNat
def idxL (es : Nat) (v u : V) : Kal V := fun R h K => Option.rec (Option.rec none (fun p => idxB es u p.1 p.2 R h K) v.toBigs) (fun p => idxS es u p.1 p.2.1 p.2.2.1 p.2.2.2.1 R h K) v.toSlice
def idxA (n es : Nat) (v u : V) : Kal V := fun R h K => Option.rec none (fun p => Option.rec none (fun i => Bool.rec none (K (.ptr p.1 (Nat.add p.2 (Nat.mul i es))) h) (Nat.ble (Nat.succ i) n)) u.toNat) v.toPtr
def byte (v u : V) : Kal V := fun R h K => Option.rec none (fun s => Option.rec none (fun i => Option.rec none (fun c => K (.int .u8 (Int.ofNat c)) h) (nthN s i)) u.toNat) v.toStr
def at1 (n : Nat) (v u : V) : Kal V := fun R h K => Option.rec none (fun l => Option.rec none (fun i => Bool.rec none (nthK (fun r => K r h) l i) (Nat.ble (Nat.succ i) n)) u.toNat) v.toAgg
def atN (n es : Nat) (v u : V) : Kal V := fun R h K => Option.rec none (fun l => Option.rec none (fun i => Bool.rec none (Bool.rec none (takeK es (dropN l (Nat.mul i es)) fun l => K (.agg l) h) (Nat.ble (Nat.add (Nat.mul i es) es) (len l))) (Nat.ble (Nat.succ i) n)) u.toNat) v.toAgg
def look (str ok : Bool) (z : V) (v k : V) : Kal V := fun R h K => Option.rec none (fun b => read b R h fun q h => Blk.rec (fun _ _ _ => none) (fun es =>
      Bool.rec none (Option.rec none (fun r => K (Option.rec (Bool.rec z (.tup [z, .bool false]) ok) (fun v => Bool.rec v (.tup [v, .bool true]) ok) r) h) (lookupM k es)) (isKey str k)) none (fun _ _ _ _ _ => none) q) v.toMap
def insert (str : Bool) (v k x : V) : Kal V := fun R h K => Option.rec none (fun b => read b R h fun q h => Blk.rec (fun _ _ _ => none) (fun es =>
      Bool.rec none (Option.rec none (fun r => Option.rec (write b (.map (cat es [(k, x)])) R h fun _ h => K undef h) (fun _ => none) r) (lookupM k es)) (isKey str k)) none (fun _ _ _ _ _ => none) q) v.toMap
def assert (t : Nat) (ok : Bool) (z : Option V) (v : V) : Kal V := fun R h K => Option.rec none (fun p => Bool.rec (Bool.rec none (Option.rec none (fun z => K (.tup [z, .bool false]) h) z) ok) (K (Bool.rec p.2 (.tup [p.2, .bool true]) ok) h) (Nat.beq p.1 t)) v.toIface
def ext (i : Nat) (v : V) : Kal V := fun R h K => Option.rec none (fun l => nthK (fun r => K r h) l i) v.toTup
def lenL (v : V) : Kal V := fun R h K => Option.rec none (fun r => K r h) v.toLen
def lenS (v : V) : Kal V := fun R h K => Option.rec none (fun s => K (.int .i64 (Int.ofNat (len s))) h) v.toStr
def appendQ (q es bytes : Nat) (v u : V) : Kal V := fun R h K => appendV es bytes q v u R h K
def max (v u : V) : Kal V := fun R h K => Option.rec none (fun p => Option.rec none (fun q => K (.int p.1 (Bool.rec p.2 q.2 (ilt p.2 q.2))) h) u.toInt) v.toInt
def min (v u : V) : Kal V := fun R h K => Option.rec none (fun p => Option.rec none (fun q => K (.int p.1 (Bool.rec p.2 q.2 (ilt q.2 p.2))) h) u.toInt) v.toInt
def clear (z : List V) (v : V) : Kal V := fun R h K => Option.rec (Bool.rec none (K undef h) v.isNone)
    (fun p => Bool.rec none (stN p.1 p.2.1 (rep p.2.2.1 z) R h fun _ h => K undef h) (Nat.beq (len z) p.2.2.2.1)) v.toSlice
def call (F : CallF) (v : V) (l : List V) : Kal V := fun R h K => I.callG F v l R h K
def when (v : V) (want : Bool) (i : Kal V) : Kal V := runK (whenK v want i)
end J
end
end Go.X
