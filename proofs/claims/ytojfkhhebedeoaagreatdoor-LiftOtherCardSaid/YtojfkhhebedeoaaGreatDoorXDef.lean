/- A verified executor, part 3b: the tables' functions, told by cases. -/
import Derived.Test.YtojfkhhebedeoaaGreatDoorXExec
set_option linter.unusedVariables false
namespace Go.X
noncomputable section

theorem evK_same {R : Type} (tm : Tm) {f g : V → Option R} (a : A) (h : ∀ v, f v = g v) : evK tm f a = evK tm g a := by rw [show f = g from funext h]
theorem evK_none {R : Type} (tm : Tm) (a : A) : evK tm (fun _ => (none : Option R)) a = none := by
  cases a with
  | c v => rfl
  | t p => show Tp.getK _ p tm = _; rw [Tp.getK_get]; cases tm.get p <;> rfl
theorem nthK_rec {R : Type} (K : V → Option R) : ∀ (l : List V) (n : Nat), nthK K l n = Option.rec none (fun r => K r) (l[n]?)
  | [], n => by simp; rfl
  | x :: l, 0 => rfl
  | x :: l, n + 1 => by
    show nthK K l n = _
    rw [nthK_rec K l n, List.getElem?_cons_succ]
theorem nthN_eq : ∀ (l : List Nat) (n : Nat), nthN l n = l[n]?
  | [], n => by simp; rfl
  | x :: l, 0 => rfl
  | x :: l, n + 1 => by
    show nthN l n = _
    rw [nthN_eq l n, List.getElem?_cons_succ]
theorem dropN_eq : ∀ (l : List V) (n : Nat), dropN l n = l.drop n
  | [], n => by simp; rfl
  | x :: l, 0 => rfl
  | x :: l, n + 1 => dropN_eq l n
theorem takeK_eq {R : Type} : ∀ (n : Nat) (l : List V) (K : List V → Option R), takeK n l K = if n ≤ l.length then K (l.take n) else none
  | 0, l, K => by simp; rfl
  | n + 1, [], K => by simp; rfl
  | n + 1, x :: l, K => by
    show takeK n l (fun r => K (x :: r)) = _
    rw [takeK_eq n l]
    simp
theorem getD_eq (o : Option Nat) (d : Nat) : orD d o = o.getD d := by cases o <;> rfl

theorem I.load1_def (x : A) : I.load1 x = (fun _ tm R h K => evK tm (fun v => match v with | .ptr b o => ld1 b o R h K | .view l => nthK (fun v => K v h) l 0 | _ => none) x : I) := by
  funext F tm R h K; exact evK_same tm _ fun v => by cases v <;> first | rfl | exact evK_none tm _
theorem I.loadN_def (n : Nat) (x : A) : I.loadN n x = (fun _ tm R h K => evK tm (fun v => match v with | .ptr b o => ldN n b o R h fun l h => K (.agg l) h | .view l => takeK n l (fun l => K (.agg l) h) | _ => none) x : I) := by
  funext F tm R h K; exact evK_same tm _ fun v => by cases v <;> first | rfl | exact evK_none tm _
theorem I.store1_def (x : A) (y : A) : I.store1 x y = (fun _ tm R h K => evK tm (fun v => match v with | .ptr b o => evK tm (fun u => st1 b o u R h fun _ h => K undef h) y | _ => none) x : I) := by
  funext F tm R h K; exact evK_same tm _ fun v => by cases v <;> first | rfl | exact evK_none tm _
theorem I.storeN_def (n : Nat) (x : A) (y : A) : I.storeN n x y = (fun _ tm R h K => evK tm (fun v => match v with | .ptr b o => evK tm (fun u => Bool.rec none (stN b o u.cells R h fun _ h => K undef h) (Nat.beq n u.cells.length)) y | _ => none) x : I) := by
  funext F tm R h K; refine evK_same tm _ fun v => ?_
  cases v <;> first | rfl | exact evK_none tm _ | (refine evK_same tm _ fun u => ?_; rw [← len_eq]; rfl)
theorem I.not_def (x : A) : I.not x = (fun _ tm R h K => evK tm (fun v => match v with | .bool b => K (.bool (Bool.not b)) h | _ => none) x : I) := by
  funext F tm R h K; exact evK_same tm _ fun v => by cases v <;> first | rfl | exact evK_none tm _
theorem I.conv_def (k : IntKind) (x : A) : I.conv k x = (fun _ tm R h K => evK tm (fun v => match v with | .int _ n => Option.rec none (fun r => K r h) (intV k n) | _ => none) x : I) := by
  funext F tm R h K; exact evK_same tm _ fun v => by cases v <;> first | rfl | exact evK_none tm _
theorem I.same_def (x : A) : I.same x = (fun _ tm R h K => evK tm (fun v => match v with | .str s => K (.str s) h | _ => none) x : I) := by
  funext F tm R h K; exact evK_same tm _ fun v => by cases v <;> first | rfl | exact evK_none tm _
theorem sliceK_eq (es : Nat) (v : V) (lo hi : Option Nat) : sliceK es v lo hi = (match sliceL es v lo hi with
    | some r => fun _ h K => K r h
    | none => match v, hi with
      | .slice b o n es' none, some q => sliceF es (b, o, n, es', none) (lo.getD 0) q
      | _, _ => fun _ _ _ => none : Kal V) := by
  funext R h K
  unfold sliceK
  cases sliceL es v lo hi with
  | some r => rfl
  | none =>
    cases v with
    | slice b o n es' cap =>
      cases cap with
      | none =>
        cases hi with
        | none => rfl
        | some q => rw [← getD_eq]; rfl
      | some c => rfl
    | _ => first | rfl | exact evK_none tm _
theorem sliceM_def (es : Nat) (x : V) (lo hi mx : Option Nat) : sliceM es x lo hi mx = (match mx, hi with
  | some m, some q => Bool.rec none (Bool.rec none (match x with
    | .slice b o n es' cap => Bool.rec none (Bool.rec none (some (.slice b (Bool.rec (Nat.add o (Nat.mul (lo.getD 0) es)) o (Nat.beq (lo.getD 0) m)) (Nat.sub q (lo.getD 0)) es (some (Nat.sub m (lo.getD 0))))) (Nat.ble m (cap.getD n))) (Nat.beq es es')
    | .nils => Bool.rec none (some .nils) (Nat.beq m 0)
    | .emp => Bool.rec none (some .emp) (Nat.beq m 0)
    | _ => none) (Nat.ble q m)) (Nat.ble (lo.getD 0) q)
  | _, _ => none : Option V) := by
  cases mx with
  | none => rfl
  | some m =>
    cases hi with
    | none => rfl
    | some q =>
      cases x with
      | slice b o n es' cap => cases cap <;> cases lo <;> rfl
      | _ => cases lo <;> rfl
theorem I.cutA_def (n : Nat) (es : Nat) (lo : Option A) (hi : Option A) (x : A) : I.cutA n es lo hi x = (fun _ tm R h K => evK tm (fun v => match v with | .ptr b o => boundK tm lo fun lo => boundK tm hi fun hi => Option.rec none (fun r => K r h) (sliceL es (.slice b o n es (some n)) lo hi) | _ => none) x : I) := by
  funext F tm R h K; exact evK_same tm _ fun v => by cases v <;> first | rfl | exact evK_none tm _
theorem I.fld_def (d : Nat) (x : A) : I.fld d x = (fun _ tm R h K => evK tm (fun v => match v with | .ptr b o => K (.ptr b (Nat.add o d)) h | .view l => K (.view (dropN l d)) h | _ => none) x : I) := by
  funext F tm R h K; exact evK_same tm _ fun v => by cases v <;> first | rfl | exact evK_none tm _
theorem I.idxA_def (n : Nat) (es : Nat) (x : A) (i : A) : I.idxA n es x i = (fun _ tm R h K => evK tm (fun v => match v with | .ptr b o => evK tm (fun u => match u with | .int _ (.ofNat i) => Bool.rec none (K (.ptr b (Nat.add o (Nat.mul i es))) h) (Nat.ble (Nat.succ i) n) | _ => none) i | .view l => evK tm (fun u => match u with | .int _ (.ofNat i) => Bool.rec none (Bool.rec none (Bool.rec none (K (.view (dropN l (Nat.mul i es))) h) (Nat.ble (Nat.mul (Nat.succ i) es) (len l))) (Nat.ble 1 es)) (Nat.ble (Nat.succ i) n) | _ => none) i | _ => none) x : I) := by
  funext F tm R h K; refine evK_same tm _ fun v => ?_
  cases v <;> first | exact evK_none tm _ | exact evK_same tm _ fun u => by cases u <;> first | rfl | (rename_i n; cases n <;> rfl)
theorem I.binB_def (op : BinOp) (x : A) (y : A) : I.binB op x y = (fun _ tm R h K => evK tm (fun v => match v with | .bool a => evK tm (fun u => match u with | .bool b => Option.rec none (fun r => K r h) (boolV op a b) | _ => none) y | _ => none) x : I) := by
  funext F tm R h K; refine evK_same tm _ fun v => ?_
  cases v <;> first | rfl | exact evK_none tm _ | exact evK_same tm _ fun u => by cases u <;> rfl
theorem I.eqs_def (neg : Bool) (ks : List FK) (x : A) (y : A) : I.eqs neg ks x y = (fun _ tm R h K => evK tm (fun v => match v with | .agg a => evK tm (fun u => match u with | .agg b => Option.rec none (fun r => K (.bool (Bool.rec r (Bool.not r) neg)) h) (flatEq ks a b) | _ => none) y | _ => none) x : I) := by
  funext F tm R h K; refine evK_same tm _ fun v => ?_
  cases v <;> first | rfl | exact evK_none tm _ | exact evK_same tm _ fun u => by cases u <;> rfl
theorem I.max_def (x : A) (y : A) : I.max x y = (fun _ tm R h K => evK tm (fun v => match v with | .int k a => evK tm (fun u => match u with | .int _ b => K (.int k (Bool.rec a b (ilt a b))) h | _ => none) y | _ => none) x : I) := by
  funext F tm R h K; refine evK_same tm _ fun v => ?_
  cases v <;> first | rfl | exact evK_none tm _ | exact evK_same tm _ fun u => by cases u <;> rfl
theorem I.min_def (x : A) (y : A) : I.min x y = (fun _ tm R h K => evK tm (fun v => match v with | .int k a => evK tm (fun u => match u with | .int _ b => K (.int k (Bool.rec a b (ilt b a))) h | _ => none) y | _ => none) x : I) := by
  funext F tm R h K; refine evK_same tm _ fun v => ?_
  cases v <;> first | rfl | exact evK_none tm _ | exact evK_same tm _ fun u => by cases u <;> rfl
theorem I.lenL_def (x : A) : I.lenL x = (fun _ tm R h K => evK tm (fun v => match v with | .slice _ _ n _ _ => K (.int .i64 (Int.ofNat n)) h | .emp => K (.int .i64 (Int.ofNat 0)) h | .nils => K (.int .i64 (Int.ofNat 0)) h | .bigs _ _ n => K n h | _ => none) x : I) := by
  funext F tm R h K; exact evK_same tm _ fun v => by cases v <;> first | rfl | exact evK_none tm _
theorem I.nilck_def (x : A) : I.nilck x = (fun _ tm R h K => evK tm (fun v => match v with | .ptr b o => K (.ptr b o) h | .fn (.func f) a c => K (.fn (.func f) a c) h | .view l => K (.view l) h | _ => none) x : I) := by
  funext F tm R h K; refine evK_same tm _ fun v => ?_
  cases v <;> first | rfl | exact evK_none tm _ | (rename_i q _ _; cases q <;> rfl)
theorem I.pick_def (c : A) (a : A) (b : A) : I.pick c a b = (fun _ tm R h K => evK tm (fun v => match v with | .bool true => evK tm (fun v => evK tm (fun _ => K v h) b) a | .bool false => evK tm (fun _ => evK tm (fun v => K v h) b) a | _ => none) c : I) := by
  funext F tm R h K; refine evK_same tm _ fun v => ?_
  have e : evK tm (fun _ => evK tm (fun _ => (none : Option R)) b) a = none := by rw [evK_none tm b]; exact evK_none tm a
  cases v with
  | bool q => cases q <;> rfl
  | _ => exact e
theorem I.idxL_def (es : Nat) (x : A) (i : A) : I.idxL es x i = (fun _ tm R h K => evK tm (fun v => match v with | .slice b o n es' _ => idxK es i tm b o n es' R h K | .bigs es' l _ => idxB es i tm es' l R h K | _ => none) x : I) := by
  funext F tm R h K; exact evK_same tm _ fun v => by cases v <;> first | rfl | exact evK_none tm _
theorem I.part1_def (d : Nat) (x : A) : I.part1 d x = (fun _ tm R h K => evK tm (fun v => match v with | .agg l => Option.rec none (fun r => K r h) (l[d]?) | _ => none) x : I) := by
  funext F tm R h K; refine evK_same tm _ fun v => ?_
  cases v <;> first | rfl | exact nthK_rec _ _ _
theorem I.at1_def (n : Nat) (x : A) (i : A) : I.at1 n x i = (fun _ tm R h K => evK tm (fun v => match v with | .agg l => evK tm (fun u => match u with | .int _ (.ofNat i) => Bool.rec none (Option.rec none (fun r => K r h) (l[i]?)) (Nat.ble (Nat.succ i) n) | _ => none) i | _ => none) x : I) := by
  funext F tm R h K; refine evK_same tm _ fun v => ?_
  cases v with
  | agg l =>
    refine evK_same tm _ fun u => ?_
    cases u with
    | int k m =>
      cases m with
      | ofNat i =>
        show (Bool.rec none (nthK (fun r => K r h) l i) (Nat.ble (Nat.succ i) n) : Option R) = (Bool.rec none (Option.rec none (fun r => K r h) (l[i]?)) (Nat.ble (Nat.succ i) n) : Option R)
        rw [nthK_rec]
      | negSucc m => rfl
    | _ => first | rfl | exact evK_none tm _
  | _ => first | rfl | exact evK_none tm _
theorem I.byte_def (x : A) (i : A) : I.byte x i = (fun _ tm R h K => evK tm (fun v => match v with | .str s => evK tm (fun u => match u with | .int _ (.ofNat i) => Option.rec none (fun c => K (.int .u8 (Int.ofNat c)) h) (s[i]?) | _ => none) i | _ => none) x : I) := by
  funext F tm R h K; refine evK_same tm _ fun v => ?_
  cases v with
  | str s =>
    refine evK_same tm _ fun u => ?_
    cases u with
    | int k m =>
      cases m with
      | ofNat i =>
        show (Option.rec none (fun c => K (.int .u8 (Int.ofNat c)) h) (nthN s i) : Option R) = (Option.rec none (fun c => K (.int .u8 (Int.ofNat c)) h) (s[i]?) : Option R)
        rw [nthN_eq]
      | negSucc m => rfl
    | _ => first | rfl | exact evK_none tm _
  | _ => first | rfl | exact evK_none tm _
theorem I.ext_def (i : Nat) (x : A) : I.ext i x = (fun _ tm R h K => evK tm (fun v => match v with | .tup l => Option.rec none (fun r => K r h) (l[i]?) | _ => none) x : I) := by
  funext F tm R h K; refine evK_same tm _ fun v => ?_
  cases v <;> first | rfl | exact nthK_rec _ _ _
theorem I.neg_def (x : A) : I.neg x = (fun _ tm R h K => evK tm (fun v => match v with | .int k n => Option.rec none (fun r => K r h) (intV k (Int.sub 0 n)) | _ => none) x : I) := by
  funext F tm R h K; refine evK_same tm _ fun v => ?_
  cases v <;> first | rfl | exact evK_none tm _ | (rename_i k n; show (Option.rec none _ (intV k (ineg n)) : Option R) = _; rw [ineg_eq, show -n = Int.sub 0 n from (show -n = 0 - n by omega)])
theorem I.partN_def (d : Nat) (n : Nat) (x : A) : I.partN d n x = (fun _ tm R h K => evK tm (fun v => match v with | .agg l => Bool.rec none (K (.agg ((l.drop d).take n)) h) (Nat.ble (Nat.add d n) l.length) | _ => none) x : I) := by
  funext F tm R h K; refine evK_same tm _ fun v => ?_
  cases v with
  | agg l =>
    show (Bool.rec none (takeK n (dropN l d) fun l => K (.agg l) h) (Nat.ble (Nat.add d n) (len l)) : Option R) = (Bool.rec none (K (.agg ((l.drop d).take n)) h) (Nat.ble (Nat.add d n) l.length) : Option R)
    rw [len_eq]
    cases c : Nat.ble (Nat.add d n) l.length with
    | false => rfl
    | true =>
      have h1 : d + n ≤ l.length := Nat.le_of_ble_eq_true c
      show takeK n (dropN l d) _ = _
      rw [takeK_eq, dropN_eq, if_pos (by rw [List.length_drop]; omega)]
  | _ => first | rfl | exact evK_none tm _
theorem I.atN_def (n : Nat) (es : Nat) (x : A) (i : A) : I.atN n es x i = (fun _ tm R h K => evK tm (fun v => match v with | .agg l => evK tm (fun u => match u with | .int _ (.ofNat i) => Bool.rec none (Bool.rec none (K (.agg ((l.drop (Nat.mul i es)).take es)) h) (Nat.ble (Nat.add (Nat.mul i es) es) l.length)) (Nat.ble (Nat.succ i) n) | _ => none) i | _ => none) x : I) := by
  funext F tm R h K; refine evK_same tm _ fun v => ?_
  cases v with
  | agg l =>
    refine evK_same tm _ fun u => ?_
    cases u with
    | int k m =>
      cases m with
      | ofNat i =>
        show (Bool.rec none (Bool.rec none (takeK es (dropN l (Nat.mul i es)) fun l => K (.agg l) h) (Nat.ble (Nat.add (Nat.mul i es) es) (len l))) (Nat.ble (Nat.succ i) n) : Option R) =
          (Bool.rec none (Bool.rec none (K (.agg ((l.drop (Nat.mul i es)).take es)) h) (Nat.ble (Nat.add (Nat.mul i es) es) l.length)) (Nat.ble (Nat.succ i) n) : Option R)
        rw [len_eq]
        cases c : Nat.ble (Nat.add (Nat.mul i es) es) l.length with
        | false => rfl
        | true =>
          have h1 : i * es + es ≤ l.length := Nat.le_of_ble_eq_true c
          have e0 : takeK es (dropN l (Nat.mul i es)) (fun l => K (.agg l) h) = K (.agg ((l.drop (Nat.mul i es)).take es)) h := by
            rw [takeK_eq, dropN_eq, if_pos (by rw [List.length_drop]; show es ≤ l.length - i * es; omega)]
          show (Bool.rec none (takeK es (dropN l (Nat.mul i es)) fun l => K (.agg l) h) (Nat.ble (Nat.succ i) n) : Option R) = _
          rw [e0]
      | negSucc m => rfl
    | _ => first | rfl | exact evK_none tm _
  | _ => first | rfl | exact evK_none tm _
theorem I.mkslice_def (z : List V) (es : Nat) (bytes : Nat) (l : A) (c : A) : I.mkslice z es bytes l c = (fun _ tm R h K => evK tm (fun v => match v with
    | .int .i64 (.ofNat l) => evK tm (fun u => match u with
      | .int .i64 (.ofNat c) => Bool.rec none (Bool.rec none (newCells (rep c z) R h fun b h => K (.slice b 0 l es (some c)) h) (Nat.ble (Nat.mul c bytes) 1048576)) (Nat.ble l c)
      | _ => none) c
    | _ => none) l : I) := by
  funext F tm R h K; refine evK_same tm _ fun v => ?_
  cases v with
  | int k m => cases k <;> cases m <;> first | rfl | (refine evK_same tm _ fun u => ?_; cases u with
    | int k m => cases k <;> cases m <;> rfl
    | _ => rfl)
  | _ => first | rfl | exact evK_none tm _
theorem I.look_def (str : Bool) (ok : Bool) (z : V) (m : A) (k : A) : I.look str ok z m k = (fun _ tm R h K => evK tm (fun v => match v with
    | .map b => evK tm (fun k => read b R h fun q h => match q with
      | .map es => Bool.rec none (Option.rec none (fun r => K (Option.rec (Bool.rec z (.tup [z, .bool false]) ok) (fun v => Bool.rec v (.tup [v, .bool true]) ok) r) h) (lookupM k es)) (isKey str k)
      | _ => none) k
    | _ => none) m : I) := by
  funext F tm R h K; refine evK_same tm _ fun v => ?_
  cases v with
  | map b =>
    refine evK_same tm _ fun u => ?_
    rw [show J.look str ok z (V.map b) u R h K = read b R h (fun q h => Blk.rec (fun _ _ _ => none) (fun es => Bool.rec none (Option.rec none (fun r => K (Option.rec (Bool.rec z (.tup [z, .bool false]) ok) (fun v => Bool.rec v (.tup [v, .bool true]) ok) r) h) (lookupM u es)) (isKey str u)) none (fun _ _ _ _ _ => none) q) from rfl]
    congr 1; funext q h; cases q <;> rfl
  | _ => exact evK_none tm _
theorem I.insert_def (str : Bool) (m : A) (k : A) (x : A) : I.insert str m k x = (fun _ tm R h K => evK tm (fun v => match v with
    | .map b => evK tm (fun k => evK tm (fun x => read b R h fun q h => match q with
      | .map es => Bool.rec none (match lookupM k es with
        | some none => write b (.map (es ++ [(k, x)])) R h fun _ h => K undef h
        | _ => none) (isKey str k)
      | _ => none) x) k
    | _ => none) m : I) := by
  funext F tm R h K; refine evK_same tm _ fun v => ?_
  cases v with
  | map b =>
    refine evK_same tm _ fun u => ?_
    refine evK_same tm _ fun x => ?_
    congr 1
    funext q h
    cases q with
    | map es =>
      show (Bool.rec none (Option.rec none (fun r => Option.rec (write b (.map (cat es [(u, x)])) R h fun _ h => K undef h) (fun _ => none) r) (lookupM u es)) (isKey str u) : Option R) =
        (Bool.rec none (match lookupM u es with | some none => write b (.map (es ++ [(u, x)])) R h fun _ h => K undef h | _ => none) (isKey str u) : Option R)
      rw [cat_eq]
      cases lookupM u es with
      | none => rfl
      | some r => cases r <;> rfl
    | _ => first | rfl | exact evK_none tm _
  | _ => first | rfl | exact evK_none tm _
theorem I.assert_def (t : Nat) (ok : Bool) (z : Option V) (x : A) : I.assert t ok z x = (fun _ tm R h K => evK tm (fun v => match v with
    | .iface u v => Bool.rec (Bool.rec none (Option.rec none (fun z => K (.tup [z, .bool false]) h) z) ok) (K (Bool.rec v (.tup [v, .bool true]) ok) h) (Nat.beq u t)
    | _ => none) x : I) := by
  funext F tm R h K; exact evK_same tm _ fun v => by cases v <;> first | rfl | exact evK_none tm _
theorem I.lenS_def (x : A) : I.lenS x = (fun _ tm R h K => evK tm (fun v => match v with | .str s => K (.int .i64 (Int.ofNat s.length)) h | _ => none) x : I) := by
  funext F tm R h K; refine evK_same tm _ fun v => ?_
  cases v with
  | str s => show K (.int .i64 (Int.ofNat (len s))) h = K (.int .i64 (Int.ofNat s.length)) h; rw [len_eq]
  | _ => first | rfl | exact evK_none tm _
theorem I.clear_def (z : List V) (x : A) : I.clear z x = (fun _ tm R h K => evK tm (fun v => match v with
    | .slice b o n es _ => Bool.rec none (stN b o (rep n z) R h fun _ h => K undef h) (Nat.beq z.length es)
    | .emp => K undef h
    | .nils => K undef h
    | _ => none) x : I) := by
  funext F tm R h K; exact evK_same tm _ fun v => by cases v <;> first | rfl | exact evK_none tm _ | (rw [← len_eq]; rfl)
theorem I.callG_def (F : CallF) (v : V) (l : List V) : I.callG F v l = (fun R h K => match v with
  | .fn f a c => (match f with | .func g => F.call g (a ++ (l ++ c)) R h K | _ => none)
  | .yld b => F.round b l R h K
  | _ => none : Kal V) := by
  funext R h K
  cases v with
  | fn f a c => cases f <;> first | rfl | (rename_i g; show F.call g (cat a (cat l c)) R h K = _; rw [cat_eq, cat_eq])
  | _ => first | rfl | exact evK_none tm _
/-- Calls, rounds are good calculations. -/
structure GoodF (F : CallF) : Prop where
  call : ∀ g vs, Good (F.call g vs)
  round : ∀ b vs, Good (F.round b vs)
theorem callV_def (F : CallF) (v : V) (l : List V) : callV F v l = (fun R h K => match v with
  | .fn f a c => (match f with | .func g => F.call g (a ++ (l ++ c)) R h K | _ => none)
  | _ => none : Kal V) := by
  funext R h K
  cases v with
  | fn f a c => cases f <;> first | rfl | (rename_i g; show F.call g (cat a (cat l c)) R h K = _; rw [cat_eq, cat_eq])
  | _ => first | rfl | exact evK_none tm _
theorem I.when_def (p : Path) (want : Bool) (i : I) : I.when p want i = (fun F tm R h K => Tp.getK (fun v => match v with
    | .bool b => Bool.rec (K undef h) (i F tm R h K) (Bool.rec (Bool.not b) b want)
    | _ => K undef h) p tm : I) := by
  funext F tm R h K; show Tp.getK _ p tm = Tp.getK _ p tm; congr 1; funext v; cases v <;> rfl
theorem ld1_def (b o : Nat) : ld1 b o = (fun R h K => read b R h fun k h => match k with
  | .cells c _ _ => nthK (fun v => K v h) c o
  | _ => none : Kal V) := by
  funext R h K; show read b R h _ = read b R h _; congr 1; funext k h; cases k <;> rfl
theorem ldN_def (n b o : Nat) : ldN n b o = (fun R h K => read b R h fun k h => match k with
  | .cells c _ _ => takeK n (dropN c o) fun l => K l h
  | _ => none : Kal (List V)) := by
  funext R h K; show read b R h _ = read b R h _; congr 1; funext k h; cases k <;> rfl
theorem stW_def (b o : Nat) (l : List V) (k : Blk) : stW b o l k = (fun R h K => match k with
  | .cells c w y => Bool.rec none (putAtK l (fun c => write b (.cells c true y) R h K) c o) w
  | _ => none : Kal Unit) := by
  funext R h K; cases k <;> rfl
theorem appended_def (es : Nat) (y : V) : appended es y = (fun R h K => match y with
  | .nils => K [] h
  | .emp => K [] h
  | .slice b o n es' _ => Bool.rec none (ldN (Nat.mul n es) b o R h K) (Nat.beq es es')
  | .str t => Bool.rec none (K (t.map fun n => .int .u8 (Int.ofNat n)) h) (Nat.beq es 1)
  | .bigs es' l m => Option.rec none (fun n => Bool.rec none (Bool.rec none (K l h) (Nat.beq (Nat.mul n es) (len l))) (Nat.beq es es')) m.toNat
  | _ => none : Kal (List V)) := by
  funext R h K; cases y <;> rfl
theorem growV_def (es bytes : Nat) (y : Nat) (b o n : Nat) (cap : Option Nat) (l c : List V) (w : Bool) : growV es bytes y b o n cap l c w = (fun R h K =>
  Bool.rec none (takeK (Nat.mul n es) (dropN c o) fun old => Option.rec
    (Bool.rec none (Bool.rec none (Bool.rec none (write b .dead R h fun _ h => grow es y (old ++ l) (Nat.add n (Nat.div l.length es)) R h K) w) (Nat.beq (Nat.mul n es) c.length)) (Nat.beq o 0))
    (fun _ => grow es y (old ++ l) (Nat.add n (Nat.div l.length es)) R h K) cap)
   (Nat.ble (Nat.mul (Nat.add n (Nat.div l.length es)) bytes) 1048576) : Kal V) := by
  funext R h K; simp only [growV, len_eq, cat_eq]
theorem appendB_def (es bytes : Nat) (y : Nat) (b o n : Nat) (cap : Option Nat) (l : List V) (k : Blk) : appendB es bytes y b o n cap l k = (fun R h K => match k with
  | .cells c w y0 => Bool.rec (growV es bytes (Bool.rec 0 y (Nat.beq y y0)) b o n cap l c w R h K) (stN b (Nat.add o (Nat.mul n es)) l R h fun _ h => K (.slice b o (Nat.add n (Nat.div l.length es)) es cap) h)
      (Option.rec (Nat.ble (Nat.add o (Nat.mul (Nat.add n (Nat.div l.length es)) es)) c.length) (fun cap => Nat.ble (Nat.add n (Nat.div l.length es)) cap) cap)
  | _ => none : Kal V) := by
  funext R h K; cases k <;> first | rfl | (simp only [appendB, len_eq])
theorem appendL_def (es bytes : Nat) (y : Nat) (x : V) (l : List V) : appendL es bytes y x l = (fun R h K => match x with
  | .nils => Bool.rec none (grow es y l (Nat.div l.length es) R h K) (Nat.ble (Nat.mul (Nat.div l.length es) bytes) 1048576)
  | .slice b o n es' cap => Bool.rec none (read b R h fun k h => appendB es bytes y b o n cap l k R h K) (Nat.beq es es')
  | _ => none : Kal V) := by
  funext R h K; cases x <;> first | rfl | (simp only [← len_eq]; rfl)
theorem sliceS_def (x : V) (lo hi : Option Nat) : sliceS x lo hi = (match x with
  | .str s => Bool.rec none (Bool.rec none (some (.str ((s.take (hi.getD s.length)).drop (lo.getD 0)))) (Nat.ble (hi.getD s.length) s.length)) (Nat.ble (lo.getD 0) (hi.getD s.length))
  | _ => none : Option V) := by
  cases x with
  | str s =>
    show (Bool.rec none (Bool.rec none (some (.str (dropL (takeL s (orD (len s) hi)) (orD 0 lo)))) (Nat.ble (orD (len s) hi) (len s))) (Nat.ble (orD 0 lo) (orD (len s) hi)) : Option V) =
      (Bool.rec none (Bool.rec none (some (.str ((s.take (hi.getD s.length)).drop (lo.getD 0)))) (Nat.ble (hi.getD s.length) s.length)) (Nat.ble (lo.getD 0) (hi.getD s.length)) : Option V)
    rw [dropL_eq, takeL_eq, len_eq, getD_eq, getD_eq]
  | _ => first | rfl | exact evK_none tm _
theorem sliceL_def (es : Nat) (x : V) (lo hi : Option Nat) : sliceL es x lo hi = (match x with
  | .slice b o n es' cap =>
    Bool.rec none (Bool.rec none (match cap with
      | some c => Bool.rec none (some (.slice b (Bool.rec (Nat.add o (Nat.mul (lo.getD 0) es)) o (Nat.beq (lo.getD 0) c)) (Nat.sub (hi.getD n) (lo.getD 0)) es (some (Nat.sub c (lo.getD 0))))) (Nat.ble (hi.getD n) c)
      | none => Bool.rec none (Bool.rec (Bool.rec (some .emp) (some (.slice b o (Nat.sub (hi.getD n) (lo.getD 0)) es none)) (Nat.beq (lo.getD 0) 0)) (some (.slice b (Nat.add o (Nat.mul (lo.getD 0) es)) (Nat.sub (hi.getD n) (lo.getD 0)) es none)) (Nat.ble (Nat.succ (lo.getD 0)) n)) (Nat.ble (hi.getD n) n))
      (Nat.ble (lo.getD 0) (hi.getD n))) (Nat.beq es es')
  | .emp => Bool.rec none (Bool.rec none (some .emp) (Nat.beq (hi.getD 0) 0)) (Nat.beq (lo.getD 0) 0)
  | .nils => Bool.rec none (Bool.rec none (some .nils) (Nat.beq (hi.getD 0) 0)) (Nat.beq (lo.getD 0) 0)
  | .bigs es' l m => Option.rec none (fun n => cutBig es es' l n lo hi) m.toNat
  | _ => none : Option V) := by
  cases x <;> first | rfl | (rename_i cap; cases lo <;> cases hi <;> cases cap <;> rfl) | (cases lo <;> cases hi <;> rfl)
theorem boundK_def {R : Type} (tm : Tm) (a : Option A) (K : Option Nat → Option R) : boundK tm a K = (Option.rec (K none) (fun a => evK tm (fun v => match v with | .int _ (.ofNat n) => K (some n) | _ => none) a) a : Option R) := by
  cases a with
  | none => rfl
  | some a => exact evK_same tm _ fun v => by cases v <;> first | rfl | exact evK_none tm _ | (rename_i n; cases n <;> rfl)
theorem idxB_def (es : Nat) (i : A) (tm : Tm) (es' : Nat) (l : List V) : idxB es i tm es' l = (fun R h K => evK tm (fun u => match u with | .int _ (.ofNat i) => Bool.rec none (Bool.rec none (K (.view (dropN l (Nat.mul i es))) h) (Nat.ble (Nat.mul (Nat.succ i) es) (len l))) (sameEs es es') | _ => none) i : Kal V) := by
  funext R h K; refine evK_same tm _ fun v => ?_
  cases v <;> first | rfl | exact evK_none tm _ | (rename_i n; cases n <;> rfl)
theorem idxK_def (es : Nat) (i : A) (tm : Tm) (b o n es' : Nat) : idxK es i tm b o n es' = (fun R h K => evK tm (fun u => match u with | .int _ (.ofNat i) => Bool.rec none (Bool.rec none (K (.ptr b (Nat.add o (Nat.mul i es))) h) (Nat.ble (Nat.succ i) n)) (Nat.beq es es') | _ => none) i : Kal V) := by
  funext R h K; refine evK_same tm _ fun v => ?_
  cases v <;> first | rfl | exact evK_none tm _ | (rename_i n; cases n <;> rfl)
theorem C.seqK_def (b : C) (F : CallF) (r : Out × Tm) : C.seqK b F r = (fun R h K => match r.1 with
    | .normal => b F r.2 R h K
    | o => K (o, r.2) h : Kal (Out × Tm)) := by
  funext R h K; obtain ⟨o, tm⟩ := r; cases o <;> rfl
theorem C.cond_def (x : A) (a b : C) : C.cond x a b = (fun F tm R h K => evK tm (fun v => match v with | .bool c => Bool.rec (b F tm R h K) (a F tm R h K) c | _ => none) x : C) := by
  funext F tm R h K; exact evK_same tm _ fun v => by cases v <;> first | rfl | exact evK_none tm _
theorem C.blockK_def (id : Nat) (r : Out × Tm) : C.blockK id r = (fun _ h K => match r.1 with
    | .exit j => Bool.rec (K (.exit j, r.2) h) (K (.normal, r.2) h) (Nat.beq j id)
    | o => K (o, r.2) h : Kal (Out × Tm)) := by
  funext R h K; obtain ⟨o, tm⟩ := r; cases o <;> rfl
theorem callRet_def (fc : FnC) (r : Out × Tm) : callRet fc r = (fun R h K => match r.1 with
    | .exit _ => none
    | _ => resK r.2 fc.res R h fun l h => K (oneOf l) h : Kal V) := by
  funext R h K; obtain ⟨o, tm⟩ := r; cases o <;> rfl
end
end Go.X
