/- A verified executor, part 13: structs and slices built, maps, slices made and cleared. -/
import Derived.Test.YtojfkhhebedeoaaGreatDoorXOpF
import Derived.MapKept
set_option linter.unusedVariables false
set_option linter.unusedSimpArgs false
set_option linter.unusedSectionVars false
namespace Go.X
open Go.RowKit
variable [Nu]

theorem rep_eq (z : List V) : ∀ n, rep n z = (List.replicate n z).flatten
  | 0 => rfl
  | n + 1 => by
    show cat z (rep n z) = _
    rw [cat_eq, rep_eq z n, List.replicate_succ, List.flatten_cons]

theorem range_cells {s : Nat} (z : Array Value) (hs : z.size = s) (n : Nat) : ((Array.range (n * s)).map (z[· % z.size]!)) = (List.replicate n z.toList).flatten.toArray := by
  by_cases h0 : s = 0
  · have hz : z.toList = [] := List.eq_nil_of_length_eq_zero (by rw [Array.length_toList]; omega)
    rw [h0, hz]
    apply Array.ext'
    simp
  · have hf := Great.flat_get (s := s) (by omega) (List.replicate n (Value.agg z)) (fun v hv => by rw [(List.mem_replicate.1 hv).2]; exact hs)
    apply Array.ext_getElem?
    intro k
    have e1 : (List.replicate n z.toList).flatten = (List.replicate n (Value.agg z)).flatMap fun v => v.cells.toList := by
      rw [List.flatMap_def, List.map_replicate]; rfl
    have e2 : ((List.replicate n (Value.agg z)).flatMap fun v => v.cells.toList).toArray[k]? = ((List.replicate n (Value.agg z)).flatMap fun v => v.cells.toList)[k]? := by simp
    rw [e1, e2, hf k]
    by_cases hk : k < n * s
    · have hd : k / s < n := Nat.div_lt_of_lt_mul (by rw [Nat.mul_comm]; exact hk)
      have hm : k % s < z.size := by rw [hs]; exact Nat.mod_lt _ (by omega)
      simp [hk, hd, Value.cells, hs, hm]
      rw [getElem!_pos z (k % s) hm, Array.getElem?_eq_getElem hm]
    · have hd : n ≤ k / s := (Nat.le_div_iff_mul_le (by omega)).2 (by omega)
      rw [Array.getElem?_eq_none (by simp; omega), List.getElem?_eq_none (by simp; omega)]
      rfl

theorem places_ok {Γ : Cx} : ∀ (fs : List Field), fs.all (fun f => (sizeT Γ f.type).isSome) = true → ∃ ps, fs.mapM (fun f => (Γ.P.info? f.type).map fun i => (f.offset, i.size)) = some ps ∧
    ∀ (i : Nat) (f : Field) (n : Nat), fs[i]? = some f → sizeT Γ f.type = some n → ps[i]? = some (f.offset, n)
  | [], _ => ⟨[], rfl, fun i f n h => by simp at h⟩
  | f :: fs, h => by
    rw [List.all_cons, Bool.and_eq_true] at h
    obtain ⟨ps, h1, h2⟩ := places_ok fs h.2
    obtain ⟨m, hm⟩ := Option.isSome_iff_exists.1 h.1
    obtain ⟨i0, hi0, hi1⟩ := sizeT_some hm
    refine ⟨(f.offset, m) :: ps, by rw [List.mapM_cons, hi0, h1]; simp [hi1], fun i g n hg hn => ?_⟩
    cases i with
    | zero => simp at hg; subst hg; rw [hm] at hn; simp only [Option.some.injEq] at hn; subst hn; rfl
    | succ i => simp at hg ⊢; exact h2 i g n hg hn

/-! keys of maps -/
/-- The type of the keys, as the code's bit has it. -/
def KeyT (str : Bool) (d : TypeDesc) : Prop := if str then d = .string else ∃ k, d = .int k

theorem checkKey_ok {P : Program} {w : World} {kt : TypeId} {d : TypeDesc} (hd : P.underlying kt = some d) {str : Bool} (hk : KeyT str d) (x : Value) (e : Bool) (n : Nat) : (Instr.checkKey e (n + 1) kt x).run P w = .ok () w := by
  unfold Instr.checkKey
  simp only [Sem.run_bind, run_underlying hd, Result.andThen]
  cases str with
  | true => simp only [KeyT, if_true] at hk; subst hk; rfl
  | false => simp only [KeyT, Bool.false_eq_true, if_false] at hk; obtain ⟨k, rfl⟩ := hk; rfl

theorem lookupM_cons (k : V) (p : V × V) (l : List (V × V)) : lookupM k (p :: l) = (match k, p.1 with
    | .int j x, .int j' y => Bool.rec none (Bool.rec (lookupM k l) (some (some p.2)) (ieq x y)) (kindEq j j')
    | .str x, .str y => Bool.rec (lookupM k l) (some (some p.2)) (sEq x y)
    | _, _ => none) := by
  obtain ⟨p1, p2⟩ := p
  cases k <;> first | rfl | (cases p1 <;> rfl)

theorem lookup_find {E : En} {str : Bool} {d : TypeDesc} (hk : KeyT str d) {kv : V} (hi : isKey str kv = true) {key : Value} (hkey : RV E kv key) : ∀ (es : List (V × V)) (ents : List MapEntry) (i : Nat) (r : Option V), RMap E es ents → lookupM kv es = some r →
    ∃ a, Instr.findNow d key ents i = some a ∧ (match r with | none => a = none | some v => ∃ j y, a = some (j, y) ∧ RV E v y)
  | [], ents, i, r, hm, hl => by
    rw [show ents = [] from hm]
    have : some none = some r := hl
    simp only [Option.some.injEq] at this
    subst this
    exact ⟨none, rfl, rfl⟩
  | p :: es, ents, i, r, hm, hl => by
    obtain ⟨e, rest, rfl, h1, h2, h3⟩ := hm
    rw [lookupM_cons] at hl
    cases kv with
    | int j x =>
      have hstr : str = false := by cases str <;> first | rfl | exact nomatch hi
      subst hstr
      simp only [KeyT, Bool.false_eq_true, if_false] at hk
      obtain ⟨k, rfl⟩ := hk
      cases hp : p.1 with
      | int j' y =>
        rw [hp] at hl h1
        dsimp only at hl
        obtain ⟨hj, hl2⟩ := (boolRec_some _ _ _).1 hl
        have hj2 := kindEq_eq hj
        clear hl hj
        rw [RV] at h1
        rw [RV] at hkey
        subst hkey
        subst hj2
        rw [Instr.findNow, h1]
        simp only [Instr.sameNow, if_true]
        rw [ieq_eq] at hl2
        cases hxy : x == y with
        | true =>
          rw [hxy] at hl2
          have hl' : some (some p.2) = some r := hl2
          simp only [Option.some.injEq] at hl'
          subst hl'
          exact ⟨_, rfl, _, _, rfl, h2⟩
        | false =>
          rw [hxy] at hl2
          exact lookup_find (str := false) ⟨k, rfl⟩ (kv := .int j x) rfl (by rw [RV]) es rest (i + 1) r h3 hl2
      | _ => rw [hp] at hl; exact nomatch hl
    | str x =>
      have hstr : str = true := by cases str <;> first | rfl | exact nomatch hi
      subst hstr
      simp only [KeyT, if_true] at hk
      subst hk
      cases hp : p.1 with
      | str y =>
        rw [hp] at hl h1
        rw [RV] at h1
        have hkey0 := hkey
        rw [RV] at hkey
        obtain ⟨t1, g1, g2⟩ := h1
        obtain ⟨t2, g3, g4⟩ := hkey
        subst g3
        dsimp only at hl
        rw [← g2, ← g4] at hl
        rw [Instr.findNow, g1]
        simp only [Instr.sameNow]
        have hse : sEq (t2.data.toList.map (·.toNat)) (t1.data.toList.map (·.toNat)) = (t2 == t1) := by
          rw [sEq_eq]
          by_cases e : t2 = t1
          · subst e
            rw [decide_eq_true rfl, eq_comm]
            exact (MapKept.bytes_beq _ _).2 rfl
          · have e1 : ¬ (t2 == t1) = true := fun h => e ((MapKept.bytes_beq _ _).1 h)
            have e2 : ¬ t2.data.toList.map (·.toNat) = t1.data.toList.map (·.toNat) := fun h => e (by
              have inj : ∀ (a b : List UInt8), a.map (·.toNat) = b.map (·.toNat) → a = b := by
                intro a
                induction a with
                | nil => intro b hb; cases b with
                  | nil => rfl
                  | cons _ _ => simp at hb
                | cons u a ih => intro b hb; cases b with
                  | nil => simp at hb
                  | cons v b => simp only [List.map_cons, List.cons.injEq] at hb; rw [UInt8.toNat_inj.1 hb.1, ih b hb.2]
              have := inj _ _ h
              obtain ⟨⟨l1⟩⟩ := t1
              obtain ⟨⟨l2⟩⟩ := t2
              dsimp only at this
              rw [this])
            rw [decide_eq_false e2]
            simp only [Bool.not_eq_true] at e1
            rw [e1]
        rw [hse] at hl
        cases hxy : t2 == t1 with
        | true =>
          rw [hxy] at hl
          have hl' : some (some p.2) = some r := hl
          simp only [Option.some.injEq] at hl'
          subst hl'
          exact ⟨_, rfl, _, _, rfl, h2⟩
        | false =>
          rw [hxy, g4] at hl
          exact lookup_find (str := true) rfl (kv := .str x) rfl hkey0 es rest (i + 1) r h3 hl
      | _ => rw [hp] at hl; exact nomatch hl
    | _ => exact nomatch hl

/-- What a block that is a map tells. -/
theorem Sim.map {w0 : World} {E : En} {h : H} {w : World} (s : Sim w0 E h w) {b : Nat} {es : List (V × V)} (hb : h.at b = some (.map es)) {r : Nat} (hr : E.mu b = some r) :
    ∃ ents clock, w.heap[r]? = some (.map ents clock) ∧ RMap E es ents.toList := by
  obtain ⟨r', ents, clock, h1, h2, h3⟩ := s.blk b _ hb
  rw [hr] at h1
  simp only [Option.some.injEq] at h1
  subst h1
  exact ⟨ents, clock, h2, h3⟩

section
variable {Γ : Cx} (hΓ : Γ.Ok) {w : Nat} {dst : Option Tmp} {ty : TypeId} {pos : String} {after : Array Edge} {guard : Option (Nat × Bool)}
include hΓ

theorem buildS_ok {t : TypeId} {fs : Array Field} (hu : Γ.P.underlying t = some (.struct fs)) {z : List V} (hz : zeroL Γ t = some z) (hfs : fs.toList.all (fun f => (sizeT Γ f.type).isSome) = true) {ps : Array (Nat × Operand)}
    {l : List (Nat × Nat × A)} (hc : cParts Γ w (structPlace Γ fs) ps.toList = some l) : OpOK Γ w ⟨dst, .build t ps, ty, pos, after, guard⟩ (I.build z l) := by
  intro F hA tm h v h' w0 E wd ar ds hr hs ht
  obtain ⟨i, zv, h1, h2, h3, h4⟩ := zeroL_some hz
  obtain ⟨places, h5, h6⟩ := places_ok fs.toList hfs
  obtain ⟨z', zs', e, q2, q3⟩ := fill_ok (ds := ds) (place' := (places.toArray[·]?)) hΓ (fun j q hq => by
    obtain ⟨f, g1, g2, g3⟩ := structPlace_some hq
    have := h6 j f q.2 (by rw [← g1]; simp) g3
    rw [List.getElem?_toArray, this, g2]) ht _ ps.toList l z zv.cells.toList _ hc (h3 E) hr
  refine pure_end (x := .agg zs'.toArray) e hs (by rw [RV]; exact ⟨zs', rfl, q2⟩) (yields_value ?_)
  refine run_build wd t _ _ ?_
  rw [Program.built, h1, hu]
  dsimp only
  rw [h2, h5]
  dsimp only
  rw [Array.toArray_toList] at q3
  rw [← q3, Array.toList_map]
theorem buildA_ok {t e : TypeId} {n : Nat} (hu : Γ.P.underlying t = some (.array n e)) {z : List V} (hz : zeroL Γ t = some z) {s : Nat} (hsz : sizeT Γ e = some s) {ps : Array (Nat × Operand)}
    {l : List (Nat × Nat × A)} (hc : cParts Γ w (fun i => some (i * s, s)) ps.toList = some l) : OpOK Γ w ⟨dst, .build t ps, ty, pos, after, guard⟩ (I.build z l) := by
  intro F hA tm h v h' w0 E wd ar ds hr hs ht
  obtain ⟨i, zv, h1, h2, h3, h4⟩ := zeroL_some hz
  obtain ⟨i0, hi0, hi1⟩ := sizeT_some hsz
  obtain ⟨z', zs', e', q2, q3⟩ := fill_ok (ds := ds) (place' := fun i => some (i * s, s)) hΓ (fun j q hq => hq) ht _ ps.toList l z zv.cells.toList _ hc (h3 E) hr
  refine pure_end (x := .agg zs'.toArray) e' hs (by rw [RV]; exact ⟨zs', rfl, q2⟩) (yields_value ?_)
  refine run_build wd t _ _ ?_
  rw [Program.built, h1, hu]
  dsimp only
  rw [h2, hi0]
  dsimp only
  rw [hi1]
  rw [Array.toArray_toList] at q3
  rw [← q3, Array.toList_map]
theorem slit_ok {t e : TypeId} {n : Nat} (hu : Γ.P.underlying t = some (.slice e)) {z : List V} (hz : zeroL Γ e = some z) (h1z : 1 ≤ z.length) (hn : n * z.length ≤ 65536) {ps : Array (Nat × Operand)}
    {l : List (Nat × Nat × A)} (hc : cParts Γ w (fun i => some (i * z.length, z.length)) ps.toList = some l) : OpOK Γ w ⟨dst, .buildSlice t n ps, ty, pos, after, guard⟩ (I.slit ((List.replicate n z).flatten) z.length n l) := by
  intro F hA tm h v h' w0 E wd ar ds hr hs ht
  obtain ⟨i, zv, h1, h2, h3, h4⟩ := zeroL_some hz
  have hlz := RVs_length (h3 E)
  have hz0 := RVs_rep (h3 E) n
  rw [rep_eq] at hz0
  obtain ⟨z', zs', e', q2, q3⟩ := fill_ok (ds := ds) (place' := fun i => some (i * z.length, z.length)) hΓ (fun j q hq => hq) ht _ ps.toList l _ _ _ hc hz0 hr
  obtain ⟨_, hnx, e'⟩ := (newCells_some _ _ h _ _).1 e'
  obtain ⟨hE, hs'⟩ := hs.cellsNew hnx [] q2 e true 0 TyOK.none
  simp only [Option.some.injEq, Prod.mk.injEq] at e'
  obtain ⟨rfl, rfl⟩ := e'
  refine ⟨_, _, .slice (some ⟨wd.heap.size, 0, none⟩) n n, hE, hs', by rw [RV]; exact ⟨h1z, _, n, En.set_mu _ _ _ _, rfl, Nat.le_refl _, rfl⟩, yields_value ?_⟩
  rw [← range_cells zv.cells (s := z.length) (by rw [← Array.length_toList, hlz]) n] at q3
  rw [List.append_nil]
  by_cases h0 : n = 0
  · subst h0
    rw [Nat.zero_mul] at q3
    have q4 : Instr.fill (fun i => some (i * z.length, z.length)) #[] ((ps.map fun x => (x.1, Act.eval ⟨ar, ds⟩ x.2))).toList = some zs'.toArray := by
      rw [← q3, Array.toList_map, Array.range_zero', Array.map_empty]
    rw [Array.toList_map] at q4
    simp [Instr.buildSlice, run_underlying hu, sizeOf, typeInfo, zeroValue, h1, ← h4, newRow]
    rw [Array.range_zero', Array.map_empty, q4]
    simp [run_newObj_alloc]
  · refine run_buildSlice wd t e n _ _ i zv hu h1 h2 (by rw [← h4]; omega) (by rw [← h4]; exact Nat.mul_ne_zero h0 (by omega)) ?_
    rw [← h4, ← q3, Array.toList_map]
theorem mkmap_ok {t : TypeId} : OpOK Γ w ⟨dst, .makeMap t none, ty, pos, after, guard⟩ I.mkmap := by
  intro F hA tm h v h' w0 E wd ar ds hr hs ht
  obtain ⟨hn, e⟩ := (new_some (.map []) (V × H) h (fun b h => some (V.map b, h)) _).1 hr
  have hE := En.le_set (hs.dom _ hn) wd.heap.size 0
  have hs' := hs.made hn (.map []) rfl (.map #[] 0) 0 ⟨wd.heap.size, #[], 0, En.set_mu _ _ _ _, by show (wd.heap.push _)[wd.heap.size]? = _; rw [Array.getElem?_push_size], rfl⟩
  simp only [Option.some.injEq, Prod.mk.injEq] at e
  obtain ⟨rfl, rfl⟩ := e
  refine ⟨_, _, .map (some wd.heap.size), hE, hs', by rw [RV]; exact ⟨_, En.set_mu _ _ _ _, rfl⟩, yields_value ?_⟩
  simp [Instr.makeMap, run_newObj_alloc]
theorem mkslice_ok {t e : TypeId} (hu : Γ.P.underlying t = some (.slice e)) {z : List V} (hz : zeroL Γ e = some z) {bytes : Nat} (hb : bytesT Γ e = some bytes) (h1z : 1 ≤ z.length) (h1b : 1 ≤ bytes) {x y : Operand} {a b : A}
    (hx : cA Γ w x = some a) (hy : cA Γ w y = some b) : OpOK Γ w ⟨dst, .makeSlice t x y, ty, pos, after, guard⟩ (I.mkslice z z.length bytes a b) := by
  intro F hA tm h v h' w0 E wd ar ds hr hs ht
  rw [I.mkslice_def] at hr
  obtain ⟨i, zv, h1, h2, h3, h4⟩ := zeroL_some hz
  have hby : i.bytes = bytes := by
    unfold bytesT at hb
    rw [h1] at hb
    simpa using hb
  obtain ⟨u, hu1, e1⟩ := (evK_some tm _ a _).1 hr
  have hxv := cA_ok (ds := ds) hΓ hx ht hu1
  cases u with
  | int k m =>
    cases k with
    | i64 =>
      cases m with
      | ofNat lN =>
        obtain ⟨u2, hu2, e2⟩ := (evK_some tm _ b _).1 e1
        have hyv := cA_ok (ds := ds) hΓ hy ht hu2
        cases u2 with
        | int k2 m2 =>
          cases k2 with
          | i64 =>
            cases m2 with
            | ofNat cN =>
              obtain ⟨hle, e3⟩ := ble_and e2
              obtain ⟨hroom, e4⟩ := ble_and e3
              obtain ⟨_, hnx, e5⟩ := (newCells_some _ _ h _ _).1 e4
              obtain ⟨hE, hs'⟩ := hs.cellsNew hnx [] (RVs_rep (h3 E) cN) e true 0 TyOK.none
              simp only [Option.some.injEq, Prod.mk.injEq] at e5
              obtain ⟨rfl, rfl⟩ := e5
              rw [RV] at hxv
              rw [RV] at hyv
              have hroom' : cN * bytes ≤ 1048576 := hroom
              have hcN : cN ≤ 1048576 := Nat.le_trans (Nat.le_mul_of_pos_right _ h1b) hroom'
              have hlz := RVs_length (h3 E)
              refine ⟨_, _, .slice (some ⟨wd.heap.size, 0, none⟩) lN cN, hE, hs', by rw [RV]; exact ⟨h1z, _, cN, En.set_mu _ _ _ _, rfl, hle, rfl⟩, yields_value ?_⟩
              rw [hxv, hyv]
              have hmk := run_make (P := Γ.P) wd t e i zv hu h1 h2 .i64 .i64 (Int.ofNat lN) (Int.ofNat cN) (Int.natCast_nonneg _) (Int.ofNat_le.2 hle) (by
                rw [hby]
                have : ((bytes * cN : Nat) : Int) ≤ 281474976710656 := by rw [Nat.mul_comm]; omega
                rw [Int.natCast_mul] at this; exact this) (by show (cN : Int) ≤ _; omega)
              rw [hmk]
              show Result.ok _ _ = _
              simp only [Int.ofNat_eq_natCast, Int.toNat_natCast, List.append_nil]
              rw [madeCells, ← h4, range_cells zv.cells (s := z.length) (by rw [← Array.length_toList, hlz]) cN]
            | _ => exact nomatch e2
          | _ => exact nomatch e2
        | _ => exact nomatch e2
      | _ => exact nomatch e1
    | _ => exact nomatch e1
  | _ => exact nomatch e1
theorem look_ok {t kt e : TypeId} {d : TypeDesc} (hu : Γ.P.underlying t = some (.map kt e)) (hd : Γ.P.underlying kt = some d) {str : Bool} (hk : KeyT str d) {i : TypeInfo} (hi : Γ.P.info? e = some i) {zv : Value} (hz : i.zero = some zv) {z : V} (hz' : ofV zv = some z)
    {x y : Operand} {a b : A} {ok : Bool} (hx : cA Γ w x = some a) (hy : cA Γ w y = some b) : OpOK Γ w ⟨dst, .lookup t x y ok, ty, pos, after, guard⟩ (I.look str ok z a b) := by
  intro F hA tm h v h' w0 E wd ar ds hr hs ht
  rw [I.look_def] at hr
  obtain ⟨u, hu1, e1⟩ := (evK_some tm _ a _).1 hr
  have hxv := cA_ok (ds := ds) hΓ hx ht hu1
  cases u with
  | map bl =>
    obtain ⟨kv, hk1, e2⟩ := (evK_some tm _ b _).1 e1
    have hyv := cA_ok (ds := ds) hΓ hy ht hk1
    obtain ⟨q, hq, _, e3⟩ := (read_some _ _ _ _ _).1 e2
    cases q with
    | map es =>
      obtain ⟨hik, e4⟩ := (boolRec_some _ _ _).1 e3
      obtain ⟨r, hr1, e5⟩ := (optRec_some _ _ _).1 e4
      rw [RV] at hxv
      obtain ⟨rr, hrr, hxv⟩ := hxv
      obtain ⟨ents, clock, g1, g2⟩ := hs.map hq hrr
      obtain ⟨fa, g3, g4⟩ := lookup_find hk hik hyv es ents.toList 0 r g2 hr1
      have hz2 := ofV_RV E zv z hz'
      simp only [Option.some.injEq, Prod.mk.injEq] at e5
      obtain ⟨e5, rfl⟩ := e5
      have hck := checkKey_ok (w := wd) (P := Γ.P) hd hk (Act.eval ⟨ar, ds⟩ y) ents.isEmpty 9999
      have hfk := MapKept.run_findKey (P := Γ.P) (w := wd) hd g3
      have hrz := r_zero (P := Γ.P) wd hi hz
      cases r with
      | none =>
        dsimp only at g4
        subst g4
        cases ok with
        | false =>
          refine ⟨E, wd, zv, En.le_refl E, hs.note bl, by rw [← e5]; exact hz2, yields_value ?_⟩
          simp [Instr.lookup, run_underlying hu, hxv, MapKept.run_getObj_map g1, hck, hfk, hrz]
        | true =>
          refine ⟨E, wd, .tuple #[zv, .bool false], En.le_refl E, hs.note bl, by rw [← e5, RV]; exact ⟨[zv, .bool false], rfl, RVs_mk hz2 (RVs_one (by rw [RV]))⟩, yields_value ?_⟩
          simp [Instr.lookup, run_underlying hu, hxv, MapKept.run_getObj_map g1, hck, hfk, hrz]
      | some v1 =>
        obtain ⟨j, y1, rfl, g5⟩ := g4
        cases ok with
        | false =>
          refine ⟨E, wd, y1, En.le_refl E, hs.note bl, by rw [← e5]; exact g5, yields_value ?_⟩
          simp [Instr.lookup, run_underlying hu, hxv, MapKept.run_getObj_map g1, hck, hfk]
        | true =>
          refine ⟨E, wd, .tuple #[y1, .bool true], En.le_refl E, hs.note bl, by rw [← e5, RV]; exact ⟨[y1, .bool true], rfl, RVs_mk g5 (RVs_one (by rw [RV]))⟩, yields_value ?_⟩
          simp [Instr.lookup, run_underlying hu, hxv, MapKept.run_getObj_map g1, hck, hfk]
    | _ => exact nomatch e3
  | _ => exact nomatch e1
theorem insert_ok {t kt e : TypeId} {d : TypeDesc} (hu : Γ.P.underlying t = some (.map kt e)) (hd : Γ.P.underlying kt = some d) {str : Bool} (hk : KeyT str d)
    {x y z : Operand} {a b c : A} (hx : cA Γ w x = some a) (hy : cA Γ w y = some b) (hz : cA Γ w z = some c) : OpOK Γ w ⟨dst, .insert t x y z, ty, pos, after, guard⟩ (I.insert str a b c) := by
  intro F hA tm h v h' w0 E wd ar ds hr hs ht
  rw [I.insert_def] at hr
  obtain ⟨u, hu1, e1⟩ := (evK_some tm _ a _).1 hr
  have hxv := cA_ok (ds := ds) hΓ hx ht hu1
  cases u with
  | map bl =>
    obtain ⟨kv, hk1, e2⟩ := (evK_some tm _ b _).1 e1
    have hyv := cA_ok (ds := ds) hΓ hy ht hk1
    obtain ⟨xv, hz1, e3⟩ := (evK_some tm _ c _).1 e2
    have hzv := cA_ok (ds := ds) hΓ hz ht hz1
    obtain ⟨q, hq, _, e4⟩ := (read_some _ _ _ _ _).1 e3
    cases q with
    | map es =>
      obtain ⟨hik, e5⟩ := (boolRec_some _ _ _).1 e4
      cases hl : lookupM kv es with
      | none => rw [hl] at e5; exact nomatch e5
      | some r =>
        cases r with
        | some _ => rw [hl] at e5; exact nomatch e5
        | none =>
          rw [hl] at e5
          obtain ⟨_, _, e6⟩ := (write_some _ _ _ _ _ _).1 e5
          rw [RV] at hxv
          obtain ⟨rr, hrr, hxv⟩ := hxv
          obtain ⟨ents, clock, g1, g2⟩ := hs.map hq hrr
          obtain ⟨fa, g3, g4⟩ := lookup_find hk hik hyv es ents.toList 0 none g2 hl
          dsimp only at g4
          subst g4
          simp only [Option.some.injEq, Prod.mk.injEq] at e6
          obtain ⟨rfl, rfl⟩ := e6
          have hck := checkKey_ok (w := wd) (P := Γ.P) hd hk (Act.eval ⟨ar, ds⟩ y) false 9999
          have hfk := MapKept.run_findKey (P := Γ.P) (w := wd) hd g3
          obtain ⟨hset1, hset2⟩ := MapKept.heap_set (o' := .map (ents.push { key := Act.eval ⟨ar, ds⟩ y, val := Act.eval ⟨ar, ds⟩ z, born := clock }) (clock + 1)) g1
          refine ⟨E, { wd with heap := wd.heap.setIfInBounds rr (.map (ents.push { key := Act.eval ⟨ar, ds⟩ y, val := Act.eval ⟨ar, ds⟩ z, born := clock }) (clock + 1)) }, Go.undef, En.le_refl E, ?_, by rw [undef, RV]; exact ⟨[], rfl, RVs_none⟩, yields_unit ?_⟩
          · refine (hs.note bl).wrote (k := .map es) (by rw [H.note_at]; exact hq) rfl hrr _ (fun _ => rfl) _ ⟨rr, _, _, hrr, hset1, ?_⟩ hset2 (by simp) rfl rfl rfl
            rw [Array.toList_push]
            exact RMap_snoc (p := (kv, xv)) g2 hyv hzv
          · simp [Instr.mapUpdate, run_underlying hu, hxv, MapKept.run_getObj_map g1, hck, hfk, MapKept.run_setObj_map _ g1]
    | _ => exact nomatch e4
  | _ => exact nomatch e1
theorem clear_ok {t e : TypeId} (hu : Γ.P.underlying t = some (.slice e)) {z : List V} (hz : zeroL Γ e = some z) {x : Operand} {a : A} (hx : cA Γ w x = some a) :
    OpOK Γ w ⟨dst, .call ⟨.builtin .clear, #[x], #[t]⟩, ty, pos, after, guard⟩ (I.clear z a) := by
  intro F hA tm h v h' w0 E wd ar ds hr hs ht
  rw [I.clear_def] at hr
  obtain ⟨i, zv, h1, h2, h3, h4⟩ := zeroL_some hz
  have hlz := RVs_length (h3 E)
  obtain ⟨u, hu1, e1⟩ := (evK_some tm _ a _).1 hr
  have hxv := cA_ok (ds := ds) hΓ hx ht hu1
  have hud : RV E undef Go.undef := by rw [undef, RV]; exact ⟨[], rfl, RVs_none⟩
  cases u with
  | slice b o n es cap =>
    obtain ⟨hes, e2⟩ := beq_and e1
    obtain ⟨h0, c, y1, hb, hle, e3⟩ := stN_some _ _ _ _ _ _ _ e2
    rw [RV] at hxv
    obtain ⟨_, r, cp, hr1, hxv, _, _⟩ := hxv
    have hrep := RVs_rep (h3 E) n
    simp only [Option.some.injEq, Prod.mk.injEq] at e3
    obtain ⟨rfl, rfl⟩ := e3
    have hst := hs.stores (P := Γ.P) hb hr1 hrep h0 hle
    refine ⟨E, _, Go.undef, En.le_refl E, hs.stored hb hr1 hrep hle, hud, .inl ?_⟩
    cases n with
    | zero =>
      simp [execOp, resolve, invoke, builtin, hxv, Builtin.clear_, run_underlying hu, World.setCells, Go.undef]
    | succ n =>
      have hzc : (Builtin.zeroCells zv.cells (n + 1)).toList = (List.replicate (n + 1) zv.cells.toList).flatten := by
        rw [Builtin.zeroCells, range_cells zv.cells rfl]
      simp [execOp, resolve, invoke, builtin, hxv, Builtin.clear_, run_underlying hu, r_zero wd h1 h2, hzc, hst, Go.undef]
  | emp =>
    rw [RV] at hxv
    obtain ⟨q, cp, hxv⟩ := hxv
    refine pure_end (x := Go.undef) e1 hs hud (.inl ?_)
    simp [execOp, resolve, invoke, builtin, hxv, Builtin.clear_, run_underlying hu, Go.undef]
  | nils =>
    rw [RV] at hxv
    refine pure_end (x := Go.undef) e1 hs hud (.inl ?_)
    simp [execOp, resolve, invoke, builtin, hxv, Builtin.clear_, run_underlying hu, Go.undef]
  | _ => exact nomatch e1
end
end Go.X
