/- A verified executor, part 2: the abstract memory, and calculations over it ('Good': they end in one way, and what they do hangs on the blocks that they note alone). -/
import Derived.Test.YtojfkhhebedeoaaGreatDoorXTr
set_option linter.unusedVariables false
namespace Go.X
noncomputable section

/-- An abstract value. Blocks bear numbers of their own; a capacity may be unknown ('none': to the end of the block, wherever that is). -/
inductive V where
  | int (k : IntKind) (n : Int)
  | bool (b : Bool)
  | str (s : List Nat)
  | ptr (b o : Nat)
  | nilp
  | slice (b o len es : Nat) (cap : Option Nat)
  | nils
  | emp        -- an empty slice, not nil, somewhere
  | map (b : Nat)
  | nilmap
  | fn (fn : Fn) (first captured : List V)
  | nilfn
  | iface (t : Nat) (v : V)
  | nili
  | agg (l : List V)
  | sym (k : IntKind) (i : Nat)                -- a whole number that is only named
  | bigs (es : Nat) (l : List V) (n : V)        -- a slice of memory that was there before: its first cells, its length
  | view (l : List V)                          -- an address in memory that was there before: the cells that lie there
  | tup (l : List V)
  | yld (b : Nat)                                -- the function that a range over a function hands on

/-- How a piece of code ends. -/
inductive Out where
  | normal
  | exit (id : Nat)
  | ret

/-- An abstract block: cells (those that are known), a map, one that must not be used any more, or the record of a range over a function: the function's number, the loop's, its state, the pending jump, the temporaries. -/
inductive Blk where
  | cells (c : List V) (w : Bool) (y : Nat)
  | map (es : List (V × V))
  | dead
  | loop (g j st : Nat) (pend : Out) (tm : Tp V)

structure H where
  hp : Th Blk
  nx : Nat
  lg : Bool
  log : List (Nat × Bool)

def H.at (h : H) (b : Nat) : Option Blk := h.hp.get b
def H.note (h : H) (b : Nat) : H := Bool.rec h ⟨h.hp, h.nx, h.lg, (b, false) :: h.log⟩ h.lg
def H.wrote (h : H) (b : Nat) (k : Blk) : H := H.rec (fun hp nx lg log => Bool.rec ⟨hp.put k b, nx, false, log⟩ ⟨hp.put k b, nx, true, (b, true) :: log⟩ lg) h
def H.made (h : H) (k : Blk) : H := H.rec (fun hp nx lg log => ⟨hp.put k nx, Nat.succ nx, lg, log⟩) h
/-- One list behind the other. -/
def cat {α : Type} (a b : List α) : List α := List.rec b (fun x _ ih => x :: ih) a
theorem cat_eq {α : Type} : ∀ (a b : List α), cat a b = a ++ b
  | [], _ => rfl
  | x :: a, b => congrArg (x :: ·) (cat_eq a b)

theorem H.note_at (h : H) (b j : Nat) : (h.note b).at j = h.at j := by unfold H.note; cases h.lg <;> rfl
theorem H.note_nx (h : H) (b : Nat) : (h.note b).nx = h.nx := by unfold H.note; cases h.lg <;> rfl
theorem H.note_lg (h : H) (b : Nat) : (h.note b).lg = h.lg := by
  unfold H.note; cases e : h.lg
  · exact e
  · rfl
theorem H.note_log (h : H) (b : Nat) (e : h.lg = true) : (h.note b).log = (b, false) :: h.log := by unfold H.note; rw [e]
theorem H.wrote_at (h : H) (b : Nat) (k : Blk) (j : Nat) : (h.wrote b k).at j = if j = b then some k else h.at j := by
  obtain ⟨hp, nx, lg, log⟩ := h
  cases lg <;> exact Th.get_put _ _ _ _
theorem H.wrote_lg (h : H) (b : Nat) (k : Blk) : (h.wrote b k).lg = h.lg := by
  obtain ⟨hp, nx, lg, log⟩ := h
  cases lg <;> rfl
theorem H.wrote_nx (h : H) (b : Nat) (k : Blk) : (h.wrote b k).nx = h.nx := by
  obtain ⟨hp, nx, lg, log⟩ := h
  cases lg <;> rfl
theorem H.wrote_log (h : H) (b : Nat) (k : Blk) (e : h.lg = true) : (h.wrote b k).log = (b, true) :: h.log := by
  obtain ⟨hp, nx, lg, log⟩ := h
  cases lg
  · exact nomatch e
  · rfl
theorem H.made_at (h : H) (k : Blk) (j : Nat) : (h.made k).at j = if j = h.nx then some k else h.at j := Th.get_put _ _ _ _

/-- What a calculation does hangs on the blocks that its log names, alone; and it turns no others. -/
def Local {α : Type} (f : H → Option (α × H)) : Prop :=
  ∀ h a h', f h = some (a, h') → h.lg = true →
    ∃ l, h'.log = l ++ h.log ∧ h'.lg = true ∧ h.nx ≤ h'.nx ∧ (∀ b w, (b, w) ∈ l → b < h'.nx) ∧
      (∀ b, (b, true) ∉ l → ¬(h.nx ≤ b ∧ b < h'.nx) → h'.at b = h.at b) ∧
      ∀ g : H, g.lg = true → g.nx = h.nx → (∀ b w, (b, w) ∈ l → b < h.nx → g.at b = h.at b) → (∀ b, h.nx ≤ b → b < h'.nx → g.at b = h.at b) →
        ∃ g', f g = some (a, g') ∧ g'.log = l ++ g.log ∧ g'.lg = true ∧ g'.nx = h'.nx ∧
          (∀ b, ((b, true) ∈ l ∨ (h.nx ≤ b ∧ b < h'.nx)) → g'.at b = h'.at b) ∧ (∀ b, (b, true) ∉ l → ¬(h.nx ≤ b ∧ b < h'.nx) → g'.at b = g.at b)

theorem Local.pure {α : Type} (a : α) : Local (fun h => some (a, h)) := by
  intro h a' h' e hl
  simp only [Option.some.injEq, Prod.mk.injEq] at e
  obtain ⟨rfl, rfl⟩ := e
  refine ⟨[], rfl, hl, Nat.le_refl _, fun _ _ h => (nomatch h), fun _ _ _ => rfl, fun g hg hn _ _ => ⟨g, rfl, rfl, hg, hn, fun b hb => ?_, fun _ _ _ => rfl⟩⟩
  rcases hb with hb | ⟨h1, h2⟩
  · exact nomatch hb
  · omega

theorem Local.fail {α : Type} : Local (fun _ => (none : Option (α × H))) := fun _ _ _ e => (nomatch e)

theorem Local.bind {α β : Type} {f : H → Option (α × H)} {k : α → H → Option (β × H)} {q : H → Option (β × H)} (hf : Local f) (hk : ∀ a, Local (k a))
    (hq : ∀ h b h2, q h = some (b, h2) ↔ ∃ a h1, f h = some (a, h1) ∧ k a h1 = some (b, h2)) : Local q := by
  intro h r h2 e hl
  obtain ⟨a, h1, hfe, e⟩ := (hq h r h2).1 e
  obtain ⟨l1, e1, hl1, n1, b1, u1, a1⟩ := hf h a h1 hfe hl
  obtain ⟨l2, e2, hl2, n2, b2, u2, a2⟩ := hk a h1 r h2 e hl1
  refine ⟨l2 ++ l1, by rw [e2, e1, List.append_assoc], hl2, Nat.le_trans n1 n2, ?_, ?_, ?_⟩
  · intro b w hm
    rcases List.mem_append.1 hm with hm | hm
    · exact b2 b w hm
    · exact Nat.lt_of_lt_of_le (b1 b w hm) n2
  · intro b hb hn
    have hb2 : (b, true) ∉ l2 := fun hm => hb (List.mem_append.2 (.inl hm))
    have hb1 : (b, true) ∉ l1 := fun hm => hb (List.mem_append.2 (.inr hm))
    rw [u2 b hb2 (by omega), u1 b hb1 (by omega)]
  · intro g hg hgn hgl hgf
    obtain ⟨g1, f1, q1, ql1, qn1, qw1, qu1⟩ := a1 g hg hgn (fun b w hm hb => hgl b w (List.mem_append.2 (.inr hm)) hb) (fun b h1 h2 => hgf b h1 (by omega))
    have agree : ∀ b, (b < h.nx → (∃ w, (b, w) ∈ l2) → g.at b = h.at b) → (h1.nx ≤ b → b < h2.nx → g.at b = h.at b) → ((∃ w, (b, w) ∈ l2) ∧ b < h1.nx ∨ h1.nx ≤ b ∧ b < h2.nx) → g1.at b = h1.at b := by
      intro b p1 p2 p3
      by_cases c1 : (b, true) ∈ l1
      · exact qw1 b (.inl c1)
      · by_cases c2 : h.nx ≤ b ∧ b < h1.nx
        · exact qw1 b (.inr c2)
        · rw [qu1 b c1 c2, u1 b c1 c2]
          rcases p3 with ⟨pw, pl⟩ | ⟨pl, pr⟩
          · exact p1 (by omega) pw
          · exact p2 pl pr
    obtain ⟨g2, f2, r1, rl1, rn1, rw1, ru1⟩ := a2 g1 ql1 qn1
      (fun b w hm hb => agree b (fun hb' ⟨w', hm'⟩ => hgl b w' (List.mem_append.2 (.inl hm')) hb') (fun h1 h2 => hgf b (by omega) h2) (.inl ⟨⟨w, hm⟩, hb⟩))
      (fun b h1 h2 => agree b (fun hb' ⟨w', hm'⟩ => hgl b w' (List.mem_append.2 (.inl hm')) hb') (fun h1 h2 => hgf b (by omega) h2) (.inr ⟨h1, h2⟩))
    refine ⟨g2, (hq g r g2).2 ⟨a, g1, f1, f2⟩, by rw [r1, q1, List.append_assoc], rl1, rn1, ?_, ?_⟩
    · intro b hb
      by_cases c2 : (b, true) ∈ l2 ∨ (h1.nx ≤ b ∧ b < h2.nx)
      · exact rw1 b c2
      · have c2' : (b, true) ∉ l2 := fun c => c2 (.inl c)
        have c3' : ¬(h1.nx ≤ b ∧ b < h2.nx) := fun c => c2 (.inr c)
        rw [ru1 b c2' c3', u2 b c2' c3']
        apply qw1
        rcases hb with hb | hb
        · rcases List.mem_append.1 hb with hb | hb
          · exact absurd hb c2'
          · exact .inl hb
        · exact .inr (by omega)
    · intro b hb hn
      have hb2 : (b, true) ∉ l2 := fun hm => hb (List.mem_append.2 (.inl hm))
      have hb1 : (b, true) ∉ l1 := fun hm => hb (List.mem_append.2 (.inr hm))
      rw [ru1 b hb2 (by omega), qu1 b hb1 (by omega)]

/-- A memory within another one: of one length, noted alike. -/
structure H.sub (h g : H) : Prop where
  nx : g.nx = h.nx
  lg : g.lg = h.lg
  log : g.log = h.log
  blk : ∀ b k, h.at b = some k → g.at b = some k
theorem H.sub_note {h g : H} (s : h.sub g) (b : Nat) : (h.note b).sub (g.note b) := by
  obtain ⟨hp, nx, lg, log⟩ := h
  obtain ⟨gp, gx, gl, gg⟩ := g
  obtain ⟨s1, s2, s3, s4⟩ := s
  dsimp only at s1 s2 s3
  subst s1 s2 s3
  cases gl
  · exact ⟨rfl, rfl, rfl, s4⟩
  · exact ⟨rfl, rfl, rfl, s4⟩
theorem H.sub_wrote {h g : H} (s : h.sub g) (b : Nat) (k : Blk) : (h.wrote b k).sub (g.wrote b k) := by
  have hb : ∀ j k', (h.wrote b k).at j = some k' → (g.wrote b k).at j = some k' := fun j k' e => by
    rw [H.wrote_at] at e ⊢
    by_cases c : j = b
    · rw [if_pos c] at e ⊢; exact e
    · rw [if_neg c] at e ⊢; exact s.blk j k' e
  refine ⟨by rw [H.wrote_nx, H.wrote_nx, s.nx], by rw [H.wrote_lg, H.wrote_lg, s.lg], ?_, hb⟩
  obtain ⟨hp, nx, lg, log⟩ := h
  obtain ⟨gp, gx, gl, gg⟩ := g
  obtain ⟨s1, s2, s3, s4⟩ := s
  dsimp only at s1 s2 s3
  subst s1 s2 s3
  cases gl <;> rfl
theorem H.sub_made {h g : H} (s : h.sub g) (k : Blk) : (h.made k).sub (g.made k) :=
  ⟨congrArg Nat.succ s.nx, s.lg, s.log, fun j k' e => by
    rw [H.made_at] at e ⊢
    rw [s.nx]
    by_cases c : j = h.nx
    · rw [if_pos c] at e ⊢; exact e
    · rw [if_neg c] at e ⊢; exact s.blk j k' e⟩
/-- What a calculation does in a memory it does in any that holds it; what is beside it stays. -/
def Ext {α : Type} (f : H → Option (α × H)) : Prop :=
  ∀ h a h', f h = some (a, h') → h.nx ≤ h'.nx ∧ (∀ b, h.at b = none → ¬(h.nx ≤ b ∧ b < h'.nx) → h'.at b = none) ∧ ∀ g, h.sub g → (∀ b, h.nx ≤ b → b < h'.nx → g.at b = none) →
    ∃ g', f g = some (a, g') ∧ h'.sub g' ∧ ∀ b, h.at b = none → ¬(h.nx ≤ b ∧ b < h'.nx) → g'.at b = g.at b
theorem Ext.pure {α : Type} (a : α) : Ext (fun h => some (a, h)) := fun h a' h' e => by
  simp only [Option.some.injEq, Prod.mk.injEq] at e
  obtain ⟨rfl, rfl⟩ := e
  exact ⟨Nat.le_refl _, fun _ hb _ => hb, fun g s _ => ⟨g, rfl, s, fun _ _ _ => rfl⟩⟩
theorem Ext.fail {α : Type} : Ext (fun _ => (none : Option (α × H))) := fun _ _ _ e => (nomatch e)
theorem Ext.bind {α β : Type} {f : H → Option (α × H)} {k : α → H → Option (β × H)} {q : H → Option (β × H)} (hf : Ext f) (hk : ∀ a, Ext (k a))
    (hq : ∀ h b h2, q h = some (b, h2) ↔ ∃ a h1, f h = some (a, h1) ∧ k a h1 = some (b, h2)) : Ext q := by
  intro h r h2 e
  obtain ⟨a, h1, e1, e2⟩ := (hq h r h2).1 e
  obtain ⟨n1, y1, x1⟩ := hf h a h1 e1
  obtain ⟨n2, y2, x2⟩ := hk a h1 r h2 e2
  refine ⟨Nat.le_trans n1 n2, fun b hb hr => y2 b (y1 b hb (by omega)) (by omega), fun g s hg => ?_⟩
  obtain ⟨g1, f1, s1, u1⟩ := x1 g s fun b c1 c2 => hg b c1 (by omega)
  have hn : ∀ b, g.at b = none → h.at b = none := fun b hb => by
    cases e : h.at b with
    | none => rfl
    | some k => rw [s.blk b k e] at hb; exact nomatch hb
  obtain ⟨g2, f2, s2, u2⟩ := x2 g1 s1 fun b c1 c2 => by
    have := hg b (by omega) c2
    rw [u1 b (hn b this) (by omega), this]
  refine ⟨g2, (hq _ _ _).2 ⟨a, g1, f1, f2⟩, s2, fun b hb hr => ?_⟩
  rw [u2 b (y1 b hb (by omega)) (by omega), u1 b hb (by omega)]

/-- A calculation that hands on what it comes to. -/
abbrev Kal (α : Type) := (R : Type) → H → (α → H → Option R) → Option R

def run {α : Type} (f : Kal α) (h : H) : Option (α × H) := f (α × H) h fun a h' => some (a, h')

structure Good {α : Type} (f : Kal α) : Prop where
  law : ∀ (R : Type) (h : H) (K : α → H → Option R) (r : R), f R h K = some r ↔ ∃ a h', run f h = some (a, h') ∧ K a h' = some r
  loc : Local (run f)
  ext : Ext (run f)

/-- What the first comes to, if it comes to something, the second comes to. -/
def Le {R : Type} (x y : Option R) : Prop := ∀ r, x = some r → y = some r
theorem Le.refl {R : Type} (x : Option R) : Le x x := fun _ h => h
theorem Le.trans {R : Type} {x y z : Option R} (h : Le x y) (h' : Le y z) : Le x z := fun r e => h' r (h r e)
theorem Le.none {R : Type} (y : Option R) : Le Option.none y := fun _ h => nomatch h
/-- So of calculations. -/
def KLe {α : Type} (f g : Kal α) : Prop := ∀ (R : Type) (h : H) (K K' : α → H → Option R), (∀ a h, Le (K a h) (K' a h)) → Le (f R h K) (g R h K')
theorem Good.kle {α : Type} {f : Kal α} (hf : Good f) : KLe f f := fun R h K K' hk r e => by
  obtain ⟨a, h', e1, e2⟩ := (hf.law _ _ _ _).1 e
  exact (hf.law _ _ _ _).2 ⟨a, h', e1, hk a h' r e2⟩

theorem Good.pure {α : Type} (a : α) : Good (fun _ h K => K a h) :=
  ⟨fun R h K r => ⟨fun e => ⟨a, h, rfl, e⟩, fun ⟨a', h', e1, e2⟩ => by simp only [run, Option.some.injEq, Prod.mk.injEq] at e1; obtain ⟨rfl, rfl⟩ := e1; exact e2⟩, Local.pure a, Ext.pure a⟩

theorem Good.fail {α : Type} : Good (fun _ _ _ => none : Kal α) :=
  ⟨fun R h K r => ⟨fun e => (nomatch e), fun ⟨_, _, e1, _⟩ => (nomatch e1)⟩, Local.fail, Ext.fail⟩

theorem Good.bind {α β : Type} {f : Kal α} {k : α → Kal β} (hf : Good f) (hk : ∀ a, Good (k a)) : Good (fun R h K => f R h fun a h1 => k a R h1 K) := by
  have q : ∀ h b h2, run (fun R h K => f R h fun a h1 => k a R h1 K) h = some (b, h2) ↔ ∃ a h1, run f h = some (a, h1) ∧ run (k a) h1 = some (b, h2) :=
    fun h b h2 => hf.law _ h _ _
  refine ⟨fun R h K r => ?_, Local.bind hf.loc (fun a => (hk a).loc) q, Ext.bind hf.ext (fun a => (hk a).ext) q⟩
  constructor
  · intro e
    obtain ⟨a, h1, e1, e2⟩ := (hf.law _ _ _ _).1 e
    obtain ⟨b, h2, e3, e4⟩ := ((hk a).law _ _ _ _).1 e2
    exact ⟨b, h2, (q h b h2).2 ⟨a, h1, e1, e3⟩, e4⟩
  · rintro ⟨b, h2, e1, e2⟩
    obtain ⟨a, h1, e3, e4⟩ := (q h b h2).1 e1
    exact (hf.law _ _ _ _).2 ⟨a, h1, e3, ((hk a).law _ _ _ _).2 ⟨b, h2, e4, e2⟩⟩

theorem Good.run_bind {α β : Type} {f : Kal α} {k : α → Kal β} (hf : Good f) {h : H} {b : β} {h2 : H} :
    run (fun R h K => f R h fun a h1 => k a R h1 K) h = some (b, h2) ↔ ∃ a h1, run f h = some (a, h1) ∧ run (k a) h1 = some (b, h2) := hf.law _ h _ _

/-- What needs no memory. -/
def lift {α : Type} (o : Option α) : Kal α := fun _ h K => Option.rec none (fun a => K a h) o
theorem Good.lift {α : Type} (o : Option α) : Good (lift o) := by
  cases o with
  | none => exact Good.fail
  | some a => exact Good.pure a
theorem run_lift {α : Type} {o : Option α} {h : H} {a : α} {h' : H} : run (lift o) h = some (a, h') ↔ o = some a ∧ h' = h := by
  cases o with
  | none => exact ⟨fun e => (nomatch e), fun ⟨e, _⟩ => (nomatch e)⟩
  | some v =>
    constructor
    · intro e
      have e' : some (v, h) = some (a, h') := e
      simp only [Option.some.injEq, Prod.mk.injEq] at e'
      exact ⟨by rw [e'.1], e'.2.symm⟩
    · rintro ⟨e1, rfl⟩
      simp only [Option.some.injEq] at e1
      rw [e1]; rfl
theorem run_pure {α : Type} {v : α} {h : H} {a : α} {h' : H} : run (fun _ h K => K v h) h = some (a, h') ↔ a = v ∧ h' = h := by
  constructor
  · intro e
    have e' : some (v, h) = some (a, h') := e
    simp only [Option.some.injEq, Prod.mk.injEq] at e'
    exact ⟨e'.1.symm, e'.2.symm⟩
  · rintro ⟨rfl, rfl⟩; rfl

theorem ble_if {β : Type} (k j : Nat) (a b : β) : (Bool.rec a b (Nat.ble k j) : β) = if k ≤ j then b else a := by
  by_cases h : k ≤ j
  · rw [if_pos h, Nat.ble_eq_true_of_le h]
  · rw [if_neg h]
    cases hb : Nat.ble k j with
    | false => rfl
    | true => exact absurd (Nat.le_of_ble_eq_true hb) h

def read (b : Nat) : Kal Blk := fun R h K => H.rec (fun hp nx lg log => Option.rec none (fun k => Bool.rec none (Bool.rec (K k h) (K k ⟨hp, nx, true, (b, false) :: log⟩) lg) (Nat.ble (Nat.succ b) nx)) (hp.get b)) h
theorem read_eq (b : Nat) (R : Type) (h : H) (K : Blk → H → Option R) : read b R h K = Th.getK (fun k => Bool.rec none (Bool.rec (K k h) (K k ⟨h.hp, h.nx, h.lg, (b, false) :: h.log⟩) h.lg) (Nat.ble (Nat.succ b) h.nx)) h.hp b := by
  obtain ⟨hp, nx, lg, log⟩ := h
  cases lg <;> rfl
theorem note_rec (b : Nat) (h : H) (k : Blk) (R : Type) (K : Blk → H → Option R) : (Bool.rec (K k h) (K k ⟨h.hp, h.nx, h.lg, (b, false) :: h.log⟩) h.lg : Option R) = K k (h.note b) := by
  unfold H.note; cases h.lg <;> rfl
def write (b : Nat) (k : Blk) : Kal Unit := fun _ h K => Th.getK (fun _ => Bool.rec none (K () (h.wrote b k)) (Nat.ble (Nat.succ b) h.nx)) h.hp b
def newB (k : Blk) : Kal Nat := fun R h K => H.rec (fun hp nx lg log => Nat.rec (Option.rec (K Nat.zero ⟨hp.put k Nat.zero, Nat.succ Nat.zero, lg, log⟩) (fun _ => none) (hp.get Nat.zero))
  (fun m _ => Option.rec (K (Nat.succ m) ⟨hp.put k (Nat.succ m), Nat.succ (Nat.succ m), lg, log⟩) (fun _ => none) (hp.get (Nat.succ m))) nx) h
theorem newB_eq (k : Blk) (R : Type) (h : H) (K : Nat → H → Option R) : newB k R h K = Option.rec (K h.nx (h.made k)) (fun _ => none) (h.hp.get h.nx) := by
  obtain ⟨hp, nx, lg, log⟩ := h
  cases nx <;> rfl

theorem read_some (b : Nat) (R : Type) (h : H) (K : Blk → H → Option R) (r : R) : read b R h K = some r ↔ ∃ k, h.at b = some k ∧ b < h.nx ∧ K k (h.note b) = some r := by
  rw [read_eq, Th.getK_get]
  rw [show h.hp.get b = h.at b from rfl]
  cases hb : h.at b with
  | none => simp
  | some k =>
    dsimp only
    rw [note_rec, ble_if]
    by_cases c : b < h.nx
    · rw [if_pos (show b.succ ≤ h.nx from c)]
      exact ⟨fun e => ⟨k, rfl, c, e⟩, fun ⟨k', e1, _, e2⟩ => by simp only [Option.some.injEq] at e1; rw [e1]; exact e2⟩
    · rw [if_neg (show ¬ b.succ ≤ h.nx from c)]
      exact ⟨fun e => (nomatch e), fun ⟨_, _, e, _⟩ => absurd e c⟩
theorem write_some (b : Nat) (k : Blk) (R : Type) (h : H) (K : Unit → H → Option R) (r : R) : write b k R h K = some r ↔ (∃ k', h.at b = some k') ∧ b < h.nx ∧ K () (h.wrote b k) = some r := by
  unfold write
  rw [Th.getK_get]
  rw [show h.hp.get b = h.at b from rfl]
  cases hb : h.at b with
  | none => simp
  | some k' =>
    dsimp only
    rw [ble_if]
    by_cases c : b < h.nx
    · rw [if_pos (show b.succ ≤ h.nx from c)]
      exact ⟨fun e => ⟨⟨k', rfl⟩, c, e⟩, fun ⟨_, _, e2⟩ => e2⟩
    · rw [if_neg (show ¬ b.succ ≤ h.nx from c)]
      exact ⟨fun e => (nomatch e), fun ⟨_, e, _⟩ => absurd e c⟩
theorem new_some (k : Blk) (R : Type) (h : H) (K : Nat → H → Option R) (r : R) : newB k R h K = some r ↔ h.at h.nx = none ∧ K h.nx (h.made k) = some r := by
  rw [newB_eq]
  show (Option.rec _ _ (h.at h.nx) : Option R) = _ ↔ _
  cases h.at h.nx with
  | none => exact ⟨fun e => ⟨rfl, e⟩, fun e => e.2⟩
  | some k' => exact ⟨fun e => (nomatch e), fun e => (nomatch e.1)⟩

theorem run_read {b : Nat} {h : H} {k : Blk} {h' : H} : run (read b) h = some (k, h') ↔ h.at b = some k ∧ b < h.nx ∧ h' = h.note b := by
  refine (read_some b _ h _ _).trans ?_
  constructor
  · rintro ⟨k', e1, e2, e3⟩
    simp only [Option.some.injEq, Prod.mk.injEq] at e3
    obtain ⟨rfl, rfl⟩ := e3
    exact ⟨e1, e2, rfl⟩
  · rintro ⟨e1, e2, rfl⟩; exact ⟨k, e1, e2, rfl⟩
theorem run_write {b : Nat} {k : Blk} {h : H} {u : Unit} {h' : H} : run (write b k) h = some (u, h') ↔ (∃ k', h.at b = some k') ∧ b < h.nx ∧ h' = h.wrote b k := by
  refine (write_some b k _ h _ _).trans ?_
  constructor
  · rintro ⟨e1, e2, e3⟩
    simp only [Option.some.injEq, Prod.mk.injEq] at e3
    exact ⟨e1, e2, e3.2.symm⟩
  · rintro ⟨e1, e2, rfl⟩; exact ⟨e1, e2, rfl⟩
theorem run_new {k : Blk} {h : H} {b : Nat} {h' : H} : run (newB k) h = some (b, h') ↔ h.at h.nx = none ∧ b = h.nx ∧ h' = h.made k := by
  refine (new_some k _ h _ _).trans ?_
  constructor
  · rintro ⟨e1, e3⟩
    simp only [Option.some.injEq, Prod.mk.injEq] at e3
    exact ⟨e1, e3.1.symm, e3.2.symm⟩
  · rintro ⟨e1, rfl, rfl⟩; exact ⟨e1, rfl⟩

theorem Good.read (b : Nat) : Good (read b) := by
  refine ⟨fun R h K r => ?_, ?_, ?_⟩
  · rw [read_some]
    constructor
    · rintro ⟨k, e1, e2, e3⟩; exact ⟨k, _, run_read.2 ⟨e1, e2, rfl⟩, e3⟩
    · rintro ⟨k, h', e1, e2⟩; obtain ⟨q1, e3, rfl⟩ := run_read.1 e1; exact ⟨k, q1, e3, e2⟩
  · intro h k h' e hl
    obtain ⟨hb, hn, rfl⟩ := run_read.1 e
    refine ⟨[(b, false)], H.note_log h b hl, by rw [H.note_lg, hl], by rw [H.note_nx]; exact Nat.le_refl _, fun b' w hm => ?_, fun b' _ _ => H.note_at _ _ _,
      fun g hg hgn ha _ => ⟨g.note b, run_read.2 ⟨?_, ?_, rfl⟩, H.note_log g b hg, by rw [H.note_lg, hg], by rw [H.note_nx, H.note_nx, hgn], fun b' hb' => ?_, fun b' _ _ => H.note_at _ _ _⟩⟩
    · simp only [List.mem_singleton, Prod.mk.injEq] at hm; obtain ⟨rfl, _⟩ := hm; rw [H.note_nx]; exact hn
    · rw [ha b false (List.mem_singleton.2 rfl) hn, hb]
    · rw [hgn]; exact hn
    · rcases hb' with hm | ⟨h1, h2⟩
      · simp at hm
      · rw [H.note_nx] at h2; exact absurd h2 (Nat.not_lt.2 h1)
  · intro h k h' e
    obtain ⟨hb, hn, rfl⟩ := run_read.1 e
    exact ⟨by rw [H.note_nx]; exact Nat.le_refl _, fun j hj _ => by rw [H.note_at]; exact hj, fun g s _ => ⟨g.note b, run_read.2 ⟨s.blk b k hb, by rw [s.nx]; exact hn, rfl⟩, H.sub_note s b, fun j _ _ => H.note_at _ _ _⟩⟩

theorem Good.write (b : Nat) (k : Blk) : Good (write b k) := by
  refine ⟨fun R h K r => ?_, ?_, ?_⟩
  · rw [write_some]
    constructor
    · rintro ⟨e1, e2, e3⟩; exact ⟨(), _, run_write.2 ⟨e1, e2, rfl⟩, e3⟩
    · rintro ⟨u, h', e1, e2⟩; obtain ⟨q1, e3, rfl⟩ := run_write.1 e1; exact ⟨q1, e3, e2⟩
  · intro h u h' e hl
    obtain ⟨⟨k0, hb⟩, hn, rfl⟩ := run_write.1 e
    refine ⟨[(b, true)], H.wrote_log h b k hl, (H.wrote_lg h b k).trans hl, Nat.le_of_eq (H.wrote_nx h b k).symm, fun b' w hm => ?_, fun b' hb' _ => ?_,
      fun g hg hgn ha _ => ⟨_, run_write.2 ⟨⟨k0, ?_⟩, ?_, rfl⟩, H.wrote_log g b k hg, (H.wrote_lg g b k).trans hg, by rw [H.wrote_nx, H.wrote_nx, hgn], fun b' hb' => ?_, fun b' hb' _ => ?_⟩⟩
    · simp only [List.mem_singleton, Prod.mk.injEq] at hm; obtain ⟨rfl, _⟩ := hm; rw [H.wrote_nx]; exact hn
    · rw [H.wrote_at, if_neg (fun c => hb' (by rw [c]; exact List.mem_singleton.2 rfl))]
    · rw [ha b true (List.mem_singleton.2 rfl) hn, hb]
    · rw [hgn]; exact hn
    · rcases hb' with hm | ⟨h1, h2⟩
      · simp only [List.mem_singleton, Prod.mk.injEq, and_true] at hm
        rw [H.wrote_at, H.wrote_at, if_pos hm, if_pos hm]
      · rw [H.wrote_nx] at h2; exact absurd h2 (Nat.not_lt.2 h1)
    · rw [H.wrote_at, if_neg (fun c => hb' (by rw [c]; exact List.mem_singleton.2 rfl))]
  · intro h u h' e
    obtain ⟨⟨k0, hb⟩, hn, rfl⟩ := run_write.1 e
    have ne : ∀ j, h.at j = none → j ≠ b := fun j hj c => by rw [c, hb] at hj; exact nomatch hj
    exact ⟨Nat.le_of_eq (H.wrote_nx h b k).symm, fun j hj _ => by rw [H.wrote_at, if_neg (ne j hj)]; exact hj, fun g s _ => ⟨_, run_write.2 ⟨⟨k0, s.blk b k0 hb⟩, by rw [s.nx]; exact hn, rfl⟩, H.sub_wrote s b k,
      fun j hj _ => by rw [H.wrote_at, if_neg (ne j hj)]⟩⟩

theorem H.made_nx (h : H) (k : Blk) : (h.made k).nx = h.nx + 1 := rfl

theorem Good.new (k : Blk) : Good (newB k) := by
  refine ⟨fun R h K r => ?_, ?_, ?_⟩
  · rw [new_some]
    constructor
    · rintro ⟨e1, e3⟩; exact ⟨h.nx, _, run_new.2 ⟨e1, rfl, rfl⟩, e3⟩
    · rintro ⟨b, h', e1, e2⟩; obtain ⟨q1, rfl, rfl⟩ := run_new.1 e1; exact ⟨q1, e2⟩
  · intro h b h' e hl
    obtain ⟨hb, rfl, rfl⟩ := run_new.1 e
    refine ⟨[], rfl, hl, by rw [H.made_nx]; omega, fun _ _ hm => (nomatch hm), fun b' _ hb' => ?_,
      fun g hg hgn _ hf => ⟨_, run_new.2 ⟨?_, hgn.symm, rfl⟩, rfl, hg, by rw [H.made_nx, H.made_nx, hgn], fun b' hb' => ?_, fun b' _ hb' => ?_⟩⟩
    · rw [H.made_nx] at hb'
      rw [H.made_at, if_neg (fun c => hb' ⟨by omega, by omega⟩)]
    · rw [hgn, hf h.nx (Nat.le_refl _) (by rw [H.made_nx]; omega), hb]
    · rcases hb' with hm | ⟨h1, h2⟩
      · exact nomatch hm
      · rw [H.made_nx] at h2
        rw [H.made_at, H.made_at, if_pos (by omega), if_pos (by omega)]
    · rw [H.made_nx] at hb'
      rw [H.made_at, if_neg (fun c => hb' ⟨by omega, by omega⟩)]
  · intro h b h' e
    obtain ⟨hb, rfl, rfl⟩ := run_new.1 e
    refine ⟨by rw [H.made_nx]; omega, fun j hj hr => ?_, fun g s hg => ⟨_, run_new.2 ⟨?_, s.nx.symm, rfl⟩, H.sub_made s k, fun j hj hr => ?_⟩⟩
    · rw [H.made_nx] at hr
      rw [H.made_at, if_neg (fun c => hr ⟨by omega, by omega⟩)]; exact hj
    · rw [s.nx]; exact hg h.nx (Nat.le_refl _) (by rw [H.made_nx]; omega)
    · rw [H.made_nx] at hr
      rw [H.made_at, s.nx, if_neg (fun c => hr ⟨by omega, by omega⟩)]

/-- A calculation with its footprint; what has been noted till then is put by. -/
def logged {α : Type} (f : Kal α) : Kal (α × List (Nat × Bool) × Nat) := fun R h K =>
  H.rec (fun hp nx lg log => f R ⟨hp, nx, true, []⟩ fun a h1 => H.rec (fun hp1 nx1 _ log1 => Bool.rec (K (a, log1, nx1) ⟨hp1, nx1, false, log⟩) (K (a, log1, nx1) ⟨hp1, nx1, true, cat log1 log⟩) lg) h1) h
theorem logged_eq {α : Type} (f : Kal α) (R : Type) (h : H) (K : α × List (Nat × Bool) × Nat → H → Option R) : logged f R h K =
    f R ⟨h.hp, h.nx, true, []⟩ fun a h1 => K (a, h1.log, h1.nx) ⟨h1.hp, h1.nx, h.lg, Bool.rec h.log (h1.log ++ h.log) h.lg⟩ := by
  obtain ⟨hp, nx, lg, log⟩ := h
  have e : (fun (a : α) (h1 : H) => (H.rec (fun hp1 nx1 _ log1 => Bool.rec (K (a, log1, nx1) ⟨hp1, nx1, false, log⟩) (K (a, log1, nx1) ⟨hp1, nx1, true, cat log1 log⟩) lg) h1 : Option R)) =
      fun a h1 => K (a, h1.log, h1.nx) ⟨h1.hp, h1.nx, lg, Bool.rec log (h1.log ++ log) lg⟩ := by
    funext a h1
    obtain ⟨hp1, nx1, lg1, log1⟩ := h1
    cases lg
    · rfl
    · show K _ ⟨hp1, nx1, true, cat log1 log⟩ = _
      rw [cat_eq]
  exact congrArg (f R ⟨hp, nx, true, []⟩) e

theorem run_logged {α : Type} {f : Kal α} (hf : Good f) {h : H} {a : α} {l : List (Nat × Bool)} {n : Nat} {h' : H} :
    run (logged f) h = some ((a, l, n), h') ↔ ∃ h1, run f ⟨h.hp, h.nx, true, []⟩ = some (a, h1) ∧ l = h1.log ∧ n = h1.nx ∧ h' = ⟨h1.hp, h1.nx, h.lg, Bool.rec h.log (h1.log ++ h.log) h.lg⟩ := by
  rw [run, logged_eq]
  refine (hf.law _ _ _ _).trans ?_
  constructor
  · rintro ⟨a', h1, e1, e2⟩
    simp only [Option.some.injEq, Prod.mk.injEq] at e2
    obtain ⟨⟨rfl, rfl, rfl⟩, rfl⟩ := e2
    exact ⟨h1, e1, rfl, rfl, rfl⟩
  · rintro ⟨h1, e1, rfl, rfl, rfl⟩; exact ⟨a, h1, e1, rfl⟩

theorem Good.logged {α : Type} {f : Kal α} (hf : Good f) : Good (logged f) := by
  refine ⟨fun R h K r => ?_, ?_, ?_⟩
  · rw [logged_eq]
    refine (hf.law _ _ _ _).trans ?_
    constructor
    · rintro ⟨a, h1, e1, e2⟩; exact ⟨(a, h1.log, h1.nx), _, (run_logged hf).2 ⟨h1, e1, rfl, rfl, rfl⟩, e2⟩
    · rintro ⟨⟨a, l, n⟩, h', e1, e2⟩
      obtain ⟨h1, q1, rfl, rfl, rfl⟩ := (run_logged hf).1 e1
      exact ⟨a, h1, q1, e2⟩
  · rintro h ⟨a, l, n⟩ h' e hl
    obtain ⟨h1, hfe, rfl, rfl, rfl⟩ := (run_logged hf).1 e
    obtain ⟨l1, e1, hl1, n1, b1, u1, a1⟩ := hf.loc _ a h1 hfe rfl
    rw [List.append_nil] at e1
    refine ⟨l1, by rw [hl, e1], hl, n1, b1, u1, fun g hg hgn ha hfr => ?_⟩
    obtain ⟨g1, f1, q1, ql1, qn1, qw1, qu1⟩ := a1 ⟨g.hp, g.nx, true, []⟩ rfl hgn ha hfr
    rw [List.append_nil] at q1
    refine ⟨⟨g1.hp, g1.nx, g.lg, Bool.rec g.log (g1.log ++ g.log) g.lg⟩, (run_logged hf).2 ⟨g1, f1, by rw [q1, e1], qn1.symm, rfl⟩, by rw [hg, q1], hg, qn1, qw1, qu1⟩
  · rintro h ⟨a, l, n⟩ h' e
    obtain ⟨h1, hfe, rfl, rfl, rfl⟩ := (run_logged hf).1 e
    obtain ⟨n1, y1, x1⟩ := hf.ext _ a h1 hfe
    refine ⟨n1, y1, fun g s hg => ?_⟩
    obtain ⟨g1, f1, s1, u1⟩ := x1 ⟨g.hp, g.nx, true, []⟩ ⟨s.nx, rfl, rfl, s.blk⟩ hg
    refine ⟨⟨g1.hp, g1.nx, g.lg, Bool.rec g.log (g1.log ++ g.log) g.lg⟩, (run_logged hf).2 ⟨g1, f1, s1.log.symm, s1.nx.symm, rfl⟩, ⟨s1.nx, s.lg, ?_, s1.blk⟩, u1⟩
    show (Bool.rec g.log (g1.log ++ g.log) g.lg : List (Nat × Bool)) = Bool.rec h.log (h1.log ++ h.log) h.lg
    rw [s.lg, s.log, s1.log]

end
end Go.X
