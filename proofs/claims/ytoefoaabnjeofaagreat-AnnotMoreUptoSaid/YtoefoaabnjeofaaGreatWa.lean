/- Proved here: a layer that reckons weakest preconditions of the translated code (first part), proved sound. Conditions: none beyond the statement's own. -/
import Derived.WalkKit
import Derived.Orders
import Derived.Defers
import Derived.OrdersHeld
import Derived.Laws.AppendOwnNone
import Derived.Maps.OwnSet
set_option linter.unusedVariables false
set_option linter.unusedSimpArgs false
set_option linter.constructorNameAsVariable false
/-
  SX, part A: what a function's contract says ('Con'), over a read-only view of memory ('RO': cells and objects that stay as they are)
  and a part of memory that the call may change ('Hp').
-/
namespace Go.SX

/-- What may be read and stays as it is: single cells, and whole objects that are no rows of cells. -/
structure RO where
  c : Nat → Nat → Option Value
  o : Nat → Option Obj

/-- Blocks that may be changed, whole. -/
abbrev Hp := Nat → Option Obj

def Obj.isRow : Obj → Bool
  | .cells .. => true
  | _ => false

structure RO.le (h h' : RO) : Prop where
  c : ∀ b i v, h.c b i = some v → h'.c b i = some v
  o : ∀ b x, h.o b = some x → h'.o b = some x

theorem RO.le.refl (h : RO) : h.le h := ⟨fun _ _ _ e => e, fun _ _ e => e⟩
theorem RO.le.trans {a b d : RO} (h : a.le b) (k : b.le d) : a.le d :=
  ⟨fun x i v e => k.c x i v (h.c x i v e), fun x v e => k.o x v (h.o x v e)⟩

structure RO.on (h : RO) (w : World) : Prop where
  c : ∀ b i v, h.c b i = some v → w.cell? ⟨b, i, none⟩ = some v
  o : ∀ b x, h.o b = some x → w.heap[b]? = some x ∧ Obj.isRow x = false

def Hp.on (m : Hp) (w : World) : Prop := ∀ b x, m b = some x → w.heap[b]? = some x

/-- A block that is changed is not read through the read-only view. -/
structure Disj (h : RO) (m : Hp) : Prop where
  c : ∀ b i v, h.c b i = some v → m b = none
  o : ∀ b x, h.o b = some x → m b = none

def Hp.none : Hp := fun _ => Option.none
def Hp.set (m : Hp) (b : Nat) (x : Obj) : Hp := fun k => if k = b then some x else m k

/-- From world w to w': what is outside the part that may be changed has stayed. -/
structure Step (w : World) (h : RO) (m : Hp) (w' : World) (h' : RO) (m' : Hp) : Prop where
  os : w'.os = w.os
  tape : w'.tape = w.tape
  output : w'.output = w.output
  size : w.heap.size ≤ w'.heap.size
  same : ∀ k, k < w.heap.size → m k = Option.none → w'.heap[k]? = w.heap[k]?
  le : h.le h'
  hon : h'.on w'
  mon : m'.on w'
  disj : Disj h' m'
  hnew : ∀ b i v, h'.c b i = some v → h.c b i = some v ∨ w.heap.size ≤ b ∨ m b ≠ Option.none
  onew : ∀ b x, h'.o b = some x → h.o b = some x ∨ w.heap.size ≤ b ∨ m b ≠ Option.none
  mnew : ∀ b x, m' b = some x → m b ≠ Option.none ∨ w.heap.size ≤ b

/-- f is a function with a body of its own. -/
def Enters (P : Program) (f : Nat) : Prop := ∃ fn, P.funcs[f]? = some fn ∧ (fn.name == "runtime.NumGoroutine") = false ∧ fn.body.isSome = true

/-- The contract of a call. -/
structure Con (P : Program) (f : Nat) (args : List Value) (h : RO) (m : Hp) (R : Ending → RO → Hp → Prop) : Prop where
  ent : Enters P f
  run : ∀ w, h.on w → m.on w → Disj h m → Calls P f args.toArray w fun e w' => ∃ h' m', Step w h m w' h' m' ∧ R e h' m'

theorem Con.mono {P : Program} {f : Nat} {args : List Value} {h : RO} {m : Hp} {R R' : Ending → RO → Hp → Prop}
    (k : Con P f args h m R) (hr : ∀ e h' m', h.le h' → R e h' m' → R' e h' m') : Con P f args h m R' :=
  ⟨k.1, fun w a b c => (k.2 w a b c).mono fun e w' ⟨h', m', s, r⟩ => ⟨h', m', s, hr e h' m' s.le r⟩⟩

def Hp.sub (m m' : Hp) : Prop := ∀ b x, m b = some x → m' b = some x
/-- m without the blocks of f, and f's new state beside it. -/
def Hp.beside (m f : Hp) : Hp := fun k => match f k with | some x => some x | Option.none => m k

/-- A pure call may be made whatever else may be changed: the caller's own part stays. -/
theorem Con.frame {P : Program} {f : Nat} {args : List Value} {h : RO} {m : Hp} {R : Ending → RO → Hp → Prop} (k : Con P f args h Hp.none R) :
    Con P f args h m (fun e h' m' => m' = m ∧ ∃ m0, R e h' m0) := by
  refine ⟨k.1, ?_⟩
  intro w a b c
  refine (k.2 w a (fun _ _ e => by cases e) ⟨fun _ _ _ _ => rfl, fun _ _ _ => rfl⟩).mono ?_
  rintro e w' ⟨h', m', s, r⟩
  have hlt : ∀ x o, m x = some o → x < w.heap.size := fun x o e => (Array.getElem?_eq_some_iff.1 (b x o e)).1
  refine ⟨h', m, ⟨s.os, s.tape, s.output, s.size, fun k hk _ => s.same k hk rfl, s.le, s.hon, ?_, ?_, ?_, ?_, ?_⟩, rfl, m', r⟩
  · intro x o e
    rw [s.same x (hlt x o e) rfl]; exact b x o e
  · constructor
    · intro x i v e
      rcases s.hnew x i v e with e1 | e1 | e1
      · exact c.c x i v e1
      · cases hm : m x with
        | none => rfl
        | some o => have := hlt x o hm; omega
      · exact absurd rfl e1
    · intro x v e
      rcases s.onew x v e with e1 | e1 | e1
      · exact c.o x v e1
      · cases hm : m x with
        | none => rfl
        | some o => have := hlt x o hm; omega
      · exact absurd rfl e1
  · intro x i v e
    rcases s.hnew x i v e with e1 | e1 | e1
    · exact .inl e1
    · exact .inr (.inl e1)
    · exact absurd rfl e1
  · intro x v e
    rcases s.onew x v e with e1 | e1 | e1
    · exact .inl e1
    · exact .inr (.inl e1)
    · exact absurd rfl e1
  · intro x v e
    exact .inl (by rw [e]; simp)

end Go.SX
/-
  SX, part B: the symbolic state of a function's walk, what it says of a frame and a world, and the rules for the shape of code.
-/
namespace Go.SX

/-- A symbolic value: a value; a slice that may be appended to; the address of a cell of a private block; a slice over a whole private block. -/
inductive SV where
  | v (x : Value)
  | own (id : Nat) (x : Value)
  | loc (id off : Nat)
  | arr (id n : Nat)
  | bit (b : Bool)

/-- Here the walk stops, and asks for more than steps. -/
structure Halt (p : Prop) : Prop where
  go : p
  tag : 1 = 1
theorem halt {p : Prop} (h : p) : Halt p := ⟨h, rfl⟩

/-- What is known of a private thing: a block of cells; a row that may be appended to (its value, element type, cells); a block that has become readable. -/
inductive BS where
  | box (cells : List Value) (ty : TypeId)
  | row (x : Value) (e : TypeId) (sz n : Nat) (es : List Value)
  | pub (b : Nat) (cells : List Value)
  | dead

abbrev Fr := List (Nat × SV)
abbrev BX := List (Nat × BS)

def Fr.get : Fr → Nat → Option SV
  | [], _ => none
  | (k, s) :: r, t => match Nat.beq k t with | true => some s | false => Fr.get r t
def BX.get : BX → Nat → Option BS
  | [], _ => none
  | (k, s) :: r, t => match Nat.beq k t with | true => some s | false => BX.get r t

theorem beq_false {k t : Nat} (h : ¬ k = t) : Nat.beq k t = false := by
  cases hb : Nat.beq k t
  · rfl
  · exact absurd (Nat.eq_of_beq_eq_true hb) h
theorem beq_true (k : Nat) : Nat.beq k k = true := Nat.beq_refl k

theorem Fr.get_cons (k t : Nat) (s : SV) (r : Fr) : Fr.get ((k, s) :: r) t = if k = t then some s else Fr.get r t := by
  simp only [Fr.get]; by_cases h : k = t
  · subst h; rw [beq_true]; simp
  · rw [if_neg h, beq_false h]
theorem BX.get_cons (k t : Nat) (s : BS) (r : BX) : BX.get ((k, s) :: r) t = if k = t then some s else BX.get r t := by
  simp only [BX.get]; by_cases h : k = t
  · subst h; rw [beq_true]; simp
  · rw [if_neg h, beq_false h]

def conc (β : Nat → Nat) : SV → Value
  | .v x => x
  | .own _ x => x
  | .loc id off => .pointer (some ⟨β id, off, none⟩)
  | .arr id n => .slice (some ⟨β id, 0, none⟩) n n
  | .bit b => .bool b

/-- Block b is the function's own, and nothing else speaks of it. -/
structure Priv (B : Nat) (h : RO) (m : Hp) (b : Nat) : Prop where
  lo : B ≤ b
  m : m b = none
  c : ∀ i, h.c b i = none
  o : h.o b = none

def BS.blk (β : Nat → Nat) (id : Nat) : BS → Option Nat
  | .box _ _ => some (β id)
  | .row x _ _ _ _ => x.ownBlock
  | .pub _ _ => none
  | .dead => none

def BS.ok (β : Nat → Nat) (B : Nat) (h : RO) (m : Hp) (w : World) (id : Nat) : BS → Prop
  | .box cs ty => Priv B h m (β id) ∧ w.heap[β id]? = some (.cells cs.toArray ty (0, 0))
  | .row x e sz n es => w.ownsRow B e sz x n es ∧ (∀ b, x.ownBlock = some b → m b = none ∧ h.o b = none ∧ (∀ i, n * sz ≤ i → h.c b i = none) ∧ (∀ i, i < n * sz → h.c b i = es[i]?))
  | .pub b cs => β id = b ∧ ∀ i u, cs[i]? = some u → h.c b i = some u
  | .dead => True

/-- What the symbolic state says: of the frame a and the world w, of a function that began in w0 with h0, m0. -/
structure Sat (nt : Nat) (w0 : World) (h0 : RO) (m0 : Hp) (ρ : Fr) (bx : BX) (h : RO) (m : Hp) (a : Act) (w : World) : Prop where
  step : Step w0 h0 m0 w h m
  size : a.tmps.size = nt
  defers : a.defers = []
  ex : ∃ β : Nat → Nat, (∀ t s, Fr.get ρ t = some s → a.tmps.getD t undef = conc β s) ∧
    (∀ id s, BX.get bx id = some s → s.ok β w0.heap.size h m w id) ∧
    (∀ i j s t b, i ≠ j → BX.get bx i = some s → BX.get bx j = some t → s.blk β i = some b → t.blk β j ≠ some b)

/-- In which order a region that draws its order is walked: an operation that may be taken first; one that has to be looked at as one of all that may come up. -/
inductive Sch where
  | nil
  | one (i : Nat) (r : Sch)
  | fork (i : Nat) (r s : Sch)
  | stop

/-- What is still to be done. -/
inductive It where
  | code (c : Code)
  | blk (id : Nat)
  | ops (all : Array Oper) (l : List Oper)
  | goal (J : Fr → BX → RO → Hp → Prop)
  | draw (all : Array Oper) (done : List Nat) (sch : Sch)

/-- The function that is walked: its program, itself, where it began, what is to hold at its end. -/
structure Cx where
  P : Program
  fn : Func
  nt : Nat
  w0 : World
  h0 : RO
  m0 : Hp
  R : Ending → RO → Hp → Prop

def Cx.done (C : Cx) (e : Ending) (w : World) : Prop := ∃ h m, Step C.w0 C.h0 C.m0 w h m ∧ C.R e h m
def Cx.post (C : Cx) : Exit → Act → World → Prop := bodyPost C.P C.fn C.done

def lst (n : Nat) : List Nat → Array Bool
  | [] => Array.replicate n false
  | i :: r => (lst n r).setIfInBounds i true

mutual
def WP (C : Cx) : List It → Act → World → Prop
  | [], a, w => C.post .normal a w
  | .code c :: k, a, w => c.wp C.P (fun e a' w' => match e with | .normal => WP C k a' w' | .exit id => WX C id k a' w' | e => C.post e a' w') a w
  | .blk _ :: k, a, w => WP C k a w
  | .ops all l :: k, a, w => wpList C.P all (fun e a' w' => match e with | .normal => WP C k a' w' | .exit id => WX C id k a' w' | e => C.post e a' w') l a w
  | .goal J :: _, a, w => ∃ ρ bx h m, J ρ bx h m ∧ Sat C.nt C.w0 C.h0 C.m0 ρ bx h m a w
  | .draw all done _ :: k, a, w => wpAnyH C.P .any all (fun e a' w' => match e with | .normal => WP C k a' w' | .exit id => WX C id k a' w' | e => C.post e a' w') (fun _ => True) (all.size - done.length) (lst all.size done) a w
def WX (C : Cx) (id : Nat) : List It → Act → World → Prop
  | [], _, _ => False
  | .blk id' :: k, a, w => if id = id' then WP C k a w else WX C id k a w
  | .code _ :: k, a, w => WX C id k a w
  | .ops _ _ :: k, a, w => WX C id k a w
  | .goal _ :: k, a, w => WX C id k a w
  | .draw _ _ _ :: k, a, w => WX C id k a w
end

/-- The post of the piece that stands before k. -/
def KQ (C : Cx) (k : List It) : Exit → Act → World → Prop := fun e a w => match e with | .normal => WP C k a w | .exit id => WX C id k a w | e => C.post e a w

theorem WP_code (C : Cx) (c : Code) (k : List It) (a : Act) (w : World) : WP C (.code c :: k) a w = c.wp C.P (KQ C k) a w := by simp only [WP]; rfl
theorem WP_ops (C : Cx) (all : Array Oper) (l : List Oper) (k : List It) (a : Act) (w : World) : WP C (.ops all l :: k) a w = wpList C.P all (KQ C k) l a w := by simp only [WP]; rfl

/-- .. as a function of what is to hold. -/
def SK (C : Cx) (KK : Act → World → Prop) (ρ : Fr) (bx : BX) (h : RO) (m : Hp) : Prop :=
  ∀ a w, Sat C.nt C.w0 C.h0 C.m0 ρ bx h m a w → KK a w

def WPx (C : Cx) (h : RO) : List It → Act → World → Prop
  | .draw all done _ :: k, a, w => wpAnyH C.P .any all (KQ C k) h.on (all.size - done.length) (lst all.size done) a w
  | .code c :: k, a, w => WP C (.code c :: k) a w
  | .blk id :: k, a, w => WP C (.blk id :: k) a w
  | .ops all l :: k, a, w => WP C (.ops all l :: k) a w
  | .goal J :: k, a, w => WP C (.goal J :: k) a w
  | [], a, w => WP C [] a w

/-- From every frame and world of which the state speaks, what is still to be done comes to the function's end. -/
structure Sx (C : Cx) (k : List It) (ρ : Fr) (bx : BX) (h : RO) (m : Hp) : Prop where
  run : SK C (WPx C h k) ρ bx h m

theorem wpAnyH_mono {P : Program} {md : Region.Mode} {ops : Array Oper} {Q : Exit → Act → World → Prop} {S S' : World → Prop} (hs : ∀ w, S w → S' w) :
    ∀ (fuel : Nat) (l : Array Bool) (a : Act) (w : World), wpAnyH P md ops Q S fuel l a w → wpAnyH P md ops Q S' fuel l a w
  | 0, _, _, _, h => h
  | n + 1, _, _, _, h => ⟨h.1, fun i hi => wpOp_mono (fun a w q => ⟨hs w q.1, wpAnyH_mono hs n _ a w q.2⟩) (h.2 i hi)⟩

theorem RO.on_le {h h' : RO} (hl : h.le h') {w : World} (ho : h'.on w) : h.on w :=
  ⟨fun b i v e => ho.c b i v (hl.c b i v e), fun b x e => ho.o b x (hl.o b x e)⟩

theorem WPx_mono {C : Cx} {h h' : RO} (hl : h.le h') {k : List It} {a : Act} {w : World} (hw : WPx C h' k a w) : WPx C h k a w := by
  cases k with
  | nil => exact hw
  | cons x k =>
    cases x with
    | draw all done sch => exact wpAnyH_mono (fun w => RO.on_le hl) _ _ _ _ hw
    | _ => exact hw

theorem WPx_code (C : Cx) (h : RO) (c : Code) (k : List It) (a : Act) (w : World) : WPx C h (.code c :: k) a w = c.wp C.P (KQ C k) a w := WP_code C c k a w
theorem WPx_ops (C : Cx) (h : RO) (all : Array Oper) (l : List Oper) (k : List It) (a : Act) (w : World) : WPx C h (.ops all l :: k) a w = wpList C.P all (KQ C k) l a w := WP_ops C all l k a w
theorem WPx.wp {C : Cx} {h : RO} {k : List It} {a : Act} {w : World} (hw : WPx C h k a w) : WP C k a w := by
  cases k with
  | nil => exact hw
  | cons x k =>
    cases x with
    | draw all done sch => simp only [WP]; exact wpAnyH_mono (fun _ _ => trivial) _ _ _ _ hw
    | _ => exact hw
theorem Sx.wp {C : Cx} {k : List It} {ρ : Fr} {bx : BX} {h : RO} {m : Hp} (hk : Sx C k ρ bx h m) {a : Act} {w : World} (s : Sat C.nt C.w0 C.h0 C.m0 ρ bx h m a w) : WP C k a w := (hk.run a w s).wp

section shape
variable {C : Cx} {k : List It} {ρ : Fr} {bx : BX} {h : RO} {m : Hp}

theorem sx_goal {J : Fr → BX → RO → Hp → Prop} (hj : J ρ bx h m) : Sx C (.goal J :: k) ρ bx h m :=
  .mk fun a w s => by show WP C _ a w; simp only [WP]; exact ⟨ρ, bx, h, m, hj, s⟩

theorem sx_blk {id : Nat} (hk : Sx C k ρ bx h m) : Sx C (.blk id :: k) ρ bx h m := .mk fun a w s => by show WP C _ a w; simp only [WP]; exact hk.wp s

theorem sx_skip (hk : Sx C k ρ bx h m) : Sx C (.code .skip :: k) ρ bx h m := .mk fun a w s => by
  rw [WPx_code]; exact wp_skip (hk.wp s)

theorem sx_seq {x y : Code} (hk : Sx C (.code x :: .code y :: k) ρ bx h m) : Sx C (.code (.seq x y) :: k) ρ bx h m := .mk fun a w s => by
  rw [WPx_code]
  refine wp_seq ?_
  have := hk.run a w s
  rw [WPx_code] at this
  refine wp_mono this ?_
  intro e a' w' hq
  cases e <;> first
    | (simp only [KQ, Exit.then] at hq ⊢; rw [WP_code] at hq; exact hq)
    | (simp only [KQ, Exit.then] at hq ⊢; simp only [WX] at hq; exact hq)
    | (simp only [KQ, Exit.then] at hq ⊢; exact hq)

theorem sx_block {id : Nat} {x : Code} (hk : Sx C (.code x :: .blk id :: k) ρ bx h m) : Sx C (.code (.block id x) :: k) ρ bx h m := .mk fun a w s => by
  rw [WPx_code]
  refine wp_block ?_
  have := hk.run a w s
  rw [WPx_code] at this
  refine wp_mono this ?_
  intro e a' w' hq
  cases e with
  | normal => simp only [KQ, WP] at hq; simp only [Exit.inBlock, KQ]; exact hq
  | exit i =>
    simp only [KQ, WX] at hq
    simp only [Exit.inBlock]
    split
    · rename_i e; rw [if_pos e] at hq; exact hq
    · rename_i e; rw [if_neg e] at hq; exact hq
  | goto l => simp only [KQ, Exit.inBlock] at hq ⊢; exact hq
  | ret => simp only [KQ, Exit.inBlock] at hq ⊢; exact hq
  | panic c => simp only [KQ, Exit.inBlock] at hq ⊢; exact hq
  | outgrown => simp only [KQ, Exit.inBlock] at hq ⊢; exact hq

/-- Where 'exit id' goes on. -/
def exitIt (id : Nat) : List It → Option (List It)
  | [] => none
  | .blk id' :: k => match Nat.beq id id' with | true => some k | false => exitIt id k
  | .code _ :: k => exitIt id k
  | .ops _ _ :: k => exitIt id k
  | .goal _ :: k => exitIt id k
  | .draw _ _ _ :: k => exitIt id k

theorem WX_exitIt {id : Nat} {k k' : List It} (hk : exitIt id k = some k') {a : Act} {w : World} (hw : WP C k' a w) : WX C id k a w := by
  induction k with
  | nil => simp [exitIt] at hk
  | cons x k ih =>
    cases x with
    | blk id' =>
      simp only [exitIt] at hk
      simp only [WX]
      by_cases e : id = id'
      · subst e; rw [beq_true] at hk; simp at hk; subst hk; simpa using hw
      · rw [if_neg e]
        rw [beq_false e] at hk
        exact ih hk
    | code c => simp only [exitIt] at hk; simp only [WX]; exact ih hk
    | ops a l => simp only [exitIt] at hk; simp only [WX]; exact ih hk
    | goal J => simp only [exitIt] at hk; simp only [WX]; exact ih hk
    | draw _ _ _ => simp only [exitIt] at hk; simp only [WX]; exact ih hk

theorem sx_exit {id : Nat} {k' : List It} (he : exitIt id k = some k') (hk : Sx C k' ρ bx h m) : Sx C (.code (.exit id) :: k) ρ bx h m := .mk fun a w s => by
  rw [WPx_code]; exact wp_exit (WX_exitIt he (hk.wp s))

theorem sx_ops_nil {all : Array Oper} (hk : Sx C k ρ bx h m) : Sx C (.ops all [] :: k) ρ bx h m := .mk fun a w s => by
  rw [WPx_ops]; exact wpList_nil (hk.wp s)

theorem sx_region {id : Nat} {ops : Array Oper} (hk : Sx C (.ops ops ops.toList :: k) ρ bx h m) : Sx C (.code (.region id ops false) :: k) ρ bx h m := .mk fun a w s => by
  rw [WPx_code]
  have := hk.run a w s
  rw [WPx_ops] at this
  exact wp_region_list this

/-- The value of an operand. -/
def ev (ρ : Fr) (x : Operand) (K : SV → Prop) : Prop :=
  match x with
  | .tmp t => match Fr.get ρ t with | some s => K s | none => False
  | .const v => K (.v v)
  | .func f => K (.v (.func (.func f) #[] #[]))
  | .global g => K (.v (.pointer (some ⟨g, 0, none⟩)))

theorem ev_sat {β : Nat → Nat} {a : Act} {x : Operand} {K : SV → Prop} (hf : ∀ t s, Fr.get ρ t = some s → a.tmps.getD t undef = conc β s)
    (hx : ev ρ x K) : ∃ s, K s ∧ a.eval x = conc β s := by
  cases x with
  | tmp t =>
    simp only [ev] at hx
    cases hg : Fr.get ρ t with
    | none => rw [hg] at hx; exact hx.elim
    | some s => rw [hg] at hx; exact ⟨s, hx, hf t s hg⟩
  | const v => exact ⟨_, hx, rfl⟩
  | global g => exact ⟨_, hx, rfl⟩
  | func f => exact ⟨_, hx, rfl⟩

/-- .. as a plain bool. -/
def evB (ρ : Fr) (x : Operand) (K : Bool → Prop) : Prop :=
  ev ρ x fun s => match s with | .v (.bool b) => K b | .bit b => K b | _ => False

theorem sx_cond {c : Operand} {x y : Code} (hc : evB ρ c fun b => (b = true → Sx C (.code x :: k) ρ bx h m) ∧ (b = false → Sx C (.code y :: k) ρ bx h m)) :
    Sx C (.code (.cond c x y) :: k) ρ bx h m := .mk fun a w s => by
  rw [WPx_code]
  obtain ⟨β, hf, _⟩ := s.ex
  obtain ⟨sv, hk, he⟩ := ev_sat hf hc
  have key : ∀ b, ((b = true → Sx C (.code x :: k) ρ bx h m) ∧ (b = false → Sx C (.code y :: k) ρ bx h m)) → a.eval c = .bool b → (Code.cond c x y).wp C.P (KQ C k) a w := by
    intro b hk he
    refine wp_cond (t := b) he ?_
    cases b with
    | true => have := (hk.1 rfl).run a w s; rw [WPx_code] at this; exact this
    | false => have := (hk.2 rfl).run a w s; rw [WPx_code] at this; exact this
  match sv, hk, he with
  | .v (.bool b), hk, he => exact key b hk he
  | .bit b, hk, he => exact key b hk he

/-! ### one state says no more than another; the private things under other numbers -/

def sget : List (Nat × Nat) → Nat → Option Nat
  | [], _ => none
  | (i, j) :: r, t => match Nat.beq i t with | true => some j | false => sget r t
def sinj : List (Nat × Nat) → Prop
  | [] => True
  | (_, j) :: r => (∀ p ∈ r, p.2 ≠ j) ∧ sinj r
theorem sget_mem : ∀ {σ : List (Nat × Nat)} {t j : Nat}, sget σ t = some j → (t, j) ∈ σ
  | [], _, _, h => by simp [sget] at h
  | (i, q) :: r, t, j, h => by
    simp only [sget] at h
    by_cases e : i = t
    · subst e; rw [beq_true] at h; simp at h; subst h; exact List.mem_cons_self
    · rw [beq_false e] at h; exact List.mem_cons_of_mem _ (sget_mem h)
theorem sinj_ne : ∀ {σ : List (Nat × Nat)} {a b i j : Nat}, sinj σ → a ≠ b → sget σ a = some i → sget σ b = some j → i ≠ j
  | [], _, _, _, _, _, _, h, _ => by simp [sget] at h
  | (k, q) :: r, a, b, i, j, hs, hne, h1, h2 => by
    simp only [sget] at h1 h2
    by_cases ea : k = a
    · subst ea
      rw [beq_true] at h1; simp at h1; subst h1
      rw [beq_false hne] at h2
      exact fun e => hs.1 _ (sget_mem h2) e.symm
    · rw [beq_false ea] at h1
      by_cases eb : k = b
      · subst eb
        rw [beq_true] at h2; simp at h2; subst h2
        exact fun e => hs.1 _ (sget_mem h1) e
      · rw [beq_false eb] at h2
        exact sinj_ne hs.2 hne h1 h2

/-- The first symbolic value says no more than the second. -/
def SVm (σ : List (Nat × Nat)) : SV → SV → Prop
  | .v x, .v y => x = y
  | .v x, .bit b => x = .bool b
  | .v x, .own _ y => x = y
  | .own i x, .own j y => sget σ i = some j ∧ x = y
  | .own i x, .v y => sget σ i = none ∧ x = y ∧ x = .slice none 0 0
  | .loc i o, .loc j p => sget σ i = some j ∧ o = p
  | .arr i n, .arr j q => sget σ i = some j ∧ n = q
  | _, _ => False
def Frm1 (σ : List (Nat × Nat)) (ρ : Fr) : Fr → Prop
  | [] => True
  | (t, s) :: r => (match Fr.get ρ t with | some s' => SVm σ s s' | none => False) ∧ Frm1 σ ρ r
def BXm (σ : List (Nat × Nat)) (bx : BX) : BX → Prop
  | [] => True
  | (t, b) :: r => (match sget σ t with
      | some j => BX.get bx j = some b
      | none => match b with | .row x _ _ n es => x = .slice none 0 0 ∧ n = 0 ∧ es = [] | _ => False) ∧ BXm σ bx r
/-- The state (r, c) says no more than (ρ, bx): σ tells the new private numbers from the old ones. -/
def Mat (σ : List (Nat × Nat)) (r : Fr) (c : BX) (ρ : Fr) (bx : BX) : Prop := sinj σ ∧ Frm1 σ ρ r ∧ BXm σ bx c

theorem Frm1_get : ∀ {σ : List (Nat × Nat)} {ρ r : Fr} {t : Nat} {s : SV}, Frm1 σ ρ r → Fr.get r t = some s → ∃ s', Fr.get ρ t = some s' ∧ SVm σ s s'
  | _, _, [], _, _, _, h => by simp [Fr.get] at h
  | σ, ρ, (t', s') :: r, t, s, hs, h => by
    rw [Fr.get_cons] at h
    simp only [Frm1] at hs
    split at h
    · rename_i e; subst e
      cases h
      cases hg : Fr.get ρ t' with
      | none => rw [hg] at hs; exact hs.1.elim
      | some q => rw [hg] at hs; exact ⟨q, rfl, hs.1⟩
    · exact Frm1_get hs.2 h
theorem BXm_get : ∀ {σ : List (Nat × Nat)} {bx c : BX} {t : Nat} {b : BS}, BXm σ bx c → BX.get c t = some b →
    (∃ j, sget σ t = some j ∧ BX.get bx j = some b) ∨ (sget σ t = none ∧ ∃ e sz, b = .row (.slice none 0 0) e sz 0 [])
  | _, _, [], _, _, _, h => by simp [BX.get] at h
  | σ, bx, (t', b') :: r, t, b, hs, h => by
    rw [BX.get_cons] at h
    simp only [BXm] at hs
    split at h
    · rename_i e; subst e
      cases h
      cases hg : sget σ t' with
      | some j => rw [hg] at hs; exact .inl ⟨j, rfl, hs.1⟩
      | none =>
        rw [hg] at hs
        cases b' <;> first | exact hs.1.elim | skip
        obtain ⟨⟨rfl, rfl, rfl⟩, _⟩ := hs
        exact .inr ⟨rfl, _, _, rfl⟩
    · exact BXm_get hs.2 h

theorem Sat.mat {nt : Nat} {w0 w : World} {h0 : RO} {m0 : Hp} {a : Act} {r : Fr} {c : BX} {σ : List (Nat × Nat)} (s : Sat nt w0 h0 m0 ρ bx h m a w) (hm : Mat σ r c ρ bx) :
    Sat nt w0 h0 m0 r c h m a w := by
  obtain ⟨β, h1, h2, h3⟩ := s.ex
  obtain ⟨g1, g2, g3⟩ := hm
  refine ⟨s.step, s.size, s.defers, fun i => match sget σ i with | some j => β j | none => i, ?_, ?_, ?_⟩
  · intro t x e
    obtain ⟨x', e1, e2⟩ := Frm1_get g2 e
    rw [h1 t x' e1]
    cases x <;> cases x' <;> simp only [SVm] at e2 <;> first
      | exact e2.elim
      | (subst e2; rfl)
      | (obtain ⟨ea, eb⟩ := e2; subst eb; simp [conc, ea])
      | (obtain ⟨ea, eb, ec⟩ := e2; subst eb; rfl)
  · intro i b e
    rcases BXm_get g3 e with ⟨j, e1, e2⟩ | ⟨e1, E, sz, rfl⟩
    · have := h2 j b e2
      cases b <;> simp only [BS.ok, e1] at this ⊢ <;> exact this
    · refine ⟨World.ownsRow_nil _ _ _ _, fun b hb => ?_⟩
      simp [Value.ownBlock] at hb
  · intro i j x y b hne hi hj hx
    rcases BXm_get g3 hi with ⟨i', e1, e2⟩ | ⟨e1, E, sz, rfl⟩
    · rcases BXm_get g3 hj with ⟨j', e3, e4⟩ | ⟨e3, E, sz, rfl⟩
      · have hn := sinj_ne g1 hne e1 e3
        have := h3 i' j' x y b hn e2 e4
        cases x <;> cases y <;> simp only [BS.blk, e1, e3] at this hx ⊢ <;> exact this hx
      · simp [BS.blk, Value.ownBlock]
    · simp [BS.blk, Value.ownBlock] at hx

/-- A loop: 'fr', 'bxs': what is known of the slots and the private blocks at a round's head, out of x; 'I': what holds of x and memory; 'μ' goes down. -/
theorem sx_loop {body : Code} {X : Type} (fr : X → Fr) (bxs : X → BX) (I : X → RO → Hp → Prop) (μ : X → Nat) (x0 : X)
    (hfr : ∃ σ, Mat σ (fr x0) (bxs x0) ρ bx) (hI : I x0 h m)
    (round : ∀ x h' m', h.le h' → I x h' m' → Sx C (.code body :: .goal (fun ρ' bx' h'' m'' => Halt (∃ x' σ, Mat σ (fr x') (bxs x') ρ' bx' ∧ h'.le h'' ∧ I x' h'' m'' ∧ μ x' < μ x)) :: k) (fr x) (bxs x) h' m') :
    Sx C (.code (.loop body) :: k) ρ bx h m := .mk fun a w s => by
  rw [WPx_code]
  refine wp_loop (fun a w => ∃ x h' m', h.le h' ∧ I x h' m' ∧ Sat C.nt C.w0 C.h0 C.m0 (fr x) (bxs x) h' m' a w ∧ μ x = μ x)
    (fun a w => Classical.epsilon fun n => (∃ x h' m', h.le h' ∧ I x h' m' ∧ Sat C.nt C.w0 C.h0 C.m0 (fr x) (bxs x) h' m' a w ∧ n = μ x) ∧
      ∀ n', (∃ x h' m', h.le h' ∧ I x h' m' ∧ Sat C.nt C.w0 C.h0 C.m0 (fr x) (bxs x) h' m' a w ∧ n' = μ x) → n ≤ n') ⟨x0, h, m, RO.le.refl h, hI, (let ⟨_, hm⟩ := hfr; s.mat hm), rfl⟩ ?_
  -- the least measure among all readings of the state at hand
  have least : ∀ a w, (∃ x h' m', h.le h' ∧ I x h' m' ∧ Sat C.nt C.w0 C.h0 C.m0 (fr x) (bxs x) h' m' a w ∧ μ x = μ x) →
      ∃ n, (∃ x h' m', h.le h' ∧ I x h' m' ∧ Sat C.nt C.w0 C.h0 C.m0 (fr x) (bxs x) h' m' a w ∧ n = μ x) ∧
      ∀ n', (∃ x h' m', h.le h' ∧ I x h' m' ∧ Sat C.nt C.w0 C.h0 C.m0 (fr x) (bxs x) h' m' a w ∧ n' = μ x) → n ≤ n' := by
    rintro a w ⟨x, h', m', h1, h2, h3, _⟩
    have key : ∀ n, (∃ x h' m', h.le h' ∧ I x h' m' ∧ Sat C.nt C.w0 C.h0 C.m0 (fr x) (bxs x) h' m' a w ∧ n = μ x) →
        ∃ n, (∃ x h' m', h.le h' ∧ I x h' m' ∧ Sat C.nt C.w0 C.h0 C.m0 (fr x) (bxs x) h' m' a w ∧ n = μ x) ∧
        ∀ n', (∃ x h' m', h.le h' ∧ I x h' m' ∧ Sat C.nt C.w0 C.h0 C.m0 (fr x) (bxs x) h' m' a w ∧ n' = μ x) → n ≤ n' := by
      intro n
      induction n using Nat.strongRecOn with
      | _ n ih =>
        intro hn
        by_cases hs : ∃ n', n' < n ∧ ∃ x h' m', h.le h' ∧ I x h' m' ∧ Sat C.nt C.w0 C.h0 C.m0 (fr x) (bxs x) h' m' a w ∧ n' = μ x
        · obtain ⟨n', hlt, hn'⟩ := hs
          exact ih n' hlt hn'
        · exact ⟨n, hn, fun n' hn' => Nat.le_of_not_lt fun hlt => hs ⟨n', hlt, hn'⟩⟩
    exact key (μ x) ⟨x, h', m', h1, h2, h3, rfl⟩
  intro a w hex
  have hl := least a w hex
  have he := Classical.epsilon_spec hl
  obtain ⟨⟨x, h', m', h1, h2, h3, hmu⟩, hmin⟩ := he
  have hr := (round x h' m' h1 h2).run a w h3
  rw [WPx_code] at hr
  refine wp_mono hr ?_
  intro e a' w' hq
  cases e with
  | normal =>
    simp only [KQ, WP] at hq
    obtain ⟨ρ', bx', h'', m'', ⟨⟨x', σ, q2, q3, q4, q5⟩, _⟩, q6⟩ := hq
    have hx' : ∃ x h' m', h.le h' ∧ I x h' m' ∧ Sat C.nt C.w0 C.h0 C.m0 (fr x) (bxs x) h' m' a' w' ∧ μ x = μ x := ⟨x', h'', m'', h1.trans q3, q4, q6.mat q2, rfl⟩
    refine ⟨hx', ?_⟩
    have he' := Classical.epsilon_spec (least a' w' hx')
    have hle := he'.2 (μ x') ⟨x', h'', m'', h1.trans q3, q4, q6.mat q2, rfl⟩
    rw [hmu]
    exact Nat.lt_of_le_of_lt hle q5
  | exit i => simp only [KQ, WX] at hq; simp only [Exit.then, KQ]; exact hq
  | goto l => exact hq
  | ret => exact hq
  | panic c => exact hq
  | outgrown => exact hq

/-- A cut: what stands first comes to J; from J on the rest. -/
theorem sx_cut {c : Code} {X : Type} (fr : X → Fr) (bxs : X → BX) (I : X → RO → Hp → Prop)
    (first : Sx C (.code c :: .goal (fun ρ' bx' h' m' => Halt (∃ x σ, Mat σ (fr x) (bxs x) ρ' bx' ∧ h.le h' ∧ I x h' m')) :: k) ρ bx h m)
    (rest : ∀ x h' m', h.le h' → I x h' m' → Sx C k (fr x) (bxs x) h' m') : Sx C (.code c :: k) ρ bx h m := .mk fun a w s => by
  have := first.run a w s
  rw [WPx_code] at this ⊢
  refine wp_mono this ?_
  intro e a' w' hq
  cases e with
  | normal =>
    simp only [KQ, WP] at hq
    obtain ⟨ρ', bx', h'', m'', ⟨⟨x, σ, q2, q3, q4⟩, _⟩, q5⟩ := hq
    exact (rest x h'' m'' q3 q4).wp (q5.mat q2)
  | exit i => simp only [KQ, WX] at hq ⊢; exact hq
  | goto l => exact hq
  | ret => exact hq
  | panic c => exact hq
  | outgrown => exact hq

/-- The frame and the private blocks may be told shorter, and under other numbers. -/
theorem sx_mat {r : Fr} {c : BX} (σ : List (Nat × Nat)) (hm : Mat σ r c ρ bx) (hk : Sx C k r c h m) : Sx C k ρ bx h m :=
  .mk fun a w s => hk.run a w (s.mat hm)
theorem sk_bx {KK : Act → World → Prop} {c : BX} (hk : SK C KK ρ c h m) (hb : ∀ i b, BX.get c i = some b → BX.get bx i = some b) : SK C KK ρ bx h m := fun a w s => by
  obtain ⟨β, h1, h2, h3⟩ := s.ex
  exact hk a w ⟨s.step, s.size, s.defers, β, h1, fun i x e => h2 i x (hb i x e), fun i j x y b hne hi hj => h3 i j x y b hne (hb i x hi) (hb j y hj)⟩
/-- Of the private things less may be told. -/
theorem sx_bx {c : BX} (hk : Sx C k ρ c h m) (hb : ∀ i b, BX.get c i = some b → BX.get bx i = some b) : Sx C k ρ bx h m := .mk fun a w s => by
  obtain ⟨β, h1, h2, h3⟩ := s.ex
  exact hk.run a w ⟨s.step, s.size, s.defers, β, h1, fun i x e => h2 i x (hb i x e), fun i j x y b hne hi hj => h3 i j x y b hne (hb i x hi) (hb j y hj)⟩
end shape
end Go.SX
/-
  SX, part C: the start and the end of a function; operations that leave the world alone.
-/
namespace Go.SX

/-! ### types -/

/-- The kind of one cell. -/
inductive TK where
  | int (k : IntKind) | bool | str | ptr | slc | map | fn | ifc

def TK.zero : TK → Value
  | .int k => .int k 0
  | .bool => .bool false
  | .str => .string .empty
  | .ptr => .pointer none
  | .slc => .slice none 0 0
  | .map => .map none
  | .fn => .nilFunc
  | .ifc => .nilIface

inductive Shape where
  | one | slice (e : Nat) | array (n e : Nat) | struct (fs : List (Nat × Nat)) | map (k e : Nat) | int (k : IntKind) | bool | str | ptr (e : Nat) | ifc

structure TI where
  ok : Bool
  ks : List TK
  bytes : Nat
  sh : Shape

def TI.agg (i : TI) : Bool := match i.sh with | .array _ _ => true | .struct _ => true | _ => false
def TI.bad : TI := ⟨false, [], 0, .one⟩

def TI.shOk (d : TypeDesc) : Shape → Prop
  | .slice e => d = .slice e
  | .array n e => d = .array n e
  | .struct fs => ∃ f, d = .struct f ∧ f.toList.map (fun x => (x.offset, x.type)) = fs
  | .map k e => d = .map k e
  | .int k => d = .int k
  | .bool => d = .bool
  | .str => d = .string
  | .ptr e => d = .pointer e
  | .ifc => ∃ ms, d = .interface ms
  | .one => (∀ fs, d ≠ .struct fs) ∧ (∀ n e, d ≠ .array n e) ∧ (∀ ms, d ≠ .interface ms)

def aggV : Value → Bool
  | .agg _ => true
  | _ => false

structure TIok (P : Program) (t : Nat) (i : TI) : Prop where
  za : ∀ inf z, P.info? t = some inf → inf.zero = some z → aggV z = i.agg
  inf : ∃ inf z, P.info? t = some inf ∧ inf.size = i.ks.length ∧ inf.bytes = i.bytes ∧ inf.zero = some z ∧ z.cells.toList = i.ks.map TK.zero
  sh : ∃ d, P.underlying t = some d ∧ TI.shOk d i.sh

def zeroIs : TK → Value → Bool
  | .int k, .int k' n => k == k' && (match n with | .ofNat 0 => true | _ => false)
  | .bool, .bool b => !b
  | .str, .string s => match s with | ⟨⟨[]⟩⟩ => true | _ => false
  | .ptr, .pointer none => true
  | .slc, .slice none 0 0 => true
  | .map, .map none => true
  | .fn, .nilFunc => true
  | .ifc, .nilIface => true
  | _, _ => false
theorem zeroIs_eq {k : TK} {v : Value} (h : zeroIs k v = true) : v = k.zero := by
  cases k <;> cases v <;> simp_all [zeroIs, TK.zero]
  case int k q n =>
    obtain ⟨rfl, h2⟩ := h
    match n, h2 with
    | .ofNat 0, _ => rfl
  case str s =>
    match s, h with
    | ⟨⟨[]⟩⟩, _ => rfl
  case ptr a => cases a <;> simp_all
  case slc a l c =>
    cases a <;> cases l <;> cases c <;> simp_all
  case map r => cases r <;> simp_all

def zerosAre : List TK → List Value → Bool
  | [], [] => true
  | k :: ks, v :: vs => zeroIs k v && zerosAre ks vs
  | _, _ => false
theorem zerosAre_eq : ∀ {ks : List TK} {vs : List Value}, zerosAre ks vs = true → vs = ks.map TK.zero
  | [], [], _ => rfl
  | [], _ :: _, h => by simp [zerosAre] at h
  | _ :: _, [], h => by simp [zerosAre] at h
  | k :: ks, v :: vs, h => by
    simp only [zerosAre, Bool.and_eq_true] at h
    simp [zeroIs_eq h.1, zerosAre_eq h.2]

def fieldsAre : List Field → List (Nat × Nat) → Bool
  | [], [] => true
  | f :: fs, (o, t) :: r => Nat.beq f.offset o && Nat.beq f.type t && fieldsAre fs r
  | _, _ => false
theorem fieldsAre_eq : ∀ {fs : List Field} {r : List (Nat × Nat)}, fieldsAre fs r = true → fs.map (fun x => (x.offset, x.type)) = r
  | [], [], _ => rfl
  | [], _ :: _, h => by simp [fieldsAre] at h
  | _ :: _, [], h => by simp [fieldsAre] at h
  | f :: fs, (o, t) :: r, h => by
    simp only [fieldsAre, Bool.and_eq_true] at h
    simp [Nat.eq_of_beq_eq_true h.1.1, Nat.eq_of_beq_eq_true h.1.2, fieldsAre_eq h.2]

def TI.shChk (d : TypeDesc) : Shape → Bool
  | .slice e => match d with | .slice e' => Nat.beq e' e | _ => false
  | .array n e => match d with | .array n' e' => Nat.beq n' n && Nat.beq e' e | _ => false
  | .struct fs => match d with | .struct f => fieldsAre f.toList fs | _ => false
  | .map k e => match d with | .map k' e' => Nat.beq k' k && Nat.beq e' e | _ => false
  | .int k => match d with | .int k' => k' == k | _ => false
  | .bool => match d with | .bool => true | _ => false
  | .str => match d with | .string => true | _ => false
  | .ptr e => match d with | .pointer e' => Nat.beq e' e | _ => false
  | .ifc => match d with | .interface _ => true | _ => false
  | .one => match d with | .struct _ => false | .array _ _ => false | .interface _ => false | _ => true
theorem TI.shChk_ok {d : TypeDesc} {s : Shape} (h : TI.shChk d s = true) : TI.shOk d s := by
  cases s <;> cases d <;> simp_all [TI.shChk, TI.shOk]
  case struct fs f => exact fieldsAre_eq h

def TI.chk (P : Program) (t : Nat) (i : TI) : Bool :=
  match P.info? t, P.underlying t with
  | some inf, some d =>
    Nat.beq inf.size i.ks.length && Nat.beq inf.bytes i.bytes && (match inf.zero with | some z => zerosAre i.ks z.cells.toList && (aggV z == i.agg) | none => false) && TI.shChk d i.sh
  | _, _ => false
theorem TI.chk_ok {P : Program} {t : Nat} {i : TI} (h : TI.chk P t i = true) : TIok P t i := by
  unfold TI.chk at h
  cases h1 : P.info? t with
  | none => simp [h1] at h
  | some inf =>
    cases h2 : P.underlying t with
    | none => simp [h1, h2] at h
    | some d =>
      simp only [h1, h2, Bool.and_eq_true] at h
      obtain ⟨⟨⟨a, b⟩, c⟩, d'⟩ := h
      cases hz : inf.zero with
      | none => simp [hz] at c
      | some z =>
        simp only [hz, Bool.and_eq_true, beq_iff_eq] at c
        obtain ⟨c, c'⟩ := c
        exact ⟨fun inf' z' e1 e2 => by rw [h1] at e1; cases e1; rw [hz] at e2; cases e2; exact c', ⟨inf, z, h1, Nat.eq_of_beq_eq_true a, Nat.eq_of_beq_eq_true b, hz, zerosAre_eq c⟩, d, h2, TI.shChk_ok d'⟩

/-- What the walk knows of the program's types. -/
def TOk (P : Program) (T : Nat → TI) : Prop := ∀ t, (T t).ok = true → TIok P t (T t)

/-- The types' table, as a tree. -/
inductive TTree where
  | leaf
  | node (k : Nat) (i : TI) (l r : TTree)
def TTree.get : TTree → Nat → TI
  | .leaf, _ => TI.bad
  | .node k i l r, t => match Nat.beq t k with
    | true => i
    | false => match Nat.ble t k with
      | true => l.get t
      | false => r.get t
def TTree.chk (P : Program) : TTree → Bool
  | .leaf => true
  | .node k i l r => TI.chk P k i && (l.chk P && r.chk P)
theorem TTree.ok {P : Program} : ∀ {t : TTree}, t.chk P = true → TOk P t.get
  | .leaf, _ => fun t h => by simp [TTree.get, TI.bad] at h
  | .node k i l r, hc => fun t h => by
    simp only [TTree.chk, Bool.and_eq_true] at hc
    simp only [TTree.get] at h ⊢
    split
    · rename_i e
      rw [e] at h
      have := Nat.eq_of_beq_eq_true e
      subst this
      exact TI.chk_ok hc.1
    · rename_i e
      rw [e] at h
      simp only at h
      split
      · rename_i e2; rw [e2] at h; exact TTree.ok hc.2.1 t h
      · rename_i e2; rw [e2] at h; exact TTree.ok hc.2.2 t h

def TI.tab : List (Nat × TI) → Nat → TI
  | [], _ => TI.bad
  | (k, i) :: r, t => match Nat.beq k t with | true => i | false => TI.tab r t
theorem TI.tab_ok {P : Program} : ∀ (l : List (Nat × TI)), (l.all fun p => TI.chk P p.1 p.2) = true → TOk P (TI.tab l)
  | [], _ => fun t h => by simp [TI.tab, TI.bad] at h
  | (k, i) :: r, hl => fun t h => by
    simp only [List.all_cons, Bool.and_eq_true] at hl
    simp only [TI.tab] at h ⊢
    by_cases e : k = t
    · subst e
      rw [beq_true] at h ⊢
      exact TI.chk_ok hl.1
    · rw [beq_false e] at h ⊢
      exact TI.tab_ok r hl.2 t h

/-! ### the context of a walk -/
structure Is (C : Cx) (P : Program) (nt : Nat) (rs : List ResultVar) (R : Ending → RO → Hp → Prop) (T : Nat → TI) : Prop where
  hP : C.P = P
  hn : C.nt = nt
  hr : C.fn.results.toList = rs
  hR : C.R = R
  hT : TOk P T
  hM : P.follows .mixedOrders = true

/-- A check that is reckoned. -/
def ck (b : Bool) (K : Prop) : Prop := match b with | true => K | false => False
theorem ck_iff {b : Bool} {K : Prop} : ck b K ↔ b = true ∧ K := by cases b <;> simp [ck]
theorem ck_beq {x y : Nat} {K : Prop} (h : ck (Nat.beq x y) K) : x = y ∧ K := let ⟨a, b⟩ := ck_iff.1 h; ⟨Nat.eq_of_beq_eq_true a, b⟩
theorem ck_ble {x y : Nat} {K : Prop} (h : ck (Nat.ble x y) K) : x ≤ y ∧ K := let ⟨a, b⟩ := ck_iff.1 h; ⟨Nat.le_of_ble_eq_true a, b⟩
theorem ck_dec {p : Prop} [Decidable p] {K : Prop} (h : ck (decide p) K) : p ∧ K := let ⟨a, b⟩ := ck_iff.1 h; ⟨of_decide_eq_true a, b⟩

def upd (ρ : Fr) (d : Option Nat) (s : SV) : Fr := match d with | some d => (d, s) :: ρ | none => ρ
def dstOk (nt : Nat) : Option Nat → Prop
  | some d => d < nt
  | none => True

section
variable {C : Cx} {k : List It} {ρ : Fr} {bx : BX} {h : RO} {m : Hp}

/-- The frame behind an operation: one slot more is known. -/
theorem frame_put {nt : Nat} {β : Nat → Nat} {a : Act} (hs : a.tmps.size = nt) {d : Option Nat} (hd : dstOk nt d) {s : SV}
    (hf : ∀ t s, Fr.get ρ t = some s → a.tmps.getD t undef = conc β s) :
    (∀ t s', Fr.get (upd ρ d s) t = some s' → (a.put d (conc β s)).tmps.getD t undef = conc β s') ∧ (a.put d (conc β s)).tmps.size = nt ∧ (a.put d (conc β s)).defers = a.defers := by
  cases d with
  | none => exact ⟨hf, hs, rfl⟩
  | some d =>
    simp only [dstOk] at hd
    refine ⟨fun t s' e => ?_, by simp [Act.put, hs], rfl⟩
    simp only [upd, Fr.get_cons] at e
    simp only [Act.put]
    split at e
    · rename_i ht; subst ht
      cases e
      simp [Array.getD, hs, hd]
    · rename_i ht
      rw [← hf t s' e]
      simp [Array.getD_eq_getD_getElem?, Array.getElem?_setIfInBounds_ne ht]

theorem Sat.put {nt : Nat} {w0 w : World} {h0 : RO} {m0 : Hp} {a : Act} (s : Sat nt w0 h0 m0 ρ bx h m a w) {d : Option Nat} (hd : dstOk nt d) {β : Nat → Nat} {x : SV}
    (hf : ∀ t s, Fr.get ρ t = some s → a.tmps.getD t undef = conc β s)
    (hb : ∀ id s, BX.get bx id = some s → s.ok β w0.heap.size h m w id)
    (hi : ∀ i j s t b, i ≠ j → BX.get bx i = some s → BX.get bx j = some t → s.blk β i = some b → t.blk β j ≠ some b) :
    Sat nt w0 h0 m0 (upd ρ d x) bx h m (a.put d (conc β x)) w := by
  obtain ⟨f1, f2, f3⟩ := frame_put (β := β) s.size hd (s := x) hf
  exact ⟨s.step, f2, f3.trans s.defers, β, f1, hb, hi⟩

/-- An operation that hands back a value and leaves the world. -/
theorem wp_value {all : Array Oper} {o : Oper} {r : List Oper} {a : Act} {w w' : World} {v : Value} (hg : Region.wanted o (yielded all a.tmps) = true)
    (hrun : (execOp a.eval o).run C.P w = .ok (.value v) w') (hn : WP C (.ops all r :: k) (a.put o.dst v) w') : WP C (.ops all (o :: r) :: k) a w := by
  rw [WP_ops] at hn ⊢
  refine wpList_step fun K hK => ?_
  rw [if_pos hg]
  simp only [Oper.wp, hrun, Oper.upon]
  exact hK _ _ hn
theorem wp_unit {all : Array Oper} {o : Oper} {r : List Oper} {a : Act} {w w' : World} (hg : Region.wanted o (yielded all a.tmps) = true)
    (hrun : (execOp a.eval o).run C.P w = .ok .skip w') (hn : WP C (.ops all r :: k) (a.put o.dst undef) w') : WP C (.ops all (o :: r) :: k) a w := by
  rw [WP_ops] at hn ⊢
  refine wpList_step fun K hK => ?_
  rw [if_pos hg]
  simp only [Oper.wp, hrun, Oper.upon]
  exact hK _ _ hn
theorem wp_passed {all : Array Oper} {o : Oper} {r : List Oper} {a : Act} {w : World} (hg : Region.wanted o (yielded all a.tmps) = false)
    (hn : WP C (.ops all r :: k) (a.put o.dst undef) w) : WP C (.ops all (o :: r) :: k) a w := by
  rw [WP_ops] at hn ⊢
  refine wpList_step fun K hK => ?_
  rw [if_neg (by simp [hg])]
  exact hK _ _ hn
end
end Go.SX
/-
  SX, part D: operations that leave the world alone: what they yield, and that they do.
-/
namespace Go.SX

/-- A value that may be handed on as it is. -/
def pl (bx : BX) : SV → Option Value
  | .v x => some x
  | .own _ x => some x
  | .bit b => some (.bool b)
  | .loc id off => match BX.get bx id with | some (.pub b _) => some (.pointer (some ⟨b, off, none⟩)) | _ => none
  | .arr id n => match BX.get bx id with | some (.pub b _) => some (.slice (some ⟨b, 0, none⟩) n n) | _ => none

def evP (ρ : Fr) (bx : BX) (x : Operand) (K : Value → Prop) : Prop :=
  ev ρ x fun s => match pl bx s with | some v => K v | none => False
def evPs (ρ : Fr) (bx : BX) : List Operand → (List Value → Prop) → Prop
  | [], K => K []
  | x :: xs, K => evP ρ bx x fun v => evPs ρ bx xs fun vs => K (v :: vs)

/-- Some value of the kind. -/
def exK : TK → (Value → Prop) → Prop
  | .int k, K => ∃ n, K (.int k n)
  | .bool, K => ∃ b, K (.bool b)
  | .str, K => ∃ s, K (.string s)
  | .ptr, K => ∃ p, K (.pointer p)
  | .slc, K => ∃ a l c, K (.slice a l c)
  | .map, K => ∃ r, K (.map r)
  | .fn, K => ∃ v, K v
  | .ifc, K => ∃ v, K v
theorem exK_ex {t : TK} {K : Value → Prop} (h : exK t K) : ∃ v, K v := by
  cases t <;> simp only [exK] at h
  case slc => obtain ⟨a, l, c, h⟩ := h; exact ⟨_, h⟩
  all_goals (obtain ⟨x, h⟩ := h; exact ⟨_, h⟩)

def ldK : List TK → (Nat → Value → Prop) → Nat → (List Value → Prop) → Prop
  | [], _, _, K => K []
  | t :: ts, rd, i, K => exK t fun v => rd i v ∧ ldK ts rd (i + 1) fun vs => K (v :: vs)
theorem ldK_ex : ∀ {ts : List TK} {rd : Nat → Value → Prop} {i : Nat} {K : List Value → Prop}, ldK ts rd i K → ∃ vs : List Value, vs.length = ts.length ∧ (∀ j v, vs[j]? = some v → rd (i + j) v) ∧ K vs
  | [], _, _, _, h => ⟨[], rfl, by simp, h⟩
  | t :: ts, rd, i, K, h => by
    obtain ⟨v, h1, h2⟩ := exK_ex h
    obtain ⟨vs, hl, hr, hk⟩ := ldK_ex h2
    refine ⟨v :: vs, by simp [hl], ?_, hk⟩
    intro j u hj
    cases j with
    | zero => simp at hj; subst hj; simpa using h1
    | succ j => simp at hj; have := hr j u hj; rwa [show i + 1 + j = i + (j + 1) by omega] at this

/-- A cell that may be read. -/
def Cell (h : RO) (m : Hp) (b i : Nat) (v : Value) : Prop := h.c b i = some v ∨ ∃ cs t f, m b = some (.cells cs t f) ∧ cs[i]? = some v
theorem Cell.world {h : RO} {m : Hp} {w : World} {b i : Nat} {v : Value} (hc : Cell h m b i v) (hh : h.on w) (hm : m.on w) : w.cell? ⟨b, i, none⟩ = some v := by
  rcases hc with hc | ⟨cs, t, f, h1, h2⟩
  · exact hh.c b i v hc
  · simp only [World.cell?, hm b _ h1]; simpa using h2

def mkV (agg : Bool) (vs : List Value) : Value := match agg with | true => .agg vs.toArray | false => match vs with | [v] => v | _ => undef

/-- The cells of a value. -/
def cellsL : Value → List Value
  | .agg cs => cs.toList
  | v => [v]
theorem cellsL_eq (v : Value) : v.cells.toList = cellsL v := by cases v <;> rfl

def subA (a : Option Addr) (n : Nat) : Option Addr := match a with | some x => some (x.add n) | none => none

/-- Arithmetic and tests. -/
def binI (op : BinOp) (k : IntKind) (a b : Int) (K : Value → Prop) : Prop :=
  match op with
  | .add => K (.int k (k.wrap (a + b)))
  | .sub => K (.int k (k.wrap (a - b)))
  | .mul => K (.int k (k.wrap (a * b)))
  | .quo => b ≠ 0 ∧ K (.int k (k.wrap (a.tdiv b)))
  | .rem => b ≠ 0 ∧ K (.int k (a.tmod b))
  | .and => K (.int k (k.wrap (BitVec.ofInt k.bits a &&& BitVec.ofInt k.bits b).toNat))
  | .or => K (.int k (k.wrap (BitVec.ofInt k.bits a ||| BitVec.ofInt k.bits b).toNat))
  | .xor => K (.int k (k.wrap (BitVec.ofInt k.bits a ^^^ BitVec.ofInt k.bits b).toNat))
  | .eql => K (.bool (a == b))
  | .neq => K (.bool (a != b))
  | .lss => K (.bool (decide (a < b)))
  | .leq => K (.bool (decide (a ≤ b)))
  | .gtr => K (.bool (decide (a > b)))
  | .geq => K (.bool (decide (a ≥ b)))
  | _ => False

def eqV (sh : Shape) (x y : Value) (K : Bool → Prop) : Prop :=
  match sh, x, y with
  | .bool, .bool a, .bool b => K (a == b)
  | .ptr _, .pointer none, .pointer b => K b.isNone
  | .ptr _, .pointer (some _), .pointer none => K false
  | .slice _, .slice none _ _, .slice b _ _ => K b.isNone
  | .slice _, .slice (some _) _ _, .slice none _ _ => K false
  | _, _, _ => False

def binV (T : Nat → TI) (op : BinOp) (t : Nat) (x y : Value) (K : Value → Prop) : Prop :=
  match op, x, y with
  | .shl, .int k a, .int _ b => 0 ≤ b ∧ K (.int k (k.wrap (a * 2 ^ (min b.toNat k.bits))))
  | .shr, .int k a, .int _ b => 0 ≤ b ∧ K (.int k (a.fdiv (2 ^ (min b.toNat k.bits))))
  | op, .int k a, .int k' b => ck (decide (k = k')) (binI op k a b K)
  | .eql, .string a, .string b => K (.bool (a.toList == b.toList))
  | .neq, .string a, .string b => K (.bool !(a.toList == b.toList))
  | .eql, x, y => ck (T t).ok (eqV (T t).sh x y fun b => K (.bool b))
  | .neq, x, y => ck (T t).ok (eqV (T t).sh x y fun b => K (.bool !b))
  | _, _, _ => False

def unV (op : UnOp) (x : Value) (K : Value → Prop) : Prop :=
  match op, x with
  | .not, .bool b => K (.bool !b)
  | .neg, .int k n => K (.int k (k.wrap (0 - n)))
  | _, _ => False

section
variable {P : Program} {w : World}

theorem binI_ok {op : BinOp} {k : IntKind} {a b : Int} {K : Value → Prop} (t : Nat) (x y : Operand) (hns : op ≠ .shl ∧ op ≠ .shr) (h : binI op k a b K) :
    ∃ v, K v ∧ ∀ w : World, (do eqGuard op t x y (.int k a) (.int k b); binOp op t (.int k a) (.int k b) : Sem Value).run P w = .ok v w := by
  cases op <;> simp only [binI] at h <;> first
    | exact h.elim
    | exact absurd rfl hns.1
    | exact absurd rfl hns.2
    | (refine ⟨_, h, fun w => ?_⟩; simp [eqGuard, binOp, Op.intArith, Op.intBits, Op.intCmp]; done)
    | (obtain ⟨h0, h⟩ := h; refine ⟨_, h, fun w => ?_⟩; simp [eqGuard, binOp, Op.intDiv, h0]; done)

theorem under {T : Nat → TI} {t : Nat} (hT : TOk P T) (hok : (T t).ok = true) : ∃ d, P.underlying t = some d ∧ TI.shOk d (T t).sh := (hT t hok).sh

theorem equal_succ (t : Nat) (x y : Value) : ∃ n, Op.equal t x y = Op.equalIn (n + 1) t x y := ⟨9999, rfl⟩

theorem eqV_ok {T : Nat → TI} {t : Nat} (hT : TOk P T) (hok : (T t).ok = true) {x y : Value} {K : Bool → Prop} (h : eqV (T t).sh x y K) :
    ∃ b, K b ∧ ∀ w : World, (Op.equal t x y).run P w = .ok b w := by
  obtain ⟨d, hd, hs⟩ := under hT hok
  revert hs h
  generalize (T t).sh = sh
  intro h hs
  unfold eqV at h
  split at h <;> first | exact h.elim | skip
  all_goals
    simp only [TI.shOk] at hs
    subst hs
    refine ⟨_, h, fun w => ?_⟩
    obtain ⟨n, hn⟩ := equal_succ t _ _
    rw [hn]
    simp [Op.equalIn, run_underlying hd]

theorem eqV_run {T : Nat → TI} {t : Nat} (hT : TOk P T) (hok : (T t).ok = true) (xo yo : Operand) {x y : Value} {K : Bool → Prop} (h : eqV (T t).sh x y K) :
    ∃ b, K b ∧ ∀ w : World, (do eqGuard .eql t xo yo x y; binOp .eql t x y : Sem Value).run P w = .ok (.bool b) w ∧ (do eqGuard .neq t xo yo x y; binOp .neq t x y : Sem Value).run P w = .ok (.bool !b) w := by
  obtain ⟨b, hb, hr⟩ := eqV_ok hT hok h
  refine ⟨b, hb, fun w => ?_⟩
  revert h
  generalize (T t).sh = sh
  intro h
  unfold eqV at h
  split at h <;> first | exact h.elim | (simp [eqGuard, binOp, hr]; done)

theorem binV_ok {T : Nat → TI} {t : Nat} (hT : TOk P T) (xo yo : Operand) {op : BinOp} {x y : Value} {K : Value → Prop} (h : binV T op t x y K) :
    ∃ v, K v ∧ ∀ w : World, (do eqGuard op t xo yo x y; binOp op t x y : Sem Value).run P w = .ok v w := by
  unfold binV at h
  split at h
  · obtain ⟨h0, h⟩ := h
    refine ⟨_, h, fun w => ?_⟩
    simp [eqGuard, binOp, Op.shift, show ¬ (_ : Int) < 0 from Int.not_lt.2 h0]
  · obtain ⟨h0, h⟩ := h
    refine ⟨_, h, fun w => ?_⟩
    simp [eqGuard, binOp, Op.shift, show ¬ (_ : Int) < 0 from Int.not_lt.2 h0]
  · rename_i hn1 hn2
    obtain ⟨e, h2⟩ := ck_dec h
    subst e
    exact binI_ok t xo yo ⟨hn1, hn2⟩ h2
  · refine ⟨_, h, fun w => ?_⟩
    simp [eqGuard, binOp, Op.stringOp]
  · refine ⟨_, h, fun w => ?_⟩
    simp [eqGuard, binOp, Op.stringOp]
  · obtain ⟨hok, h⟩ := ck_iff.1 h
    obtain ⟨b, hb, hr⟩ := eqV_run hT hok xo yo h
    exact ⟨_, hb, fun w => (hr w).1⟩
  · obtain ⟨hok, h⟩ := ck_iff.1 h
    obtain ⟨b, hb, hr'⟩ := eqV_run hT hok xo yo h
    exact ⟨_, hb, fun w => (hr' w).2⟩
  · exact h.elim

theorem unV_ok {op : UnOp} {x : Value} {K : Value → Prop} (h : unV op x K) : ∃ v, K v ∧ ∀ w : World, (Op.unary op x).run P w = .ok v w := by
  unfold unV at h
  split at h
  · exact ⟨_, h, fun w => by simp [Op.unary]⟩
  · exact ⟨_, h, fun w => by simp [Op.unary, Op.intArith]⟩
  · exact h.elim
end
end Go.SX
/-
  SX, part E: operations on values alone.
-/
namespace Go.SX

def takeN : Nat → List Value → List Value
  | 0, _ => []
  | n + 1, x :: xs => x :: takeN n xs
  | _ + 1, [] => []
def dropN : Nat → List Value → List Value
  | 0, l => l
  | n + 1, _ :: xs => dropN n xs
  | _ + 1, [] => []
def setN : List Value → Nat → Value → List Value
  | [], _, _ => []
  | _ :: xs, 0, v => v :: xs
  | x :: xs, n + 1, v => x :: setN xs n v
def setL : List Value → Nat → List Value → List Value
  | l, _, [] => l
  | l, i, v :: vs => setL (setN l i v) (i + 1) vs
def nthL {α : Type} : List α → Nat → Option α
  | [], _ => none
  | x :: _, 0 => some x
  | _ :: xs, n + 1 => nthL xs n
def lenL {α : Type} : List α → Nat
  | [] => 0
  | _ :: xs => lenL xs + 1

theorem takeN_eq : ∀ (n : Nat) (l : List Value), takeN n l = l.take n
  | 0, _ => by simp [takeN]
  | n + 1, [] => by simp [takeN]
  | n + 1, x :: xs => by simp [takeN, takeN_eq n xs]
theorem dropN_eq : ∀ (n : Nat) (l : List Value), dropN n l = l.drop n
  | 0, _ => by simp [dropN]
  | n + 1, [] => by simp [dropN]
  | n + 1, x :: xs => by simp [dropN, dropN_eq n xs]
theorem setN_eq : ∀ (l : List Value) (n : Nat) (v : Value), setN l n v = l.set n v
  | [], _, _ => by simp [setN]
  | _ :: _, 0, _ => by simp [setN]
  | _ :: xs, n + 1, v => by simp [setN, setN_eq xs n v]
theorem nthL_eq {α : Type} : ∀ (l : List α) (n : Nat), nthL l n = l[n]?
  | [], _ => by simp [nthL]
  | _ :: _, 0 => by simp [nthL]
  | _ :: xs, n + 1 => by simp [nthL, nthL_eq xs n]
theorem lenL_eq {α : Type} : ∀ (l : List α), lenL l = l.length
  | [] => rfl
  | _ :: xs => by simp [lenL, lenL_eq xs]
theorem setL_length : ∀ (l : List Value) (i : Nat) (vs : List Value), (setL l i vs).length = l.length
  | l, _, [] => by simp [setL]
  | l, i, v :: vs => by simp [setL, setL_length, setN_eq]

theorem fold_set (off : Nat) : ∀ (vs : List Value) (j : Nat) (cs : Array Value), ((vs.zipIdx j).foldl (fun cs (x : Value × Nat) => cs.setIfInBounds (off + x.2) x.1) cs).toList = setL cs.toList (off + j) vs
  | [], _, _ => by simp [setL]
  | v :: vs, j, cs => by
    simp only [List.zipIdx_cons, List.foldl_cons, setL]
    rw [fold_set off vs (j + 1)]
    simp [setN_eq, Nat.add_assoc]

theorem fold_cells (off : Nat) (v : Value) (cs : Array Value) : (v.cells.zipIdx.foldl (fun cs (x : Value × Nat) => cs.setIfInBounds (off + x.2) x.1) cs) = (setL cs.toList off (cellsL v)).toArray := by
  have := fold_set off v.cells.toList 0 cs
  rw [← cellsL_eq]
  apply Array.ext'
  rw [← Array.foldl_toList, Array.toList_zipIdx]
  simpa using this

/-- A part of a struct's or an array's cells. -/
def partV (i : TI) (cs : List Value) (off : Nat) (K : Value → Prop) : Prop :=
  match i.agg with
  | true => K (.agg (takeN (lenL i.ks) (dropN off cs)).toArray)
  | false => match nthL cs off with | some v => K v | none => False

section
variable {P : Program} {w : World} {T : Nat → TI}

theorem run_info {t : Nat} (hT : TOk P T) (hok : (T t).ok = true) : ∃ inf z, (∀ w : World, (typeInfo t).run P w = .ok inf w) ∧ P.info? t = some inf ∧ inf.size = (T t).ks.length ∧ inf.bytes = (T t).bytes ∧ inf.zero = some z ∧ z.cells.toList = (T t).ks.map TK.zero := by
  obtain ⟨inf, z, h1, h2, h3, h4, h5⟩ := (hT t hok).inf
  exact ⟨inf, z, fun w => by simp [typeInfo, h1], h1, h2, h3, h4, h5⟩
theorem run_sizeOf {t : Nat} (hT : TOk P T) (hok : (T t).ok = true) (w : World) : (sizeOf t).run P w = .ok (T t).ks.length w := by
  obtain ⟨inf, z, h1, h2, h3, h4, h5⟩ := (hT t hok).inf
  simp [sizeOf, typeInfo, h1, h2]
theorem run_zero {t : Nat} (hT : TOk P T) (hok : (T t).ok = true) : ∃ z, (∀ w : World, (zeroValue t).run P w = .ok z w) ∧ z.cells.toList = (T t).ks.map TK.zero := by
  obtain ⟨inf, z, h1, h2, h3, h4, h5⟩ := (hT t hok).inf
  exact ⟨z, fun w => by simp [zeroValue, typeInfo, h1, h4], h5⟩
theorem run_isAgg {t : Nat} (hT : TOk P T) (hok : (T t).ok = true) (w : World) : (isAgg t).run P w = .ok (T t).agg w := by
  obtain ⟨d, hd, hs⟩ := under hT hok
  unfold TI.agg
  revert hs
  generalize (T t).sh = sh
  intro hs
  cases sh <;> simp only [TI.shOk] at hs
  case one =>
    cases d <;> simp [isAgg, run_underlying hd]
    · exact hs.2.1 _ _ rfl
    · exact hs.1 _ rfl
  case struct fs => obtain ⟨f, rfl, _⟩ := hs; simp [isAgg, run_underlying hd]
  case ifc => obtain ⟨f, rfl⟩ := hs; simp [isAgg, run_underlying hd]
  all_goals (subst hs; simp [isAgg, run_underlying hd])

theorem partV_ok {t : Nat} {cs : List Value} {off : Nat} {K : Value → Prop} (hT : TOk P T) (hok : (T t).ok = true) (h : partV (T t) cs off K) :
    ∃ v, K v ∧ ∀ w : World, (part t cs.toArray off).run P w = .ok v w := by
  unfold partV at h
  have ha := run_isAgg hT hok
  cases hg : (T t).agg with
  | true =>
    rw [hg] at h ha
    refine ⟨_, h, fun w => ?_⟩
    simp [part, ha, run_sizeOf hT hok, takeN_eq, dropN_eq, lenL_eq]
  | false =>
    rw [hg] at h ha
    simp only [nthL_eq] at h
    cases hn : cs[off]? with
    | none => rw [hn] at h; exact h.elim
    | some v => rw [hn] at h; exact ⟨v, h, fun w => by simp [part, ha, hn]⟩

def slA (a : Option Addr) (l cap sz : Nat) : Option Addr := if cap = l then a else a.map (·.add (l * sz))

/-- 'x[lo:hi]' of a slice. -/
def sliceV (T : Nat → TI) (e : Nat) (x : Value) (lo hi : Option Value) (K : Value → Prop) : Prop :=
  match x, lo, hi with
  | .slice a n c, none, none => K (.slice (slA a 0 c (lenL (T e).ks)) n c)
  | .slice a _ c, none, some (.int _ j) => (0 ≤ j ∧ j ≤ c) ∧ K (.slice (slA a 0 c (lenL (T e).ks)) j.toNat c)
  | .slice a n c, some (.int _ i), none => (0 ≤ i ∧ i ≤ n) ∧ K (.slice (slA a i.toNat c (lenL (T e).ks)) (n - i.toNat) (c - i.toNat))
  | .slice a _ c, some (.int _ i), some (.int _ j) => (0 ≤ i ∧ i ≤ j ∧ j ≤ c) ∧ K (.slice (slA a i.toNat c (lenL (T e).ks)) (j.toNat - i.toNat) (c - i.toNat))
  | _, _, _ => False

theorem sliceV_ok {t e : Nat} {x : Value} {lo hi : Option Value} {K : Value → Prop} (hT : TOk P T) (hok : (T t).ok = true) (hsh : (T t).sh = .slice e) (hoe : (T e).ok = true) (h : sliceV T e x lo hi K) :
    ∃ v, K v ∧ ∀ w : World, (Instr.sliceAt t x lo hi none).run P w = .ok v w := by
  obtain ⟨d, hd, hs⟩ := under hT hok
  rw [hsh] at hs
  simp only [TI.shOk] at hs
  subst hs
  unfold sliceV at h
  split at h
  · refine ⟨_, h, fun w => ?_⟩
    simp [Instr.sliceAt, Instr.slice, Instr.sliceBounds, run_underlying hd, run_sizeOf hT hoe, slA, lenL_eq]
  · obtain ⟨⟨h0, h1⟩, h⟩ := h
    refine ⟨_, h, fun w => ?_⟩
    simp [Instr.sliceAt, Instr.slice, Instr.sliceBounds, Instr.sliceBound, asIntOf, run_underlying hd, run_sizeOf hT hoe, slA, lenL_eq, h0, h1]
  · obtain ⟨⟨h0, h1⟩, h⟩ := h
    refine ⟨_, h, fun w => ?_⟩
    simp [Instr.sliceAt, Instr.slice, Instr.sliceBounds, Instr.sliceBound, asIntOf, run_underlying hd, run_sizeOf hT hoe, slA, lenL_eq, h0, h1]
  · obtain ⟨⟨h0, h1, h2⟩, h⟩ := h
    refine ⟨_, h, fun w => ?_⟩
    have h3 : (0 : Int) ≤ ‹Int› := Int.le_trans h0 h1
    simp [Instr.sliceAt, Instr.slice, Instr.sliceBounds, Instr.sliceBound, asIntOf, run_underlying hd, run_sizeOf hT hoe, slA, lenL_eq, h0, h1, h2, h3, Int.toNat_le]
    intro hlt; exfalso; omega
  · exact h.elim

theorem add_eq (b off n : Nat) : (⟨b, off, none⟩ : Addr).add n = ⟨b, off + n, none⟩ := by
  unfold Addr.add; split
  · rename_i h; subst h; rfl
  · rfl

/-- A struct's field. -/
def fieldV (T : Nat → TI) (t : Nat) (x : Value) (f : Nat) (K : Value → Prop) : Prop :=
  match (T t).sh, x with
  | .struct fs, .agg cs => match nthL fs f with | some (off, ft) => ck (T t).ok (ck (T ft).ok (partV (T ft) cs.toList off K)) | none => False
  | _, _ => False
theorem fieldV_ok {t : Nat} {x : Value} {f : Nat} {K : Value → Prop} (hT : TOk P T) (h : fieldV T t x f K) : ∃ v, K v ∧ ∀ w : World, (Instr.field t x f).run P w = .ok v w := by
  unfold fieldV at h
  split at h
  · rename_i fs cs hsh
    split at h
    · rename_i off ft hf
      obtain ⟨h1, h⟩ := ck_iff.1 h
      obtain ⟨h2, h3⟩ := ck_iff.1 h
      obtain ⟨d, hd, hs⟩ := under hT h1
      rw [hsh] at hs
      simp only [TI.shOk] at hs
      obtain ⟨fl, rfl, hfl⟩ := hs
      obtain ⟨v, hk, hr⟩ := partV_ok hT h2 h3
      refine ⟨v, hk, fun w => ?_⟩
      rw [nthL_eq, ← hfl] at hf
      simp only [List.getElem?_map] at hf
      cases hg : fl.toList[f]? with
      | none => rw [hg] at hf; cases hf
      | some q =>
        rw [hg] at hf
        simp at hf
        obtain ⟨rfl, rfl⟩ := hf
        have hg' : fl[f]? = some q := by simpa using hg
        simp [Instr.field, run_underlying hd, hg', asAgg, hr]
    · exact h.elim
  · exact h.elim

/-- An array's element. -/
def indexV (T : Nat → TI) (t : Nat) (x i : Value) (K : Value → Prop) : Prop :=
  match (T t).sh, x, i with
  | .array n e, .agg cs, .int _ j => ck (T t).ok (ck (T e).ok ((0 ≤ j ∧ j < n) ∧
      match (T e).agg, (T e).ks with
      | false, [k] => exK k fun v => nthL cs.toList j.toNat = some v ∧ K v
      | _, _ => False))
  | _, _, _ => False
theorem indexV_ok {t : Nat} {x i : Value} {K : Value → Prop} (hT : TOk P T) (h : indexV T t x i K) : ∃ v, K v ∧ ∀ w : World, (Instr.index t x i).run P w = .ok v w := by
  unfold indexV at h
  split at h
  · rename_i n e cs kk j hsh
    obtain ⟨h1, h⟩ := ck_iff.1 h
    obtain ⟨h2, ⟨h3, h4⟩, h5⟩ := ck_iff.1 h
    obtain ⟨d, hd, hs⟩ := under hT h1
    rw [hsh] at hs
    simp only [TI.shOk] at hs
    subst hs
    split at h5
    · rename_i k ha hk
      obtain ⟨v, hv, hK⟩ := exK_ex h5
      refine ⟨v, hK, fun w => ?_⟩
      have hsz := run_sizeOf hT h2 w
      rw [hk] at hsz
      have hag := run_isAgg hT h2 w
      rw [ha] at hag
      rw [nthL_eq] at hv
      have hv' : cs[j.toNat]? = some v := by simpa using hv
      simp [Instr.index, asIntOf, run_underlying hd, h3, h4, hsz, part, hag, hv']
    · exact h5.elim
  · exact h.elim

def extractV (x : Value) (i : Nat) (K : Value → Prop) : Prop :=
  match x with
  | .tuple vs => match nthL vs.toList i with | some v => K v | none => False
  | _ => False
theorem extractV_ok {x : Value} {i : Nat} {K : Value → Prop} (h : extractV x i K) : ∃ v, K v ∧ ∀ w : World, (Instr.extract x i).run P w = .ok v w := by
  unfold extractV at h
  split at h
  · rename_i vs
    split at h
    · rename_i v hv
      rw [nthL_eq] at hv
      have hv' : vs[i]? = some v := by simpa using hv
      exact ⟨v, h, fun w => by simp [Instr.extract, hv']⟩
    · exact h.elim
  · exact h.elim

def lenV (T : Nat → TI) (t : Nat) (x : Value) (K : Value → Prop) : Prop :=
  ck (T t).ok <| match (T t).sh, x with
  | .slice _, .slice _ n _ => K (.int .i64 n)
  | .str, .string s => K (.int .i64 s.size)
  | .array n _, _ => K (.int .i64 n)
  | _, _ => False
theorem lenV_ok {t ty : Nat} {x : Value} {K : Value → Prop} (hT : TOk P T) (h : lenV T t x K) : ∃ v, K v ∧ ∀ w : World, (Builtin.len_ #[t] ty #[x]).run P w = .ok v w := by
  obtain ⟨h1, h⟩ := ck_iff.1 h
  obtain ⟨d, hd, hs⟩ := under hT h1
  revert hs h
  generalize (T t).sh = sh
  intro h hs
  split at h
  all_goals first | exact h.elim | skip
  all_goals
    simp only [TI.shOk] at hs
    subst hs
    exact ⟨_, h, fun w => by simp [Builtin.len_, run_underlying hd, goInt]⟩

def maxV (x y : Value) (K : Value → Prop) : Prop := match x, y with | .int k a, .int _ b => K (.int k (max a b)) | _, _ => False
def minV (x y : Value) (K : Value → Prop) : Prop := match x, y with | .int k a, .int _ b => K (.int k (min a b)) | _, _ => False
theorem maxV_ok {x y : Value} {K : Value → Prop} (h : maxV x y K) : ∃ v, K v ∧ ∀ (ts : Array Nat) (ty : Nat) (w : World), (Builtin.max_ ts ty #[x, y]).run P w = .ok v w := by
  unfold maxV at h
  split at h
  · rename_i k a k' b
    refine ⟨_, h, fun ts ty w => ?_⟩
    simp only [Builtin.max_, List.foldlM, Builtin.max2]
    have : (if b > a then b else a) = max a b := by split <;> omega
    simp [this]
  · exact h.elim
theorem minV_ok {x y : Value} {K : Value → Prop} (h : minV x y K) : ∃ v, K v ∧ ∀ (ts : Array Nat) (ty : Nat) (w : World), (Builtin.min_ ts ty #[x, y]).run P w = .ok v w := by
  unfold minV at h
  split at h
  · rename_i k a k' b
    refine ⟨_, h, fun ts ty w => ?_⟩
    simp only [Builtin.min_, List.foldlM, Builtin.min2]
    have : (if b < a then b else a) = min a b := by split <;> omega
    simp [this]
  · exact h.elim

def convV (T : Nat → TI) (s d : Nat) (x : Value) (K : Value → Prop) : Prop :=
  ck (T s).ok <| ck (T d).ok <| match (T s).sh, (T d).sh, x with
  | .int _, .int k, .int _ n => K (.int k (k.wrap n))
  | _, _, _ => False
theorem convV_ok {s d : Nat} {x : Value} {K : Value → Prop} (hT : TOk P T) (h : convV T s d x K) : ∃ v, K v ∧ ∀ w : World, (convert s d x).run P w = .ok v w := by
  obtain ⟨h1, h⟩ := ck_iff.1 h
  obtain ⟨h2, h⟩ := ck_iff.1 h
  obtain ⟨d1, hd1, hs1⟩ := under hT h1
  obtain ⟨d2, hd2, hs2⟩ := under hT h2
  revert hs1 hs2 h
  generalize (T s).sh = sh1
  generalize (T d).sh = sh2
  intro h hs1 hs2
  split at h
  · simp only [TI.shOk] at hs1 hs2
    subst hs1; subst hs2
    exact ⟨_, h, fun w => by simp [convert, run_underlying hd1, run_underlying hd2, Conv.intToInt]⟩
  · exact h.elim

def ifcV (T : Nat → TI) (t : Nat) (x : Value) (K : Value → Prop) : Prop := ck (T t).ok <| match (T t).sh with | .ifc => False | _ => K (.iface t x)
theorem ifcV_ok {t : Nat} {x : Value} {K : Value → Prop} (hT : TOk P T) (h : ifcV T t x K) : ∃ v, K v ∧ ∀ w : World, (Instr.makeInterface t x).run P w = .ok v w := by
  obtain ⟨h1, h⟩ := ck_iff.1 h
  obtain ⟨d1, hd1, hs1⟩ := under hT h1
  revert hs1 h
  generalize (T t).sh = sh1
  intro h hs1
  cases sh1 <;> simp only [TI.shOk] at hs1 h
  case struct fs => obtain ⟨f, rfl, _⟩ := hs1; exact ⟨_, h, fun w => by simp [Instr.makeInterface, run_underlying hd1]⟩
  case one =>
    refine ⟨_, h, fun w => ?_⟩
    cases d1 <;> simp [Instr.makeInterface, run_underlying hd1]
    exact hs1.2.2 _ rfl
  all_goals (subst hs1; exact ⟨_, h, fun w => by simp [Instr.makeInterface, run_underlying hd1]⟩)

/-- A literal's cells, part by part. -/
def fillV (T : Nat → TI) (pl : Nat → Option (Nat × Nat)) : List Value → List (Nat × Value) → (List Value → Prop) → Prop
  | cs, [], K => K cs
  | cs, (i, v) :: r, K => match pl i with
    | some (off, sz) => ck (Nat.beq (lenL (cellsL v)) sz) <| ck (Nat.ble (off + sz) (lenL cs)) <| fillV T pl (setL cs off (cellsL v)) r K
    | none => False
theorem fillV_ok {pl : Nat → Option (Nat × Nat)} : ∀ {ps : List (Nat × Value)} {cs : List Value} {K : List Value → Prop}, fillV T pl cs ps K → ∃ cs', K cs' ∧ cs'.length = cs.length ∧ Instr.fill pl cs.toArray ps = some cs'.toArray
  | [], cs, K, h => ⟨cs, h, rfl, rfl⟩
  | (i, v) :: r, cs, K, h => by
    simp only [fillV] at h
    cases hp : pl i with
    | none => rw [hp] at h; exact h.elim
    | some q =>
      obtain ⟨off, sz⟩ := q
      rw [hp] at h
      obtain ⟨h1, h⟩ := ck_beq h
      obtain ⟨h2, h3⟩ := ck_ble h
      obtain ⟨cs', hk, hl, hf⟩ := fillV_ok h3
      refine ⟨cs', hk, by rw [hl, setL_length], ?_⟩
      rw [lenL_eq] at h1 h2
      have hvs : v.cells.size = sz := by rw [← h1, ← cellsL_eq]; simp
      simp only [Instr.fill, hp, hvs]
      rw [if_neg (by simp; omega)]
      have := fold_cells off v cs.toArray
      rw [this]
      exact hf
end
end Go.SX
/-
  SX, part F: all operations that leave the world alone, in one: 'opV'.
-/
namespace Go.SX

def fsOkB (T : Nat → TI) : List (Nat × Nat) → Bool
  | [] => true
  | (_, t) :: r => match (T t).ok with | true => fsOkB T r | false => false
def fsOk (T : Nat → TI) : List (Nat × Nat) → Prop
  | [] => True
  | (_, t) :: r => (T t).ok = true ∧ fsOk T r
theorem fsOkB_ok {T : Nat → TI} : ∀ {l : List (Nat × Nat)}, fsOkB T l = true → fsOk T l
  | [], _ => trivial
  | (_, t) :: r, h => by
    simp only [fsOkB] at h
    split at h
    · rename_i e; exact ⟨e, fsOkB_ok h⟩
    · cases h

def placeOf (T : Nat → TI) (fs : List (Nat × Nat)) (i : Nat) : Option (Nat × Nat) :=
  match nthL fs i with | some (off, ft) => some (off, lenL (T ft).ks) | none => none

def zerosL (i : TI) : List Value := i.ks.map TK.zero

def buildV (T : Nat → TI) (t : Nat) (parts : List (Nat × Value)) (K : Value → Prop) : Prop :=
  ck (T t).ok <| match (T t).sh with
  | .struct fs => ck (fsOkB T fs) <| fillV T (placeOf T fs) (zerosL (T t)) parts fun cs => K (.agg cs.toArray)
  | .array _ e => ck (T e).ok <| fillV T (fun i => some (i * lenL (T e).ks, lenL (T e).ks)) (zerosL (T t)) parts fun cs => K (.agg cs.toArray)
  | _ => False

section
variable {P : Program} {w : World} {T : Nat → TI}

theorem run_places (hT : TOk P T) : ∀ (fl : List Field), fsOk T (fl.map fun x => (x.offset, x.type)) →
    ((fl.mapM fun f => Prod.mk f.offset <$> sizeOf f.type) : Sem (List (Nat × Nat))).run P w = .ok (fl.map fun f => (f.offset, (T f.type).ks.length)) w
  | [], _ => by simp
  | f :: fl, h => by
    simp only [List.map_cons, fsOk] at h
    have ih := run_places hT fl h.2
    have hs := run_sizeOf hT h.1 w
    rw [List.mapM_cons]
    simp [hs, ih]

theorem buildV_ok {t : Nat} {parts : List (Nat × Value)} {K : Value → Prop} (hT : TOk P T) (h : buildV T t parts K) : ∃ v, K v ∧ ∀ w : World, (Instr.build t parts.toArray).run P w = .ok v w := by
  obtain ⟨h1, h⟩ := ck_iff.1 h
  obtain ⟨d, hd, hs⟩ := under hT h1
  obtain ⟨z, hz, hzc⟩ := run_zero hT h1
  cases hsh : (T t).sh with
  | struct fs =>
    rw [hsh] at hs h
    simp only [TI.shOk] at hs
    obtain ⟨fl, rfl, hfl⟩ := hs
    obtain ⟨hfs, h⟩ := ck_iff.1 h
    replace hfs := fsOkB_ok hfs
    obtain ⟨cs, hk, hl, hf⟩ := fillV_ok h
    refine ⟨_, hk, fun w => ?_⟩
    have hp := run_places (w := w) hT fl.toList (by rw [hfl]; exact hfs)
    have hfun : (fun (i : Nat) => Option.map (fun f => (f.offset, (T f.type).ks.length)) fl[i]?) = placeOf T fs := by
      funext i
      simp only [placeOf, nthL_eq, ← hfl, List.getElem?_map, Array.getElem?_toList]
      cases fl[i]? <;> simp [lenL_eq]
    have hzz : z.cells = (zerosL (T t)).toArray := by apply Array.ext'; simp [zerosL, hzc]
    simp [Instr.build, hz, run_underlying hd, Array.mapM_eq_mapM_toList, hp, hfun, hzz, hf]
  | array n e =>
    rw [hsh] at hs h
    simp only [TI.shOk] at hs
    subst hs
    obtain ⟨h2, h⟩ := ck_iff.1 h
    obtain ⟨cs, hk, hl, hf⟩ := fillV_ok h
    refine ⟨_, hk, fun w => ?_⟩
    have hzz : z.cells = (zerosL (T t)).toArray := by apply Array.ext'; simp [zerosL, hzc]
    simp only [lenL_eq] at hf
    simp [Instr.build, hz, run_underlying hd, run_sizeOf hT h2, hzz, hf]
  | _ => rw [hsh] at h; exact h.elim

/-! ### soundness of the evaluation of operands -/

structure Frm (β : Nat → Nat) (ρ : Fr) (bx : BX) (a : Act) : Prop where
  f : ∀ t s, Fr.get ρ t = some s → a.tmps.getD t undef = conc β s
  p : ∀ id b, ∀ cs, BX.get bx id = some (.pub b cs) → β id = b

theorem Frm.pl {β : Nat → Nat} {ρ : Fr} {bx : BX} {a : Act} (F : Frm β ρ bx a) {s : SV} {v : Value} (h : pl bx s = some v) : conc β s = v := by
  cases s with
  | v x => simp [SX.pl] at h; simp [conc, h]
  | own i x => simp [SX.pl] at h; simp [conc, h]
  | bit b => simp [SX.pl] at h; simp [conc, h]
  | loc id off =>
    simp only [SX.pl] at h
    cases hb : BX.get bx id with
    | none => rw [hb] at h; cases h
    | some q =>
      rw [hb] at h
      cases q with
      | pub b cs => simp at h; simp [conc, F.p id b cs hb, h]
      | _ => cases h
  | arr id n =>
    simp only [SX.pl] at h
    cases hb : BX.get bx id with
    | none => rw [hb] at h; cases h
    | some q =>
      rw [hb] at h
      cases q with
      | pub b cs => simp at h; simp [conc, F.p id b cs hb, h]
      | _ => cases h

theorem Frm.ev {β : Nat → Nat} {ρ : Fr} {bx : BX} {a : Act} (F : Frm β ρ bx a) {x : Operand} {K : SV → Prop} (h : ev ρ x K) : ∃ s, K s ∧ a.eval x = conc β s := ev_sat F.f h
theorem Frm.evP {β : Nat → Nat} {ρ : Fr} {bx : BX} {a : Act} (F : Frm β ρ bx a) {x : Operand} {K : Value → Prop} (h : evP ρ bx x K) : ∃ v, K v ∧ a.eval x = v := by
  obtain ⟨s, hs, he⟩ := F.ev h
  cases hp : SX.pl bx s with
  | none => rw [hp] at hs; exact hs.elim
  | some v => rw [hp] at hs; exact ⟨v, hs, he.trans (F.pl hp)⟩
theorem Frm.evPs {β : Nat → Nat} {ρ : Fr} {bx : BX} {a : Act} (F : Frm β ρ bx a) : ∀ {xs : List Operand} {K : List Value → Prop}, evPs ρ bx xs K → ∃ vs, K vs ∧ xs.map a.eval = vs
  | [], K, h => ⟨[], h, rfl⟩
  | x :: xs, K, h => by
    obtain ⟨v, hv, he⟩ := F.evP h
    obtain ⟨vs, hvs, hes⟩ := F.evPs hv
    exact ⟨v :: vs, hvs, by simp [he, hes]⟩
def evPart (ρ : Fr) (bx : BX) : List (Nat × Operand) → (List (Nat × Value) → Prop) → Prop
  | [], K => K []
  | (i, x) :: xs, K => evP ρ bx x fun v => evPart ρ bx xs fun vs => K ((i, v) :: vs)
theorem Frm.evPart {β : Nat → Nat} {ρ : Fr} {bx : BX} {a : Act} (F : Frm β ρ bx a) : ∀ {xs : List (Nat × Operand)} {K : List (Nat × Value) → Prop}, evPart ρ bx xs K → ∃ vs, K vs ∧ xs.map (fun x => (x.1, a.eval x.2)) = vs
  | [], K, h => ⟨[], h, rfl⟩
  | (i, x) :: xs, K, h => by
    obtain ⟨v, hv, he⟩ := F.evP h
    obtain ⟨vs, hvs, hes⟩ := F.evPart hv
    exact ⟨(i, v) :: vs, hvs, by simp [he, hes]⟩
def evPo (ρ : Fr) (bx : BX) (x : Option Operand) (K : Option Value → Prop) : Prop :=
  match x with | none => K none | some x => evP ρ bx x fun v => K (some v)
theorem Frm.evPo {β : Nat → Nat} {ρ : Fr} {bx : BX} {a : Act} (F : Frm β ρ bx a) {x : Option Operand} {K : Option Value → Prop} (h : evPo ρ bx x K) : ∃ v, K v ∧ x.map a.eval = v := by
  cases x with
  | none => exact ⟨none, h, rfl⟩
  | some x => obtain ⟨v, hv, he⟩ := F.evP h; exact ⟨some v, hv, by simp [he]⟩
theorem Frm.evB {β : Nat → Nat} {ρ : Fr} {bx : BX} {a : Act} (F : Frm β ρ bx a) {x : Operand} {K : Bool → Prop} (h : evB ρ x K) : ∃ b, K b ∧ a.eval x = .bool b := by
  obtain ⟨s, hs, he⟩ := F.ev h
  match s, hs, he with
  | .v (.bool b), hs, he => exact ⟨b, hs, he⟩
  | .bit b, hs, he => exact ⟨b, hs, he⟩

/-! ### the operations that leave the world alone -/

def ptrK (p : Option Addr) (K : Nat → Nat → Prop) : Prop := match p with | some ⟨b, off, none⟩ => K b off | _ => False
theorem ptrK_ok {p : Option Addr} {K : Nat → Nat → Prop} (h : ptrK p K) : ∃ b off, p = some ⟨b, off, none⟩ ∧ K b off := by
  unfold ptrK at h; split at h
  · exact ⟨_, _, rfl, h⟩
  · exact h.elim
/-- j times n. -/
def mulL (j n : Nat) : Nat := match n with | 1 => j | n => j * n
theorem mulL_eq (j n : Nat) : mulL j n = j * n := by unfold mulL; split <;> simp

def fieldOff (T : Nat → TI) (t f : Nat) (K : Nat → Prop) : Prop :=
  match (T t).sh with
  | .struct fs => match nthL fs f with
    | some (off, ft) => ck (T t).ok <| ck (T ft).ok <| match (T ft).ks with | [] => False | _ :: _ => K off
    | none => False
  | _ => False

def elemOff (T : Nat → TI) (e : Nat) (i : Value) (n : Nat) (K : Nat → Prop) : Prop :=
  ck (T e).ok <| match i with | .int _ j => (0 ≤ j ∧ j < n) ∧ K (mulL j.toNat (lenL (T e).ks)) | _ => False

def opV (T : Nat → TI) (ρ : Fr) (bx : BX) (op : Op) (ty : Nat) (K : SV → Prop) : Prop :=
  match op with
  | .move x => ev ρ x K
  | .assign x => ev ρ x K
  | .pick c x y => evB ρ c fun t => match t with | true => ev ρ x K | false => ev ρ y K
  | .binOp b t x y _ => evP ρ bx x fun u => evP ρ bx y fun v => binV T b t u v fun r => K (.v r)
  | .unOp b _ x => evP ρ bx x fun u => unV b u fun r => K (.v r)
  | .makeInterface t x => evP ρ bx x fun u => ifcV T t u fun r => K (.v r)
  | .makeFunc fn first cap => evPs ρ bx first.toList fun fs => evPs ρ bx cap.toList fun cs => K (.v (.func fn fs.toArray cs.toArray))
  | .slice t x lo hi none => match (T t).sh with
    | .slice e => ck (T t).ok <| ck (T e).ok <| evP ρ bx x fun u => evPo ρ bx lo fun l => evPo ρ bx hi fun g => sliceV T e u l g fun r => K (.v r)
    | _ => False
  | .field t x f => evP ρ bx x fun u => fieldV T t u f fun r => K (.v r)
  | .index t x i => evP ρ bx x fun u => evP ρ bx i fun j => indexV T t u j fun r => K (.v r)
  | .extract x i => evP ρ bx x fun u => extractV u i fun r => K (.v r)
  | .convert s d x => evP ρ bx x fun u => convV T s d u fun r => K (.v r)
  | .build t parts => evPart ρ bx parts.toList fun ps => buildV T t ps fun r => K (.v r)
  | .nilCheck x => ev ρ x fun s => match s with
    | .v (.pointer p) => ptrK p fun b off => K (.v (.pointer (some ⟨b, off, none⟩)))
    | .loc id off => K (.loc id off)
    | .v (.func (.func f) a c) => K (.v (.func (.func f) a c))
    | _ => False
  | .fieldAddr t x f => fieldOff T t f fun o => ev ρ x fun s => match s with
    | .v (.pointer p) => ptrK p fun b off => K (.v (.pointer (some ⟨b, off + o, none⟩)))
    | .loc id off => K (.loc id (off + o))
    | _ => False
  | .indexAddr t x i => ck (T t).ok <| evP ρ bx i fun j => match (T t).sh with
    | .slice e => ev ρ x fun s => match s with
      | .arr id n => elemOff T e j n fun o => K (.loc id o)
      | .v (.slice a n _) => elemOff T e j n fun o => ptrK a fun b off => K (.v (.pointer (some ⟨b, off + o, none⟩)))
      | .own _ (.slice a n _) => elemOff T e j n fun o => ptrK a fun b off => K (.v (.pointer (some ⟨b, off + o, none⟩)))
      | _ => False
    | .array n e => ev ρ x fun s => match s with
      | .v (.pointer p) => elemOff T e j n fun o => ptrK p fun b off => K (.v (.pointer (some ⟨b, off + o, none⟩)))
      | .loc id off => elemOff T e j n fun o => K (.loc id (off + o))
      | _ => False
    | _ => False
  | .call { callee := .builtin .len, args, argTypes } => match args.toList, argTypes.toList with
    | [x], [t] => ev ρ x fun s => match s with
      | .arr _ n => ck (T t).ok <| match (T t).sh with | .slice _ => K (.v (.int .i64 n)) | _ => False
      | s => match pl bx s with | some v => lenV T t v fun r => K (.v r) | none => False
    | _, _ => False
  | .call { callee := .builtin .max, args, argTypes := _ } => match args.toList with
    | [x, y] => evP ρ bx x fun u => evP ρ bx y fun v => maxV u v fun r => K (.v r)
    | _ => False
  | .call { callee := .builtin .min, args, argTypes := _ } => match args.toList with
    | [x, y] => evP ρ bx x fun u => evP ρ bx y fun v => minV u v fun r => K (.v r)
    | _ => False
  | _ => False
end
end Go.SX
/-
  SX, part G: 'opV' is sound.
-/
namespace Go.SX
section
variable {P : Program} {w : World} {T : Nat → TI} {β : Nat → Nat} {ρ : Fr} {bx : BX} {a : Act}

theorem fieldOff_ok {t f : Nat} {K : Nat → Prop} (hT : TOk P T) (h : fieldOff T t f K) : ∃ o, K o ∧ ∀ b off (w : World), (Instr.fieldAt t (.pointer (some ⟨b, off, none⟩)) f).run P w = .ok (.pointer (some ⟨b, off + o, none⟩)) w := by
  unfold fieldOff at h
  split at h
  · rename_i fs hsh
    split at h
    · rename_i off ft hf
      obtain ⟨h1, h⟩ := ck_iff.1 h
      obtain ⟨h2, h3⟩ := ck_iff.1 h
      obtain ⟨d, hd, hs⟩ := under hT h1
      rw [hsh] at hs
      simp only [TI.shOk] at hs
      obtain ⟨fl, rfl, hfl⟩ := hs
      split at h3
      · exact h3.elim
      · rename_i kk ks hks
        refine ⟨off, h3, fun b o w => ?_⟩
        rw [nthL_eq, ← hfl] at hf
        simp only [List.getElem?_map] at hf
        cases hg : fl.toList[f]? with
        | none => rw [hg] at hf; cases hf
        | some q =>
          rw [hg] at hf
          simp at hf
          obtain ⟨rfl, rfl⟩ := hf
          have hg' : fl[f]? = some q := by simpa using hg
          have hsz := run_sizeOf hT h2 w
          rw [hks] at hsz
          simp [Instr.fieldAt, run_underlying hd, hg', Instr.sureAddr, fieldPlace, hsz, add_eq]
    · exact h.elim
  · exact h.elim

theorem elemOff_ok {e n : Nat} {i : Value} {K : Nat → Prop} (hT : TOk P T) (h : elemOff T e i n K) : ∃ k j, i = .int k j ∧ 0 ≤ j ∧ j < n ∧ K (j.toNat * (T e).ks.length) ∧ ∀ w : World, (sizeOf e).run P w = .ok (T e).ks.length w := by
  obtain ⟨h1, h⟩ := ck_iff.1 h
  match i, h with
  | .int k j, h =>
    obtain ⟨⟨h2, h3⟩, h4⟩ := h
    rw [lenL_eq, mulL_eq] at h4
    exact ⟨k, j, rfl, h2, h3, h4, run_sizeOf hT h1⟩

theorem run_max2 {ats : Array Nat} {ty : Nat} {x y : Operand} (u v : Value) (hx : a.eval x = u) (hy : a.eval y = v) : (#[x, y].map a.eval) = #[u, v] := by simp [hx, hy]

theorem opV_ok {K : SV → Prop} (hT : TOk P T) (F : Frm β ρ bx a) {o : Oper} (h : opV T ρ bx o.op o.type K) :
    ∃ s, K s ∧ ∀ w : World, (execOp a.eval o).run P w = .ok (.value (conc β s)) w := by
  obtain ⟨dst, op, ty, pos, after, guard⟩ := o
  simp only at h
  unfold opV at h
  split at h
  · obtain ⟨s, hs, he⟩ := F.ev h; exact ⟨s, hs, fun w => by simp [execOp, he]⟩
  · obtain ⟨s, hs, he⟩ := F.ev h; exact ⟨s, hs, fun w => by simp [execOp, he]⟩
  · obtain ⟨b, hb, hc⟩ := F.evB h
    cases b with
    | true => obtain ⟨s, hs, he⟩ := F.ev hb; exact ⟨s, hs, fun w => by simp [execOp, hc, asBool, he]⟩
    | false => obtain ⟨s, hs, he⟩ := F.ev hb; exact ⟨s, hs, fun w => by simp [execOp, hc, asBool, he]⟩
  · rename_i b t x y z
    obtain ⟨u, hu, h1⟩ := F.evP h
    obtain ⟨v, hv, h2⟩ := F.evP hu
    obtain ⟨r, hr, h3⟩ := binV_ok hT x y hv
    refine ⟨_, hr, fun w => ?_⟩
    simp only [execOp, h1, h2, Sem.run_bind] at h3 ⊢
    simp only [h3, Result.andThen_ok, conc]
    rfl
  · obtain ⟨u, hu, h1⟩ := F.evP h
    obtain ⟨r, hr, h3⟩ := unV_ok (P := P) hu
    exact ⟨_, hr, fun w => by simp [execOp, h1, h3, conc]⟩
  · obtain ⟨u, hu, h1⟩ := F.evP h
    obtain ⟨r, hr, h3⟩ := ifcV_ok hT hu
    exact ⟨_, hr, fun w => by simp [execOp, h1, h3, conc]⟩
  · rename_i fn first cap
    obtain ⟨u, hu, h1⟩ := F.evPs h
    obtain ⟨v, hv, h2⟩ := F.evPs hu
    refine ⟨_, hv, fun w => ?_⟩
    have e1 : first.map a.eval = u.toArray := by apply Array.ext'; simp [h1]
    have e2 : cap.map a.eval = v.toArray := by apply Array.ext'; simp [h2]
    simp [execOp, e1, e2, Instr.makeFunc, conc]
  · rename_i t x lo hi
    split at h
    · rename_i e hsh
      obtain ⟨h1, h⟩ := ck_iff.1 h
      obtain ⟨h2, h⟩ := ck_iff.1 h
      obtain ⟨u, hu, e1⟩ := F.evP h
      obtain ⟨l, hl, e2⟩ := F.evPo hu
      obtain ⟨g, hg, e3⟩ := F.evPo hl
      obtain ⟨r, hr, e4⟩ := sliceV_ok hT h1 hsh h2 hg
      exact ⟨_, hr, fun w => by simp [execOp, e1, e2, e3, e4, conc]⟩
    · exact h.elim
  · obtain ⟨u, hu, h1⟩ := F.evP h
    obtain ⟨r, hr, h3⟩ := fieldV_ok hT hu
    exact ⟨_, hr, fun w => by simp [execOp, h1, h3, conc]⟩
  · obtain ⟨u, hu, h1⟩ := F.evP h
    obtain ⟨v, hv, h2⟩ := F.evP hu
    obtain ⟨r, hr, h3⟩ := indexV_ok hT hv
    exact ⟨_, hr, fun w => by simp [execOp, h1, h2, h3, conc]⟩
  · obtain ⟨u, hu, h1⟩ := F.evP h
    obtain ⟨r, hr, h3⟩ := extractV_ok (P := P) hu
    exact ⟨_, hr, fun w => by simp [execOp, h1, h3, conc]⟩
  · obtain ⟨u, hu, h1⟩ := F.evP h
    obtain ⟨r, hr, h3⟩ := convV_ok hT hu
    exact ⟨_, hr, fun w => by simp [execOp, h1, h3, conc]⟩
  · rename_i t parts
    obtain ⟨u, hu, h1⟩ := F.evPart h
    obtain ⟨r, hr, h3⟩ := buildV_ok hT hu
    refine ⟨_, hr, fun w => ?_⟩
    have e1 : parts.map (fun x => (x.1, a.eval x.2)) = u.toArray := by apply Array.ext'; simp [h1]
    simp only [execOp, Sem.run_bind]
    have : (parts.map fun (x : Nat × Operand) => match x with | (i, x) => (i, a.eval x)) = u.toArray := e1
    simp [this, h3, conc]
  · obtain ⟨s, hs, he⟩ := F.ev h
    split at hs
    · rename_i p
      obtain ⟨b, off, rfl, hk⟩ := ptrK_ok hs
      exact ⟨_, hk, fun w => by simp [execOp, he, conc]⟩
    · exact ⟨_, hs, fun w => by simp [execOp, he, conc]⟩
    · exact ⟨_, hs, fun w => by simp [execOp, he, conc]⟩
    · exact hs.elim
  · obtain ⟨o, ho, hr⟩ := fieldOff_ok hT h
    obtain ⟨s, hs, he⟩ := F.ev ho
    split at hs
    · rename_i p
      obtain ⟨b, off, rfl, hk⟩ := ptrK_ok hs
      exact ⟨_, hk, fun w => by simp [execOp, he, conc, hr]⟩
    · exact ⟨_, hs, fun w => by simp [execOp, he, conc, hr]⟩
    · exact hs.elim
  · rename_i t x i
    obtain ⟨h1, h⟩ := ck_iff.1 h
    obtain ⟨j, hj, ej⟩ := F.evP h
    obtain ⟨d, hd, hs⟩ := under hT h1
    split at hj
    · rename_i e hsh
      rw [hsh] at hs
      simp only [TI.shOk] at hs
      subst hs
      obtain ⟨s, hs, he⟩ := F.ev hj
      split at hs
      · obtain ⟨k, q, rfl, g1, g2, g3, g4⟩ := elemOff_ok hT hs
        refine ⟨_, g3, fun w => ?_⟩
        simp [execOp, he, ej, conc, Instr.indexAt, asIntOf, run_underlying hd, g1, g2, g4, add_eq]
      · obtain ⟨k, q, rfl, g1, g2, g3, g4⟩ := elemOff_ok hT hs
        obtain ⟨b, off, rfl, g3⟩ := ptrK_ok g3
        refine ⟨_, g3, fun w => ?_⟩
        simp [execOp, he, ej, conc, Instr.indexAt, asIntOf, run_underlying hd, g1, g2, g4, add_eq]
      · obtain ⟨k, q, rfl, g1, g2, g3, g4⟩ := elemOff_ok hT hs
        obtain ⟨b, off, rfl, g3⟩ := ptrK_ok g3
        refine ⟨_, g3, fun w => ?_⟩
        simp [execOp, he, ej, conc, Instr.indexAt, asIntOf, run_underlying hd, g1, g2, g4, add_eq]
      · exact hs.elim
    · rename_i n e hsh
      rw [hsh] at hs
      simp only [TI.shOk] at hs
      subst hs
      obtain ⟨s, hs, he⟩ := F.ev hj
      split at hs
      · obtain ⟨k, q, rfl, g1, g2, g3, g4⟩ := elemOff_ok hT hs
        obtain ⟨b, off, rfl, g3⟩ := ptrK_ok g3
        refine ⟨_, g3, fun w => ?_⟩
        simp [execOp, he, ej, conc, Instr.indexAt, Instr.sureAddr, asIntOf, run_underlying hd, g1, g2, g4, add_eq]
      · obtain ⟨k, q, rfl, g1, g2, g3, g4⟩ := elemOff_ok hT hs
        refine ⟨_, g3, fun w => ?_⟩
        simp [execOp, he, ej, conc, Instr.indexAt, Instr.sureAddr, asIntOf, run_underlying hd, g1, g2, g4, add_eq]
      · exact hs.elim
    · exact hj.elim
  · rename_i args argTypes
    split at h
    · rename_i x t hx ht
      have e1 : args = #[x] := by apply Array.ext'; simp [hx]
      have e2 : argTypes = #[t] := by apply Array.ext'; simp [ht]
      subst e1; subst e2
      obtain ⟨s, hs, he⟩ := F.ev h
      split at hs
      · obtain ⟨h1, hs⟩ := ck_iff.1 hs
        obtain ⟨d, hd, hsh⟩ := under hT h1
        split at hs
        · rename_i e hse
          rw [hse] at hsh
          simp only [TI.shOk] at hsh
          subst hsh
          refine ⟨_, hs, fun w => ?_⟩
          simp [execOp, resolve, invoke, builtin, Builtin.len_, he, conc, run_underlying hd, goInt]
        · exact hs.elim
      · split at hs
        · rename_i v hv
          obtain ⟨r, hr, h3⟩ := lenV_ok (ty := ty) hT hs
          refine ⟨_, hr, fun w => ?_⟩
          have hev : a.eval x = v := he.trans (F.pl hv)
          simp [execOp, resolve, invoke, builtin, hev, h3, conc]
        · exact hs.elim
    · exact h.elim
  · rename_i args _
    split at h
    · rename_i x y hx
      have e1 : args = #[x, y] := by apply Array.ext'; simp [hx]
      subst e1
      obtain ⟨u, hu, h1⟩ := F.evP h
      obtain ⟨v, hv, h2⟩ := F.evP hu
      obtain ⟨r, hr, h3⟩ := maxV_ok (P := P) hv
      refine ⟨_, hr, fun w => ?_⟩
      simp [execOp, resolve, invoke, builtin, h1, h2, h3, conc]
    · exact h.elim
  · rename_i args _
    split at h
    · rename_i x y hx
      have e1 : args = #[x, y] := by apply Array.ext'; simp [hx]
      subst e1
      obtain ⟨u, hu, h1⟩ := F.evP h
      obtain ⟨v, hv, h2⟩ := F.evP hu
      obtain ⟨r, hr, h3⟩ := minV_ok (P := P) hv
      refine ⟨_, hr, fun w => ?_⟩
      simp [execOp, resolve, invoke, builtin, h1, h2, h3, conc]
    · exact h.elim
  · exact h.elim
end
end Go.SX
/-
  SX, part H: memory: loads, stores, new blocks.
-/
namespace Go.SX

theorem setL_split : ∀ (l : List Value) (o : Nat) (vs : List Value), o + vs.length ≤ l.length → setL l o vs = l.take o ++ vs ++ l.drop (o + vs.length)
  | l, o, [], _ => by simp [setL]
  | l, o, v :: vs, h => by
    simp only [List.length_cons] at h
    simp only [setL, setN_eq]
    rw [setL_split _ _ _ (by simp; omega)]
    have ho : o < l.length := by omega
    rw [List.take_set, List.drop_set]
    rw [if_pos (by omega)]
    have e1 : (l.take (o + 1)).set o v = l.take o ++ [v] := by
      rw [List.take_succ_eq_append_getElem ho, List.set_append]
      simp [Nat.min_eq_left (Nat.le_of_lt ho)]
    rw [e1]
    simp [List.append_assoc, Nat.add_assoc, Nat.add_comm 1]

/-! ### the world changes: the state goes on -/
section
variable {nt : Nat} {w0 w w' : World} {h0 h : RO} {m0 m : Hp} {ρ : Fr} {bx : BX} {a : Act}

/-- The parts of 'Sat' that speak of memory. -/
structure Mem (β : Nat → Nat) (w0 : World) (h0 : RO) (m0 : Hp) (bx : BX) (h : RO) (m : Hp) (w : World) : Prop where
  step : Step w0 h0 m0 w h m
  ok : ∀ id s, BX.get bx id = some s → s.ok β w0.heap.size h m w id
  ne : ∀ i j s t b, i ≠ j → BX.get bx i = some s → BX.get bx j = some t → s.blk β i = some b → t.blk β j ≠ some b

theorem Sat.parts (s : Sat nt w0 h0 m0 ρ bx h m a w) : ∃ β, Mem β w0 h0 m0 bx h m w ∧ Frm β ρ bx a := by
  obtain ⟨β, h1, h2, h3⟩ := s.ex
  exact ⟨β, ⟨s.step, h2, h3⟩, ⟨h1, fun id b cs hb => (h2 id _ hb).1⟩⟩

theorem Sat.of_parts (hs : a.tmps.size = nt) (hd : a.defers = []) {β : Nat → Nat} (M : Mem β w0 h0 m0 bx h m w) (hf : ∀ t s, Fr.get ρ t = some s → a.tmps.getD t undef = conc β s) :
    Sat nt w0 h0 m0 ρ bx h m a w := ⟨M.step, hs, hd, β, hf, M.ok, M.ne⟩

theorem Mem.blk_lt {β : Nat → Nat} (M : Mem β w0 h0 m0 bx h m w) {id : Nat} {s : BS} {b : Nat} (hg : BX.get bx id = some s) (hb : s.blk β id = some b) : w0.heap.size ≤ b ∧ b < w.heap.size ∧ m b = none ∧ h.o b = none := by
  have := M.ok id s hg
  cases s with
  | box cs ty =>
    simp [BS.blk] at hb; subst hb
    exact ⟨this.1.lo, (Array.getElem?_eq_some_iff.1 this.2).1, this.1.m, this.1.o⟩
  | row x e sz n es =>
    simp only [BS.blk] at hb
    obtain ⟨h1, h2⟩ := this
    have hl := h1.lt b hb
    exact ⟨hl.1, hl.2, (h2 b hb).1, (h2 b hb).2.1⟩
  | pub b cs => simp [BS.blk] at hb
  | dead => simp [BS.blk] at hb

/-- What a private thing says holds in every world in which its block is as it was, if the readable cells of its block are the same. -/
theorem BS.ok.kept {β : Nat → Nat} {id : Nat} {s : BS} {h' : RO} {m' : Hp} (hk : s.ok β w0.heap.size h m w id) (hl : h.le h')
    (hw : ∀ b, s.blk β id = some b → w'.heap[b]? = w.heap[b]?) (hm : ∀ b, s.blk β id = some b → m' b = none) (hh : ∀ b i, s.blk β id = some b → h'.c b i = h.c b i)
    (ho : ∀ b, s.blk β id = some b → h'.o b = none) : s.ok β w0.heap.size h' m' w' id := by
  cases s with
  | box cs ty =>
    obtain ⟨p, q⟩ := hk
    exact ⟨⟨p.lo, hm _ rfl, fun i => (hh _ i rfl).trans (p.c i), ho _ rfl⟩, (hw _ rfl).trans q⟩
  | row x e sz n es =>
    obtain ⟨p, q⟩ := hk
    refine ⟨⟨p.1, ?_⟩, fun b hb => ⟨hm b hb, ho b hb, fun i hi => (hh b i hb).trans ((q b hb).2.2.1 i hi), fun i hi => (hh b i hb).trans ((q b hb).2.2.2 i hi)⟩⟩
    rcases p.2 with hn | ⟨g, cap, cur, rfl, r1, r2, r3⟩
    · exact .inl hn
    · exact .inr ⟨g, cap, cur, rfl, r1, (hw g rfl).trans r2, r3⟩
  | pub b cs => exact ⟨hk.1, fun i u e => hl.c _ _ _ (hk.2 i u e)⟩
  | dead => trivial

/-- No entry of the frame speaks of the private number id. -/
def Fr.free (id : Nat) : Fr → Prop
  | [] => True
  | (_, s) :: r => (match s with | .v _ => True | .bit _ => True | .own i _ => Nat.beq i id = false | .loc i _ => Nat.beq i id = false | .arr i _ => Nat.beq i id = false) ∧ Fr.free id r
def Fr.freeB (id : Nat) : Fr → Bool
  | [] => true
  | (_, s) :: r => match s with
    | .v _ => Fr.freeB id r
    | .bit _ => Fr.freeB id r
    | .own i _ => match Nat.beq i id with | true => false | false => Fr.freeB id r
    | .loc i _ => match Nat.beq i id with | true => false | false => Fr.freeB id r
    | .arr i _ => match Nat.beq i id with | true => false | false => Fr.freeB id r
theorem Fr.freeB_ok {id : Nat} : ∀ {ρ : Fr}, Fr.freeB id ρ = true → Fr.free id ρ
  | [], _ => trivial
  | (_, s) :: r, h => by
    cases s with
    | v x => exact ⟨trivial, Fr.freeB_ok h⟩
    | bit x => exact ⟨trivial, Fr.freeB_ok h⟩
    | _ =>
      simp only [Fr.freeB] at h
      split at h
      · cases h
      · rename_i e; exact ⟨e, Fr.freeB_ok h⟩
theorem Fr.free_get : ∀ {ρ : Fr} {id t : Nat} {s : SV}, Fr.free id ρ → Fr.get ρ t = some s → ∀ β β' : Nat → Nat, (∀ i, i ≠ id → β' i = β i) → conc β' s = conc β s
  | [], _, _, _, _, h => by simp [Fr.get] at h
  | (t', s') :: r, id, t, s, hf, h => by
    intro β β' hb
    rw [Fr.get_cons] at h
    split at h
    · cases h
      have := hf.1
      cases s' with
      | v x => rfl
      | bit x => rfl
      | own i x => rfl
      | loc i o =>
        simp only at this
        have hne : i ≠ id := fun e => by subst e; rw [beq_true] at this; cases this
        simp [conc, hb i hne]
      | arr i n =>
        simp only at this
        have hne : i ≠ id := fun e => by subst e; rw [beq_true] at this; cases this
        simp [conc, hb i hne]
    · exact Fr.free_get hf.2 h β β' hb

/-- A new private block. -/
theorem Mem.alloc {β : Nat → Nat} (M : Mem β w0 h0 m0 bx h m w) (id : Nat) (cs : List Value) (ty : Nat) :
    Mem (fun i => if i = id then w.heap.size else β i) w0 h0 m0 ((id, .box cs ty) :: bx) h m (w.alloc (.cells cs.toArray ty)) := by
  have hlt : ∀ b o, m b = some o → b < w.heap.size := fun b o e => (Array.getElem?_eq_some_iff.1 (M.step.mon b o e)).1
  have hold : ∀ k, k < w.heap.size → (w.alloc (.cells cs.toArray ty)).heap[k]? = w.heap[k]? := fun k hk => heap_alloc_old w _ hk
  have hcell : ∀ b i v, w.cell? ⟨b, i, none⟩ = some v → b < w.heap.size := by
    intro b i v e
    simp only [World.cell?] at e
    split at e
    · rename_i hb; exact (Array.getElem?_eq_some_iff.1 hb).1
    · cases e
  have hcn : ∀ i, h.c w.heap.size i = none := fun i => by
    cases e : h.c w.heap.size i with
    | none => rfl
    | some v => have := hcell _ _ _ (M.step.hon.c _ _ _ e); omega
  have hon : h.o w.heap.size = none := by
    cases e : h.o w.heap.size with
    | none => rfl
    | some v => have := (Array.getElem?_eq_some_iff.1 (M.step.hon.o _ _ e).1).1; omega
  have hmn : m w.heap.size = none := by
    cases e : m w.heap.size with
    | none => rfl
    | some v => have := hlt _ _ e; omega
  refine ⟨⟨M.step.os, M.step.tape, M.step.output, by simp; exact Nat.le_trans M.step.size (Nat.le_succ _), fun k hk hm => ?_, M.step.le, ⟨fun b i v e => ?_, fun b x e => ?_⟩, fun b x e => ?_, M.step.disj, M.step.hnew, M.step.onew, M.step.mnew⟩, ?_, ?_⟩
  · rw [hold k (Nat.lt_of_lt_of_le hk M.step.size)]; exact M.step.same k hk hm
  · have := M.step.hon.c b i v e
    rw [World.cell?_alloc_lt w _ _ (hcell _ _ _ this)]; exact this
  · have := M.step.hon.o b x e
    rw [hold b (Array.getElem?_eq_some_iff.1 this.1).1]; exact this
  · rw [hold b (hlt b x e)]; exact M.step.mon b x e
  · intro i s e
    rw [BX.get_cons] at e
    split at e
    · rename_i ei; subst ei
      cases e
      simp only [BS.ok, if_true]
      exact ⟨⟨M.step.size, hmn, hcn, hon⟩, heap_alloc_new w _⟩
    · rename_i ei
      have hne : i ≠ id := fun e => ei e.symm
      have hk := M.ok i s e
      have hb : s.blk (fun j => if j = id then w.heap.size else β j) i = s.blk β i := by cases s <;> simp [BS.blk, hne]
      have hk' : s.ok (fun j => if j = id then w.heap.size else β j) w0.heap.size h m w i := by cases s <;> simp only [BS.ok, if_neg hne] at hk ⊢ <;> exact hk
      exact hk'.kept (RO.le.refl h) (fun b eb => hold b (M.blk_lt e (hb ▸ eb)).2.1) (fun b eb => (M.blk_lt e (hb ▸ eb)).2.2.1) (fun _ _ _ => rfl) (fun b eb => (M.blk_lt e (hb ▸ eb)).2.2.2)
  · intro i j s t b hne hi hj hs
    rw [BX.get_cons] at hi hj
    have hbl : ∀ q (u : BS), q ≠ id → u.blk (fun j => if j = id then w.heap.size else β j) q = u.blk β q := fun q u hq => by cases u <;> simp [BS.blk, hq]
    by_cases ei : id = i
    · subst ei
      rw [if_pos rfl] at hi; cases hi
      rw [if_neg hne] at hj
      simp [BS.blk] at hs; subst hs
      rw [hbl j t (fun e => hne e.symm)]
      intro e
      have := (M.blk_lt hj e).2.1
      omega
    · rw [if_neg ei] at hi
      rw [hbl i s (fun e => ei e.symm)] at hs
      by_cases ej : id = j
      · subst ej
        rw [if_pos rfl] at hj; cases hj
        simp [BS.blk]
        have := (M.blk_lt hi hs).2.1
        omega
      · rw [if_neg ej] at hj
        rw [hbl j t (fun e => ej e.symm)]
        exact M.ne i j s t b hne hi hj hs

/-- A private block becomes readable, and stays as it is. -/
theorem Mem.publish {β : Nat → Nat} (M : Mem β w0 h0 m0 bx h m w) {id : Nat} {cs : List Value} {ty : Nat} (hg : BX.get bx id = some (.box cs ty)) :
    ∃ h', h.le h' ∧ (∀ i v, cs[i]? = some v → h'.c (β id) i = some v) ∧ Mem β w0 h0 m0 ((id, .pub (β id) cs) :: bx) h' m w := by
  have hk := M.ok id _ hg
  obtain ⟨p, q⟩ := hk
  refine ⟨⟨fun b i => if b = β id then cs[i]? else h.c b i, h.o⟩, ⟨fun b i v e => ?_, fun _ _ e => e⟩, fun i v e => by simp [e], ?_⟩
  · simp only
    split
    · rename_i eb; subst eb; rw [p.c i] at e; cases e
    · exact e
  have hcw : ∀ i v, cs[i]? = some v → w.cell? ⟨β id, i, none⟩ = some v := fun i v e => by
    simp only [World.cell?, q]; simpa using e
  refine ⟨⟨M.step.os, M.step.tape, M.step.output, M.step.size, M.step.same, ?_, ⟨fun b i v e => ?_, M.step.hon.o⟩, M.step.mon, ⟨fun b i v e => ?_, M.step.disj.o⟩, fun b i v e => ?_, M.step.onew, M.step.mnew⟩, ?_, ?_⟩
  · refine M.step.le.trans ⟨fun b i v e => ?_, fun _ _ e => e⟩
    simp only
    split
    · rename_i eb; subst eb; rw [p.c i] at e; cases e
    · exact e
  · simp only at e
    split at e
    · rename_i eb; subst eb; exact hcw i v e
    · exact M.step.hon.c b i v e
  · simp only at e
    split at e
    · rename_i eb; subst eb; exact p.m
    · exact M.step.disj.c b i v e
  · simp only at e
    split at e
    · rename_i eb; subst eb; exact .inr (.inl p.lo)
    · exact M.step.hnew b i v e
  · intro i s e
    rw [BX.get_cons] at e
    split at e
    · cases e; rename_i ei; subst ei; exact ⟨rfl, fun i u e => by simp [e]⟩
    · rename_i ei
      have hb : ∀ b, s.blk β i = some b → b ≠ β id := fun b eb => by
        have := M.ne i id s _ b (fun e => ei e.symm) e hg eb
        simpa [BS.blk] using fun e => this (by simp [BS.blk, e])
      exact (M.ok i s e).kept ⟨fun b i v e => by simp only; split; (rename_i eb; subst eb; rw [p.c i] at e; cases e); exact e, fun _ _ e => e⟩ (fun _ _ => rfl) (fun b eb => (M.blk_lt e eb).2.2.1) (fun b k eb => by simp [hb b eb]) (fun b eb => (M.blk_lt e eb).2.2.2)
  · intro i j s t b hne hi hj hs
    rw [BX.get_cons] at hi hj
    split at hi
    · cases hi; simp [BS.blk] at hs
    · split at hj
      · cases hj; simp [BS.blk]
      · exact M.ne i j s t b hne hi hj hs
end
end Go.SX
/-
  SX, part I: memory: stores into a private block, into a block that may be changed; append; a call.
-/
namespace Go.SX
section
variable {nt : Nat} {w0 w w' : World} {h0 h : RO} {m0 m : Hp} {ρ : Fr} {bx : BX} {a : Act} {β : Nat → Nat}

theorem Mem.free_lt (M : Mem β w0 h0 m0 bx h m w) {b : Nat} (hb : w.heap.size ≤ b) : m b = none ∧ (∀ i, h.c b i = none) ∧ h.o b = none := by
  refine ⟨?_, fun i => ?_, ?_⟩
  · cases e : m b with
    | none => rfl
    | some v => have := (Array.getElem?_eq_some_iff.1 (M.step.mon b _ e)).1; omega
  · cases e : h.c b i with
    | none => rfl
    | some v =>
      have e := M.step.hon.c b i v e
      simp only [World.cell?] at e
      split at e
      · rename_i hb'; have := (Array.getElem?_eq_some_iff.1 hb').1; omega
      · cases e
  · cases e : h.o b with
    | none => rfl
    | some v => have := (Array.getElem?_eq_some_iff.1 (M.step.hon.o b _ e).1).1; omega

/-- A store into a private block. -/
theorem Mem.storeBox (M : Mem β w0 h0 m0 bx h m w) {id : Nat} {cs : List Value} {ty : Nat} (hg : BX.get bx id = some (.box cs ty)) (cs' : List Value) :
    Mem β w0 h0 m0 ((id, .box cs' ty) :: bx) h m (w.setRow (β id) cs'.toArray) := by
  obtain ⟨p, q⟩ := M.ok id _ hg
  have hoth : ∀ k, k ≠ β id → (w.setRow (β id) cs'.toArray).heap[k]? = w.heap[k]? := fun k hk => setRow_other w _ k _ hk
  refine ⟨⟨M.step.os, M.step.tape, M.step.output, by simpa using M.step.size, fun k hk hm => ?_, M.step.le, ⟨fun b i v e => ?_, fun b x e => ?_⟩, fun b x e => ?_, M.step.disj, M.step.hnew, M.step.onew, M.step.mnew⟩, ?_, ?_⟩
  · rw [hoth k (by have := p.lo; omega)]; exact M.step.same k hk hm
  · have hne : b ≠ β id := fun e' => by subst e'; rw [p.c i] at e; cases e
    have := M.step.hon.c b i v e
    simp only [World.cell?, hoth b hne] at this ⊢; exact this
  · have hne : b ≠ β id := fun e' => by subst e'; rw [p.o] at e; cases e
    rw [hoth b hne]; exact M.step.hon.o b x e
  · have hne : b ≠ β id := fun e' => by subst e'; rw [p.m] at e; cases e
    rw [hoth b hne]; exact M.step.mon b x e
  · intro i s e
    rw [BX.get_cons] at e
    split at e
    · rename_i ei; subst ei; cases e
      exact ⟨p, setRow_heap w _ _ _ _ _ q⟩
    · rename_i ei
      have hb : ∀ b, s.blk β i = some b → b ≠ β id := fun b eb e' => by
        have := M.ne i id s _ b (fun e => ei e.symm) e hg eb
        exact this (by simp [BS.blk, e'])
      exact (M.ok i s e).kept (RO.le.refl h) (fun b eb => hoth b (hb b eb)) (fun b eb => (M.blk_lt e eb).2.2.1) (fun _ _ _ => rfl) (fun b eb => (M.blk_lt e eb).2.2.2)
  · intro i j s t b hne hi hj hs
    rw [BX.get_cons] at hi hj
    by_cases ei : id = i
    · subst ei; rw [if_pos rfl] at hi; cases hi
      rw [if_neg hne] at hj
      exact M.ne id j _ t b hne hg hj (by simpa [BS.blk] using hs)
    · rw [if_neg ei] at hi
      by_cases ej : id = j
      · subst ej; rw [if_pos rfl] at hj; cases hj
        have := M.ne i id s _ b hne hi hg hs
        simpa [BS.blk] using this
      · rw [if_neg ej] at hj; exact M.ne i j s t b hne hi hj hs

/-- A store into a block that may be changed. -/
theorem Mem.storeM (M : Mem β w0 h0 m0 bx h m w) {b : Nat} {cs : Array Value} {ty : Nat} (hg : m b = some (.cells cs ty (0, 0))) (cs' : Array Value) :
    Mem β w0 h0 m0 bx h (m.set b (.cells cs' ty (0, 0))) (w.setRow b cs') := by
  have q := M.step.mon b _ hg
  have hoth : ∀ k, k ≠ b → (w.setRow b cs').heap[k]? = w.heap[k]? := fun k hk => setRow_other w _ k _ hk
  have hset : ∀ k, m.set b (.cells cs' ty (0, 0)) k = none → m k = none ∧ k ≠ b := fun k hk => by
    unfold Hp.set at hk; split at hk
    · cases hk
    · rename_i e; exact ⟨hk, e⟩
  have hset' : ∀ k, m k = none → m.set b (.cells cs' ty (0, 0)) k = none := fun k hk => by
    unfold Hp.set; split
    · rename_i e; subst e; rw [hg] at hk; cases hk
    · exact hk
  refine ⟨⟨M.step.os, M.step.tape, M.step.output, by simpa using M.step.size, fun k hk hm => ?_, M.step.le, ⟨fun b' i v e => ?_, fun b' x e => ?_⟩, fun b' x e => ?_, ⟨fun b' i v e => hset' b' (M.step.disj.c b' i v e), fun b' x e => hset' b' (M.step.disj.o b' x e)⟩, M.step.hnew, M.step.onew, fun b' x e => ?_⟩, ?_, M.ne⟩
  · rcases M.step.mnew b _ hg with h1 | h1
    · rw [hoth k (fun e => by subst e; exact h1 hm)]; exact M.step.same k hk hm
    · rw [hoth k (by omega)]; exact M.step.same k hk hm
  · have hne : b' ≠ b := fun e' => by subst e'; have := M.step.disj.c _ _ _ e; rw [hg] at this; cases this
    have := M.step.hon.c b' i v e
    simp only [World.cell?, hoth b' hne] at this ⊢; exact this
  · have hne : b' ≠ b := fun e' => by subst e'; have := M.step.disj.o _ _ e; rw [hg] at this; cases this
    rw [hoth b' hne]; exact M.step.hon.o b' x e
  · unfold Hp.set at e
    split at e
    · rename_i e'; subst e'; cases e; exact setRow_heap w _ _ _ _ _ q
    · rename_i e'; rw [hoth b' e']; exact M.step.mon b' x e
  · unfold Hp.set at e
    split at e
    · rename_i e'; subst e'; exact M.step.mnew _ _ hg
    · exact M.step.mnew b' x e
  · intro i s e
    have hb : ∀ b', s.blk β i = some b' → b' ≠ b := fun b' eb e' => by
      have := (M.blk_lt e eb).2.2.1; subst e'; rw [hg] at this; cases this
    exact (M.ok i s e).kept (RO.le.refl h) (fun b' eb => hoth b' (hb b' eb)) (fun b' eb => hset' b' (M.blk_lt e eb).2.2.1) (fun _ _ _ => rfl) (fun b' eb => (M.blk_lt e eb).2.2.2)

/-- A new block that may be changed. -/
theorem Mem.newM (M : Mem β w0 h0 m0 bx h m w) (x : Obj) : m w.heap.size = none ∧ (∀ i, h.c w.heap.size i = none) ∧ h.o w.heap.size = none ∧ Mem β w0 h0 m0 bx h (m.set w.heap.size x) (w.alloc x) := by
  obtain ⟨f1, f2, f3⟩ := M.free_lt (Nat.le_refl _)
  have hold : ∀ k, k < w.heap.size → (w.alloc x).heap[k]? = w.heap[k]? := fun k hk => heap_alloc_old w _ hk
  have hset' : ∀ k, k ≠ w.heap.size → m.set w.heap.size x k = m k := fun k hk => by unfold Hp.set; rw [if_neg hk]
  have hcl : ∀ b i v, h.c b i = some v → b ≠ w.heap.size := fun b i v e e' => by subst e'; rw [f2] at e; cases e
  have hol : ∀ b v, h.o b = some v → b ≠ w.heap.size := fun b v e e' => by subst e'; rw [f3] at e; cases e
  refine ⟨f1, f2, f3, ⟨M.step.os, M.step.tape, M.step.output, by simp; exact Nat.le_trans M.step.size (Nat.le_succ _), fun k hk hm => ?_, M.step.le, ⟨fun b i v e => ?_, fun b y e => ?_⟩, fun b y e => ?_, ⟨fun b i v e => ?_, fun b y e => ?_⟩, M.step.hnew, M.step.onew, fun b y e => ?_⟩, ?_, M.ne⟩
  · rw [hold k (Nat.lt_of_lt_of_le hk M.step.size)]; exact M.step.same k hk hm
  · have := M.step.hon.c b i v e
    have hlt : b < w.heap.size := World.block_lt_of_cell? w ⟨b, i, none⟩ this
    rw [World.cell?_alloc_lt w _ _ hlt]; exact this
  · have := M.step.hon.o b y e
    rw [hold b (Array.getElem?_eq_some_iff.1 this.1).1]; exact this
  · by_cases eb : b = w.heap.size
    · subst eb; simp [Hp.set] at e; subst e; exact heap_alloc_new w _
    · rw [hset' b eb] at e
      have := M.step.mon b y e
      rw [hold b (Array.getElem?_eq_some_iff.1 this).1]; exact this
  · rw [hset' b (hcl b i v e)]; exact M.step.disj.c b i v e
  · rw [hset' b (hol b y e)]; exact M.step.disj.o b y e
  · by_cases eb : b = w.heap.size
    · subst eb; exact .inr M.step.size
    · rw [hset' b eb] at e; exact M.step.mnew b y e
  · intro i s e
    exact (M.ok i s e).kept (RO.le.refl h) (fun b eb => hold b (M.blk_lt e eb).2.1) (fun b eb => by rw [hset' b (by have := (M.blk_lt e eb).2.1; omega)]; exact (M.blk_lt e eb).2.2.1) (fun _ _ _ => rfl) (fun b eb => (M.blk_lt e eb).2.2.2)

/-- Behind a call: what the contract says. -/
theorem Mem.call (M : Mem β w0 h0 m0 bx h m w) {h' : RO} {m' : Hp} (S : Step w h m w' h' m') : Mem β w0 h0 m0 bx h' m' w' := by
  have hm0 : ∀ k, k < w0.heap.size → m0 k = none → m k = none := fun k hk e => by
    cases e' : m k with
    | none => rfl
    | some x => rcases M.step.mnew k x e' with h1 | h1
                · exact absurd e h1
                · omega
  refine ⟨⟨S.os.trans M.step.os, S.tape.trans M.step.tape, S.output.trans M.step.output, Nat.le_trans M.step.size S.size, fun k hk hm => ?_, M.step.le.trans S.le, S.hon, S.mon, S.disj, fun b i v e => ?_, fun b x e => ?_, fun b x e => ?_⟩, ?_, M.ne⟩
  · rw [S.same k (Nat.lt_of_lt_of_le hk M.step.size) (hm0 k hk hm)]; exact M.step.same k hk hm
  · rcases S.hnew b i v e with h1 | h1 | h1
    · exact M.step.hnew b i v h1
    · exact .inr (.inl (Nat.le_trans M.step.size h1))
    · cases e' : m b with
      | none => exact absurd e' h1
      | some x => rcases M.step.mnew b x e' with h2 | h2
                  · exact .inr (.inr h2)
                  · exact .inr (.inl h2)
  · rcases S.onew b x e with h1 | h1 | h1
    · exact M.step.onew b x h1
    · exact .inr (.inl (Nat.le_trans M.step.size h1))
    · cases e' : m b with
      | none => exact absurd e' h1
      | some x => rcases M.step.mnew b x e' with h2 | h2
                  · exact .inr (.inr h2)
                  · exact .inr (.inl h2)
  · rcases S.mnew b x e with h1 | h1
    · cases e' : m b with
      | none => exact absurd e' h1
      | some x => exact M.step.mnew b x e'
    · exact .inr (Nat.le_trans M.step.size h1)
  · intro i s e
    refine (M.ok i s e).kept S.le (fun b eb => ?_) (fun b eb => ?_) (fun b k eb => ?_) (fun b eb => ?_)
    · obtain ⟨_, l2, l3, _⟩ := M.blk_lt e eb; exact S.same b l2 l3
    · obtain ⟨_, l2, l3, _⟩ := M.blk_lt e eb
      cases e' : m' b with
      | none => rfl
      | some x => rcases S.mnew b x e' with h1 | h1
                  · exact absurd l3 h1
                  · omega
    · obtain ⟨_, l2, l3, _⟩ := M.blk_lt e eb
      cases e1 : h'.c b k with
      | none =>
        cases e2 : h.c b k with
        | none => rfl
        | some v => have := S.le.c b k v e2; rw [e1] at this; cases this
      | some v => rcases S.hnew b k v e1 with h1 | h1 | h1
                  · exact h1.symm
                  · omega
                  · exact absurd l3 h1
    · obtain ⟨_, l2, l3, l4⟩ := M.blk_lt e eb
      cases e1 : h'.o b with
      | none => rfl
      | some x => rcases S.onew b x e1 with h1 | h1 | h1
                  · rw [l4] at h1; cases h1
                  · omega
                  · exact absurd l3 h1

/-- The readable cells of a slice. -/
def Row (h : RO) (sz : Nat) (v : Value) (cells : List Value) : Prop :=
  ∃ a n c, v = .slice a n c ∧ cells.length = n * sz ∧ n ≤ c ∧ ((n = 0 ∧ c = 0) ∨ ∃ b off, a = some ⟨b, off, none⟩ ∧ ∀ i u, cells[i]? = some u → h.c b (off + i) = some u)

theorem Row.mono {h h' : RO} (hl : h.le h') {sz : Nat} {v : Value} {cells : List Value} (r : Row h sz v cells) : Row h' sz v cells := by
  obtain ⟨a, n, c, h1, h2, h3, h4⟩ := r
  refine ⟨a, n, c, h1, h2, h3, h4.imp id ?_⟩
  rintro ⟨b, off, e, hc⟩
  exact ⟨b, off, e, fun i u hu => hl.c _ _ _ (hc i u hu)⟩

/-- A row that has been appended to. -/
theorem Mem.append (M : Mem β w0 h0 m0 bx h m w) {id d : Nat} {x v' : Value} {e sz n n' : Nat} {es es' : List Value} (hg : BX.get bx id = some (.row x e sz n es))
    (hown : w'.ownsRow w0.heap.size e sz v' n' es') (hcase : (v'.ownBlock = x.ownBlock ∧ w.grownBy w' x.ownBlock) ∨ (v'.ownBlock = some w.heap.size ∧ w.grownBy w' none))
    (hn : n ≤ n') (hes : ∀ i, i < n * sz → es'[i]? = es[i]?) :
    ∃ h', h.le h' ∧ Row h' sz v' es' ∧ Mem β w0 h0 m0 ((d, .row v' e sz n' es') :: (id, .dead) :: bx) h' m w' := by
  obtain ⟨hown0, hpr⟩ := M.ok id _ hg
  have hlen : es'.length = n' * sz := hown.1
  have hgr : w.grownBy w' x.ownBlock := hcase.elim (·.2) fun c => ⟨c.2.os, c.2.tape, c.2.output, c.2.size, fun k hk _ => c.2.block k hk (by simp)⟩
  have hbl : ∀ b, v'.ownBlock = some b → x.ownBlock = some b ∨ w.heap.size ≤ b := fun b hb => by
    rcases hcase with c | c
    · exact .inl (c.1 ▸ hb)
    · rw [c.1] at hb; cases hb; exact .inr (Nat.le_refl _)
  -- the block of the new row
  have hvb : ∀ b, v'.ownBlock = some b → w0.heap.size ≤ b ∧ b < w'.heap.size ∧ m b = none ∧ h.o b = none ∧ (∀ i, n * sz ≤ i → h.c b i = none) ∧ (∀ i v, h.c b i = some v → es'[i]? = some v) := by
    intro b hb
    have hl := hown.lt b hb
    rcases hbl b hb with h1 | h1
    · obtain ⟨a1, a2, a3, a4⟩ := hpr b h1
      refine ⟨hl.1, hl.2, a1, a2, a3, fun i v hv => ?_⟩
      have hi : i < n * sz := Nat.lt_of_not_le fun hi => by rw [a3 i hi] at hv; cases hv
      rw [hes i hi, ← a4 i hi]; exact hv
    · obtain ⟨f1, f2, f3⟩ := M.free_lt h1
      exact ⟨hl.1, hl.2, f1, f3, fun i _ => f2 i, fun i v hv => by rw [f2] at hv; cases hv⟩
  let h' : RO := ⟨fun b i => if v'.ownBlock = some b then es'[i]? else h.c b i, h.o⟩
  have hle : h.le h' := ⟨fun b i v hv => by
      show (if _ then _ else _) = _
      split
      · rename_i hb; exact (hvb b hb).2.2.2.2.2 i v hv
      · exact hv, fun _ _ ho => ho⟩
  have hcell : ∀ b, v'.ownBlock = some b → ∀ i u, es'[i]? = some u → w'.cell? ⟨b, i, none⟩ = some u := by
    intro b hb i u hu
    have := hown.cells hb i u hu
    rwa [add_eq, Nat.zero_add] at this
  refine ⟨h', hle, ?_, ?_⟩
  · rcases hown.2 with ⟨hv, hz⟩ | ⟨g, cap, cur, hv, r1, r2, r3, r4, r5, r6⟩
    · exact ⟨none, 0, 0, hv, by rw [hlen, hz], Nat.le_refl _, .inl ⟨rfl, rfl⟩⟩
    · refine ⟨some ⟨g, 0, none⟩, n', cap, hv, hlen, r3, .inr ⟨g, 0, rfl, fun i u hu => ?_⟩⟩
      show (if _ then _ else _) = _
      rw [if_pos (by rw [hv]; rfl), Nat.zero_add]; exact hu
  have hsame : ∀ k, k < w.heap.size → x.ownBlock ≠ some k → w'.heap[k]? = w.heap[k]? := fun k hk hne => hgr.block k hk fun e => hne e.symm
  have hxb : ∀ k, x.ownBlock = some k → w0.heap.size ≤ k ∧ m k = none ∧ h.o k = none := fun k hk => by
    have := M.blk_lt hg (b := k) (by simpa [BS.blk] using hk); exact ⟨this.1, this.2.2.1, this.2.2.2⟩
  refine ⟨⟨hgr.os.trans M.step.os, hgr.tape.trans M.step.tape, hgr.output.trans M.step.output, Nat.le_trans M.step.size hgr.size, fun k hk hm => ?_, M.step.le.trans hle, ⟨fun b i v hv => ?_, fun b y hy => ?_⟩, fun b y hy => ?_, ⟨fun b i v hv => ?_, M.step.disj.o⟩, fun b i v hv => ?_, M.step.onew, M.step.mnew⟩, ?_, ?_⟩
  · rw [hsame k (Nat.lt_of_lt_of_le hk M.step.size) (fun e => by have := (hxb k e).1; omega)]; exact M.step.same k hk hm
  · change (if _ then _ else _) = _ at hv
    split at hv
    · rename_i hb; exact hcell b hb i v hv
    · rename_i hb
      have hc := M.step.hon.c b i v hv
      have hlt : b < w.heap.size := World.block_lt_of_cell? w ⟨b, i, none⟩ hc
      by_cases hxk : x.ownBlock = some b
      · -- the old block of the row, left behind: its cells are as they were
        rcases hcase with c | c
        · exact absurd (c.1.trans hxk) hb
        · simp only [World.cell?, c.2.block b hlt (by simp)] at hc ⊢; exact hc
      · simp only [World.cell?, hsame b hlt hxk] at hc ⊢; exact hc
  · have := M.step.hon.o b y hy
    rw [hsame b (Array.getElem?_eq_some_iff.1 this.1).1 (fun e => by rw [(hxb b e).2.2] at hy; cases hy)]; exact this
  · have := M.step.mon b y hy
    rw [hsame b (Array.getElem?_eq_some_iff.1 this).1 (fun e => by rw [(hxb b e).2.1] at hy; cases hy)]; exact this
  · change (if _ then _ else _) = _ at hv
    split at hv
    · rename_i hb; exact (hvb b hb).2.2.1
    · exact M.step.disj.c b i v hv
  · change (if _ then _ else _) = _ at hv
    split at hv
    · rename_i hb; exact .inr (.inl (hvb b hb).1)
    · exact M.step.hnew b i v hv
  · intro i s he
    rw [BX.get_cons] at he
    split at he
    · rename_i ei; subst ei; cases he
      refine ⟨hown, fun b hb => ?_⟩
      obtain ⟨b1, b2, b3, b4, b5, b6⟩ := hvb b hb
      refine ⟨b3, b4, fun i hi => ?_, fun i _ => ?_⟩
      · show (if _ then _ else _) = _
        rw [if_pos hb]; exact List.getElem?_eq_none (by omega)
      · show (if _ then _ else _) = _
        rw [if_pos hb]
    · rw [BX.get_cons] at he
      split at he
      · cases he; trivial
      · rename_i ei
        have hne : ∀ b, s.blk β i = some b → x.ownBlock ≠ some b := fun b eb e' => by
          have := M.ne i id s _ b (fun e => ei e.symm) he hg eb
          exact this (by simpa [BS.blk] using e')
        have hnv : ∀ b, s.blk β i = some b → v'.ownBlock ≠ some b := fun b eb e' => by
          rcases hbl b e' with h1 | h1
          · exact hne b eb h1
          · have := (M.blk_lt he eb).2.1; omega
        exact (M.ok i s he).kept hle (fun b eb => hsame b (M.blk_lt he eb).2.1 (hne b eb)) (fun b eb => (M.blk_lt he eb).2.2.1)
          (fun b k eb => by show (if _ then _ else _) = _; rw [if_neg (hnv b eb)]) (fun b eb => (M.blk_lt he eb).2.2.2)
  · -- distinct things have distinct blocks
    have key : ∀ j t b, j ≠ d → BX.get ((d, .row v' e sz n' es') :: (id, .dead) :: bx) j = some t → t.blk β j = some b → v'.ownBlock ≠ some b := by
      intro j t b hjd hj hb e'
      rw [BX.get_cons, if_neg (fun e => hjd e.symm), BX.get_cons] at hj
      split at hj
      · cases hj; simp [BS.blk] at hb
      · rename_i eij
        rcases hbl b e' with h1 | h1
        · have := M.ne j id t _ b (fun e => eij e.symm) hj hg hb
          exact this (by simpa [BS.blk] using h1)
        · have := (M.blk_lt hj hb).2.1; omega
    intro i j s t b hne hi hj hs ht
    by_cases ei : i = d
    · subst ei
      rw [BX.get_cons, if_pos rfl] at hi; cases hi
      exact key j t b (fun e => hne e.symm) hj ht (by simpa [BS.blk] using hs)
    · by_cases ej : j = d
      · subst ej
        rw [BX.get_cons, if_pos rfl] at hj; cases hj
        exact key i s b ei hi hs (by simpa [BS.blk] using ht)
      · rw [BX.get_cons, if_neg (fun e => ei e.symm), BX.get_cons] at hi
        rw [BX.get_cons, if_neg (fun e => ej e.symm), BX.get_cons] at hj
        split at hi
        · cases hi; simp [BS.blk] at hs
        · split at hj
          · cases hj; simp [BS.blk] at ht
          · exact M.ne i j s t b hne hi hj hs ht

/-- A private block that is a slice of its whole becomes a row. -/
theorem Mem.boxRow (M : Mem β w0 h0 m0 bx h m w) {id : Nat} {cs : List Value} {e sz n : Nat} (hg : BX.get bx id = some (.box cs e)) (hl : cs.length = n * sz) (hn : n ≤ maxLen) :
    ∃ h', h.le h' ∧ Mem β w0 h0 m0 ((id, .row (.slice (some ⟨β id, 0, none⟩) n n) e sz n cs) :: bx) h' m w := by
  obtain ⟨p, q⟩ := M.ok id _ hg
  have hcw : ∀ i v, cs[i]? = some v → w.cell? ⟨β id, i, none⟩ = some v := fun i v e => by
    simp only [World.cell?, q]; simpa using e
  have hle : h.le ⟨fun b i => if b = β id then cs[i]? else h.c b i, h.o⟩ := ⟨fun b i v e => by
    simp only
    split
    · rename_i eb; subst eb; rw [p.c i] at e; cases e
    · exact e, fun _ _ e => e⟩
  refine ⟨_, hle, ⟨M.step.os, M.step.tape, M.step.output, M.step.size, M.step.same, M.step.le.trans hle, ⟨fun b i v e => ?_, M.step.hon.o⟩, M.step.mon, ⟨fun b i v e => ?_, M.step.disj.o⟩, fun b i v e => ?_, M.step.onew, M.step.mnew⟩, ?_, ?_⟩
  · simp only at e
    split at e
    · rename_i eb; subst eb; exact hcw i v e
    · exact M.step.hon.c b i v e
  · simp only at e
    split at e
    · rename_i eb; subst eb; exact p.m
    · exact M.step.disj.c b i v e
  · simp only at e
    split at e
    · rename_i eb; subst eb; exact .inr (.inl p.lo)
    · exact M.step.hnew b i v e
  · intro i s he
    rw [BX.get_cons] at he
    split at he
    · rename_i ei; subst ei; cases he
      refine ⟨⟨hl, .inr ⟨β id, n, cs.toArray, rfl, p.lo, q, Nat.le_refl _, hn, by simpa using hl, by simp [← hl]⟩⟩, fun b hb => ?_⟩
      simp [Value.ownBlock] at hb; subst hb
      exact ⟨p.m, p.o, fun i hi => by simp; omega, fun i _ => by simp⟩
    · rename_i ei
      have hb : ∀ b, s.blk β i = some b → b ≠ β id := fun b eb e' => by
        have := M.ne i id s _ b (fun e => ei e.symm) he hg eb
        exact this (by simp [BS.blk, e'])
      exact (M.ok i s he).kept hle (fun _ _ => rfl) (fun b eb => (M.blk_lt he eb).2.2.1) (fun b k eb => by simp [hb b eb]) (fun b eb => (M.blk_lt he eb).2.2.2)
  · intro i j s t b hne hi hj hs
    rw [BX.get_cons] at hi hj
    by_cases ei : id = i
    · subst ei; rw [if_pos rfl] at hi; cases hi
      rw [if_neg hne] at hj
      exact M.ne id j _ t b hne hg hj (by simpa [BS.blk, Value.ownBlock] using hs)
    · rw [if_neg ei] at hi
      by_cases ej : id = j
      · subst ej; rw [if_pos rfl] at hj; cases hj
        have := M.ne i id s _ b hne hi hg hs
        simpa [BS.blk, Value.ownBlock] using this
      · rw [if_neg ej] at hj; exact M.ne i j s t b hne hi hj hs

/-- A private block becomes a row with nothing in it yet. -/
theorem Mem.boxRow0 (M : Mem β w0 h0 m0 bx h m w) {id : Nat} {cs : List Value} {e sz cp : Nat} (hg : BX.get bx id = some (.box cs e)) (hl : cs.length = cp * sz) (hn : cp ≤ maxLen) :
    Mem β w0 h0 m0 ((id, .row (.slice (some ⟨β id, 0, none⟩) 0 cp) e sz 0 []) :: bx) h m w := by
  obtain ⟨p, q⟩ := M.ok id _ hg
  refine ⟨M.step, ?_, ?_⟩
  · intro i s he
    rw [BX.get_cons] at he
    split at he
    · rename_i ei; subst ei; cases he
      refine ⟨⟨by simp, .inr ⟨β id, cp, cs.toArray, rfl, p.lo, q, Nat.zero_le _, hn, by simpa using hl, by simp⟩⟩, fun b hb => ?_⟩
      simp [Value.ownBlock] at hb; subst hb
      exact ⟨p.m, p.o, fun i _ => p.c i, fun i hi => by omega⟩
    · exact M.ok i s he
  · intro i j s t b hne hi hj hs
    rw [BX.get_cons] at hi hj
    by_cases ei : id = i
    · subst ei; rw [if_pos rfl] at hi; cases hi
      rw [if_neg hne] at hj
      exact M.ne id j _ t b hne hg hj (by simpa [BS.blk, Value.ownBlock] using hs)
    · rw [if_neg ei] at hi
      by_cases ej : id = j
      · subst ej; rw [if_pos rfl] at hj; cases hj
        have := M.ne i id s _ b hne hi hg hs
        simpa [BS.blk, Value.ownBlock] using this
      · rw [if_neg ej] at hj; exact M.ne i j s t b hne hi hj hs

/-- A nil slice is a row of one's own with nothing in it. -/
theorem Mem.nilRow (M : Mem β w0 h0 m0 bx h m w) (id e sz : Nat) : Mem β w0 h0 m0 ((id, .row (.slice none 0 0) e sz 0 []) :: bx) h m w := by
  refine ⟨M.step, ?_, ?_⟩
  · intro i s he
    rw [BX.get_cons] at he
    split at he
    · cases he; exact ⟨World.ownsRow_nil _ _ _ _, fun b hb => by simp [Value.ownBlock] at hb⟩
    · exact M.ok i s he
  · intro i j s t b hne hi hj hs
    rw [BX.get_cons] at hi hj
    split at hi
    · cases hi; simp [BS.blk, Value.ownBlock] at hs
    · split at hj
      · cases hj; simp [BS.blk, Value.ownBlock]
      · exact M.ne i j s t b hne hi hj hs
end

/-- append onto a row of one's own: in place, or into a new block. -/
theorem run_app {P : Program} {w : World} {base : Nat} (t ty e : TypeId) (i : TypeInfo) (z : Value) (sz : Nat) (ht : P.underlying t = some (.slice e)) (hi : P.info? e = some i) (hz : i.zero = some z)
    (hsz : i.size = sz) (hzs : z.cells.size = sz) (v : Value) (n : Nat) (xs : List Value) (hown : w.ownsRow base e sz v n xs)
    (u : Value) (m : Nat) (news : List Value) (hu : (u = .slice none 0 0 ∧ m = 0) ∨ ∃ a c, u = .slice (some a) m c ∧ ∀ j x, news[j]? = some x → w.cell? (a.add j) = some x)
    (hl : news.length = m * sz) (h1 : ∀ x ∈ news, x.oneCell' = true) (h63 : n + m ≤ maxLen) (hbytes : (n + m) * i.bytes ≤ 140737488355328) (hbase : base ≤ w.heap.size) :
    ∃ v' w', (Builtin.append_ #[t, t] ty #[v, u]).run P w = .ok v' w' ∧ w'.ownsRow base e sz v' (n + m) (xs ++ news) ∧
      ((v'.ownBlock = v.ownBlock ∧ w.grownBy w' v.ownBlock) ∨ (v'.ownBlock = some w.heap.size ∧ w.grownBy w' none)) := by
  subst hsz
  have grefl : ∀ r, w.grownBy w r := fun r => ⟨rfl, rfl, rfl, Nat.le_refl _, fun _ _ _ => rfl⟩
  rcases hu with ⟨rfl, rfl⟩ | ⟨a, c, rfl, hnews⟩
  · have hn : news = [] := List.eq_nil_of_length_eq_zero (by simpa using hl)
    subst hn
    exact ⟨v, w, run_append_owned_none (P := P) (w := w) base t ty e i i.size ht hi v n xs hown, by simpa using hown, .inl ⟨rfl, grefl _⟩⟩
  have hsmall : n + m ≤ 9223372036854775807 := by simp only [maxLen] at h63; omega
  have hlen : (xs ++ news).length = (n + m) * i.size := by rw [List.length_append, hown.1, hl, Nat.add_mul]
  have grown : ∀ (old : Nat), old < n + m →
      (w.drew.alloc (.cells (xs.toArray ++ news.toArray ++ Builtin.zeroCells z.cells (grownCap w (n + m) old e - (n + m))) e)).ownsRow base e i.size
        (.slice (some ⟨w.heap.size, 0, none⟩) (n + m) (grownCap w (n + m) old e)) (n + m) (xs ++ news) ∧
      w.grownBy (w.drew.alloc (.cells (xs.toArray ++ news.toArray ++ Builtin.zeroCells z.cells (grownCap w (n + m) old e - (n + m))) e)) none := by
    intro old ho
    have hge := grownCap_ge w (n + m) old e
    have hcm : grownCap w (n + m) old e ≤ maxLen := grownCap_le_maxLen w (n + m) old e h63
    refine ⟨⟨hlen, .inr ⟨w.heap.size, _, _, rfl, hbase, _root_.Go.heap_alloc_new w.drew _, hge, hcm, ?_, ?_⟩⟩, ⟨rfl, rfl, rfl, by simp, fun k hk _ => by have := heap_alloc_old w.drew (.cells (xs.toArray ++ news.toArray ++ Builtin.zeroCells z.cells (grownCap w (n + m) old e - (n + m))) e) (r := k) hk; exact this⟩⟩
    · simp only [Array.size_append, List.size_toArray, size_zeroCells, hzs, hown.1, hl, ← Nat.add_mul]
      congr 1
      omega
    · simp only [Array.toList_append, List.append_assoc]
      rw [← List.append_assoc, ← hlen]
      exact List.take_left
  rcases hown.2 with ⟨rfl, rfl⟩ | ⟨g, cap, cur, rfl, hbg, hg, hnc, hcm, hcs, htake⟩
  · have hx : xs = [] := List.eq_nil_of_length_eq_zero (by simpa using hown.1)
    subst hx
    by_cases hm : m = 0
    · subst hm
      have hn : news = [] := List.eq_nil_of_length_eq_zero (by simpa using hl)
      subst hn
      refine ⟨.slice none 0 0, w, ?_, World.ownsRow_nil w base e i.size, .inl ⟨rfl, grefl _⟩⟩
      simp [Builtin.append_, run_underlying ht, sizeOf, typeInfo, hi, Builtin.lenOf, Builtin.firstCells, loadCells, loadCellsFrom]
    · have hr := run_append_nil (P := P) w t ty e i z ht hi hz a m c news hl hnews (by omega) (by omega) (by have hb := hbytes; simp only [Nat.zero_add] at hb; omega)
      have hgr := grown 0 (by omega)
      simp only [Nat.zero_add, List.nil_append, Array.empty_append] at hgr ⊢
      exact ⟨_, _, hr, hgr.1, .inr ⟨rfl, hgr.2⟩⟩
  · by_cases hroom : n + m ≤ cap
    · have hfit : n * i.size + news.length ≤ cur.size := by rw [hl, hcs, ← Nat.add_mul]; exact Nat.mul_le_mul_right _ hroom
      have hr := run_append_room (P := P) w t ty e i ht hi g n cap cur hg a m c news hl hnews h1 hroom hfit
      refine ⟨_, _, hr, ⟨hlen, .inr ⟨g, cap, _, rfl, hbg, setRow_heap w g cur _ e _ hg, hroom, hcm, ?_, ?_⟩⟩, .inl ⟨rfl, ⟨rfl, rfl, rfl, by simp, fun k _ hk => setRow_other w g k _ (fun e => hk (by simp [Value.ownBlock, e]))⟩⟩⟩
      · simp only [List.size_toArray, List.length_append, List.length_take, List.length_drop, Array.length_toList]
        omega
      · rw [htake, ← hlen]
        exact List.take_left
    · have holds : ∀ j u, xs[j]? = some u → w.cell? ((⟨g, 0, none⟩ : Addr).add j) = some u := hown.cells (g := g) rfl
      have hr := run_append_grow (P := P) w t ty e i z ht hi hz ⟨g, 0, none⟩ n cap xs hown.1 holds a m c news hl hnews (by omega) (by omega) (growslice_fits (by omega) hbytes)
      have hgr := grown cap (by omega)
      exact ⟨_, _, hr, hgr.1, .inr ⟨rfl, hgr.2⟩⟩
end Go.SX
/-
  SX, part J: the rules of the operations that touch memory, and of a call.
-/
namespace Go.SX

def Pubd (h : RO) (b : Nat) (cs : List Value) : Prop := ∀ i u, cs[i]? = some u → h.c b i = some u

/-- The private things among some operands become readable. -/
def pubK (ρ : Fr) : List Operand → BX → RO → (BX → RO → Prop) → Prop
  | [], bx, h, K => K bx h
  | x :: xs, bx, h, K => ev ρ x fun s => match s with
    | .loc id _ => match BX.get bx id with
      | some (.box cs _) => ∀ b h', h.le h' → Pubd h' b cs → pubK ρ xs ((id, .pub b cs) :: bx) h' K
      | _ => pubK ρ xs bx h K
    | .arr id _ => match BX.get bx id with
      | some (.box cs _) => ∀ b h', h.le h' → Pubd h' b cs → pubK ρ xs ((id, .pub b cs) :: bx) h' K
      | _ => pubK ρ xs bx h K
    | _ => pubK ρ xs bx h K

section
variable {C : Cx} {k : List It} {ρ : Fr} {bx : BX} {h : RO} {m : Hp} {T : Nat → TI}

theorem sx_publish {id : Nat} {cs : List Value} {ty : Nat} (hg : BX.get bx id = some (.box cs ty))
    (hk : ∀ b h', h.le h' → Sx C k ρ ((id, .pub b cs) :: bx) h' m) : Sx C k ρ bx h m := .mk fun a w s => by
  obtain ⟨β, M, F⟩ := s.parts
  obtain ⟨h', hle, hc, M'⟩ := M.publish hg
  exact WPx_mono hle ((hk (β id) h' hle).run a w (Sat.of_parts s.size s.defers M' F.f))

theorem pub_all {Q : Act → World → Prop} : ∀ {xs : List Operand} {bx : BX} {h hh : RO}, hh.le h → pubK ρ xs bx h (fun bx h' => hh.le h' → ∀ a w, Sat C.nt C.w0 C.h0 C.m0 ρ bx h' m a w → Q a w) →
    ∀ a w, Sat C.nt C.w0 C.h0 C.m0 ρ bx h m a w → Q a w
  | [], _, _, _, hl, hk => hk hl
  | x :: xs, bx, h, hh, hl, hk => fun a w s => by
    simp only [pubK] at hk
    obtain ⟨β, M, F⟩ := s.parts
    obtain ⟨sv, hs, he⟩ := F.ev hk
    split at hs
    · split at hs
      · rename_i hg
        obtain ⟨h', hle, hc, M'⟩ := M.publish hg
        exact pub_all (hl.trans hle) (hs _ h' hle hc) a w (Sat.of_parts s.size s.defers M' F.f)
      · exact pub_all hl hs a w s
    · split at hs
      · rename_i hg
        obtain ⟨h', hle, hc, M'⟩ := M.publish hg
        exact pub_all (hl.trans hle) (hs _ h' hle hc) a w (Sat.of_parts s.size s.defers M' F.f)
      · exact pub_all hl hs a w s
    · exact pub_all hl hs a w s

theorem pubK_imp : ∀ {xs : List Operand} {bx : BX} {h : RO} {K K' : BX → RO → Prop}, (∀ bx h, K bx h → K' bx h) → pubK ρ xs bx h K → pubK ρ xs bx h K'
  | [], _, _, _, _, hh, hk => hh _ _ hk
  | x :: xs, bx, h, K, K', hh, hk => by
    simp only [pubK] at hk ⊢
    unfold ev at hk ⊢
    split at hk
    · split at hk
      · split at hk
        · split at hk
          · exact fun b h' h1 h2 => pubK_imp hh (hk b h' h1 h2)
          · exact pubK_imp hh hk
        · split at hk
          · exact fun b h' h1 h2 => pubK_imp hh (hk b h' h1 h2)
          · exact pubK_imp hh hk
        · exact pubK_imp hh hk
      · exact hk
    · exact pubK_imp hh hk
    · exact pubK_imp hh hk
    · exact pubK_imp hh hk

theorem sx_pub {xs : List Operand} {bx : BX} {h : RO} (hk : pubK ρ xs bx h (fun bx h => Sx C k ρ bx h m)) : Sx C k ρ bx h m :=
  .mk (pub_all (RO.le.refl h) (pubK_imp (fun bx h' q hl a w s => WPx_mono hl (q.run a w s)) hk))

/-- What an operation is to find, in every frame and world of the state. -/
def Does (C : Cx) (KK : Act → World → Prop) (Q : Exit → Act → World → Prop) (o : Oper) (a : Act) (w : World) : Prop :=
  (∀ c a w, C.post (.panic c) a w → Q (.panic c) a w) → o.wp C.P a w KK Q

theorem does_value {KK : Act → World → Prop} {Q : Exit → Act → World → Prop} {o : Oper} {a : Act} {w w' : World} {β : Nat → Nat} {s : SV} {bx' : BX} {h' : RO} {m' : Hp}
    (hsz : a.tmps.size = C.nt) (hd : a.defers = []) (hdst : dstOk C.nt o.dst)
    (hf : ∀ t s, Fr.get ρ t = some s → a.tmps.getD t undef = conc β s)
    (M : Mem β C.w0 C.h0 C.m0 bx' h' m' w') (hrun : (execOp a.eval o).run C.P w = .ok (.value (conc β s)) w')
    (hk : SK C KK (upd ρ o.dst s) bx' h' m') : Does C KK Q o a w := fun _ => by
  obtain ⟨f1, f2, f3⟩ := frame_put (β := β) hsz hdst (s := s) hf
  unfold Oper.wp; rw [hrun]
  exact hk _ _ (Sat.of_parts f2 (f3.trans hd) M f1)

theorem does_unit {KK : Act → World → Prop} {Q : Exit → Act → World → Prop} {o : Oper} {a : Act} {w w' : World} {β : Nat → Nat} {bx' : BX} {h' : RO} {m' : Hp}
    (hsz : a.tmps.size = C.nt) (hd : a.defers = []) (hdst : dstOk C.nt o.dst)
    (hf : ∀ t s, Fr.get ρ t = some s → a.tmps.getD t undef = conc β s)
    (M : Mem β C.w0 C.h0 C.m0 bx' h' m' w') (hrun : (execOp a.eval o).run C.P w = .ok .skip w')
    (hk : SK C KK (upd ρ o.dst (.v undef)) bx' h' m') : Does C KK Q o a w := fun _ => by
  obtain ⟨f1, f2, f3⟩ := frame_put (β := β) hsz hdst (s := .v undef) hf
  unfold Oper.wp; rw [hrun]
  exact hk _ _ (Sat.of_parts f2 (f3.trans hd) M f1)

/-! ### a load -/

def oneOkB (i : TI) : Bool := match i.agg with | true => true | false => match i.ks with | [_] => true | _ => false
def oneOk (i : TI) : Prop := match i.agg with | true => True | false => match i.ks with | [_] => True | _ => False

theorem oneOkB_ok {i : TI} (h : oneOkB i = true) : oneOk i := by
  unfold oneOkB at h; unfold oneOk
  cases e : i.agg with
  | true => trivial
  | false =>
    rw [e] at h
    match e2 : i.ks, h with
    | [_], _ => trivial

theorem run_loadVar {P : Program} {w : World} {t b off : Nat} {vs : List Value} (hT : TOk P T) (hok : (T t).ok = true) (ho : oneOk (T t)) (hl : vs.length = (T t).ks.length)
    (hc : ∀ j v, vs[j]? = some v → w.cell? ⟨b, off + j, none⟩ = some v) : (loadVar t ⟨b, off, none⟩).run P w = .ok (mkV (T t).agg vs) w := by
  have ha := run_isAgg hT hok w
  unfold oneOk at ho
  cases hg : (T t).agg with
  | true =>
    rw [hg] at ha
    have hcs := run_loadCells_list (P := P) w ⟨b, off, none⟩ vs (fun j v e => by rw [add_eq]; exact hc j v e)
    have hsz := run_sizeOf hT hok w
    rw [← hl] at hsz
    simp [loadVar, ha, hsz, hcs, mkV]
  | false =>
    rw [hg] at ha ho
    simp only at ho
    split at ho
    · rename_i kk hks
      rw [hks] at hl
      match vs, hl with
      | [v], _ =>
        have := hc 0 v rfl
        rw [Nat.add_zero] at this
        simp [loadVar, ha, this, mkV]
    · exact ho.elim

def rdL {α : Type} : List α → List Value → Nat → Option (List Value)
  | [], _, _ => some []
  | _ :: ts, cs, i => match nthL cs i with
    | some v => match rdL ts cs (i + 1) with
      | some vs => some (v :: vs)
      | none => none
    | none => none
theorem rdL_ok {α : Type} : ∀ {ts : List α} {cs : List Value} {i : Nat} {vs : List Value}, rdL ts cs i = some vs → vs.length = ts.length ∧ ∀ j v, vs[j]? = some v → cs[i + j]? = some v
  | [], _, _, vs, h => by simp [rdL] at h; subst h; simp
  | t :: ts, cs, i, vs, h => by
    simp only [rdL] at h
    split at h
    · rename_i v hv
      split at h
      · rename_i us hu
        cases h
        obtain ⟨h1, h2⟩ := rdL_ok hu
        rw [nthL_eq] at hv
        refine ⟨by simp [h1], fun j u hj => ?_⟩
        cases j with
        | zero => simp at hj; subst hj; simpa using hv
        | succ j => simp at hj; have := h2 j u hj; rwa [show i + 1 + j = i + (j + 1) by omega] at this
      · cases h
    · cases h
/-- A load from cells that are known. -/
def ldB (ts : List TK) (cs : List Value) (i : Nat) (K : List Value → Prop) : Prop := match rdL ts cs i with | some vs => K vs | none => False
theorem ldB_ex {ts : List TK} {cs : List Value} {i : Nat} {K : List Value → Prop} (h : ldB ts cs i K) : ∃ vs : List Value, vs.length = ts.length ∧ (∀ j v, vs[j]? = some v → cs[i + j]? = some v) ∧ K vs := by
  unfold ldB at h
  split at h
  · rename_i vs e; obtain ⟨h1, h2⟩ := rdL_ok e; exact ⟨vs, h1, h2, h⟩
  · exact h.elim

def loadK (T : Nat → TI) (bx : BX) (h : RO) (m : Hp) (t : Nat) (s : SV) (K : Value → Prop) : Prop :=
  ck (T t).ok <| ck (oneOkB (T t)) <| match s with
  | .loc id off => match BX.get bx id with
    | some (.box cs _) => ldB (T t).ks cs off fun vs => K (mkV (T t).agg vs)
    | some (.pub _ cs) => ldB (T t).ks cs off fun vs => K (mkV (T t).agg vs)
    | _ => False
  | .v (.pointer p) => ptrK p fun b off => ldK (T t).ks (Cell h m b) off fun vs => K (mkV (T t).agg vs)
  | _ => False

theorem loadK_ok {w : World} {P : Program} {β : Nat → Nat} {w0 : World} {h0 : RO} {m0 : Hp} {t : Nat} {s : SV} {K : Value → Prop} (hT : TOk P T) (M : Mem β w0 h0 m0 bx h m w)
    (hk : loadK T bx h m t s K) : ∃ v b off, K v ∧ conc β s = .pointer (some ⟨b, off, none⟩) ∧ (loadVar t ⟨b, off, none⟩).run P w = .ok v w := by
  replace hk := ck_iff.1 hk
  obtain ⟨h1, hk⟩ := hk
  replace hk := ck_iff.1 hk
  obtain ⟨h2, hk⟩ := hk
  replace h2 := oneOkB_ok h2
  split at hk
  · rename_i id off
    split at hk
    · rename_i cs ty hg
      obtain ⟨p, q⟩ := M.ok id _ hg
      obtain ⟨vs, hl, hc, hK⟩ := ldB_ex hk
      refine ⟨_, β id, off, hK, rfl, run_loadVar hT h1 h2 hl fun j v e => ?_⟩
      have := hc j v e
      simp only [World.cell?, q]; simpa using this
    · rename_i b cs hg
      obtain ⟨hb, hcs⟩ := M.ok id _ hg
      obtain ⟨vs, hl, hc, hK⟩ := ldB_ex hk
      exact ⟨_, β id, off, hK, rfl, run_loadVar hT h1 h2 hl fun j v e => by rw [hb]; exact M.step.hon.c _ _ _ (hcs _ _ (hc j v e))⟩
    · exact hk.elim
  · replace hk := ptrK_ok hk
    obtain ⟨b, off, rfl, hk⟩ := hk
    obtain ⟨vs, hl, hc, hK⟩ := ldK_ex hk
    exact ⟨_, b, off, hK, rfl, run_loadVar hT h1 h2 hl fun j v e => (hc j v e).world M.step.hon M.step.mon⟩
  · exact hk.elim

/-! ### a store -/

def oneC : Value → Prop
  | .agg _ => False
  | .tuple _ => False
  | _ => True
def okC : List Value → Prop
  | [] => True
  | v :: r => oneC v ∧ okC r
theorem okC_one : ∀ {l : List Value}, okC l → ∀ u ∈ l, u.oneCell' = true
  | [], _, _, h => by cases h
  | v :: r, hl, u, hu => by
    rcases List.mem_cons.1 hu with rfl | hu
    · have := hl.1; cases u <;> first | rfl | exact this.elim
    · exact okC_one hl.2 u hu

theorem run_storeVar {P : Program} {w : World} {t b off ty : Nat} {v : Value} {cs : Array Value} (hT : TOk P T) (hok : (T t).ok = true) (hl : (cellsL v).length = (T t).ks.length)
    (hb : w.heap[b]? = some (.cells cs ty (0, 0))) (hfit : off + (cellsL v).length ≤ cs.size) (h1 : okC (cellsL v)) :
    (storeVar t ⟨b, off, none⟩ v).run P w = .ok () (w.setRow b (setL cs.toList off (cellsL v)).toArray) := by
  have hs := run_storeCells_at P b off ty (cellsL v) 0 cs w hb (by simpa using hfit) (okC_one h1)
  have hsz : v.cells.size = (T t).ks.length := by rw [← hl, ← cellsL_eq]; simp
  rw [setL_split _ _ _ (by simpa using hfit)]
  simp only [Nat.add_zero] at hs
  have hcl : v.cells.toList = cellsL v := cellsL_eq v
  simp [storeVar, run_sizeOf hT hok, hsz, hcl, hs]

def oneCB : Value → Bool
  | .agg _ => false
  | .tuple _ => false
  | _ => true
def okCB : List Value → Bool
  | [] => true
  | v :: r => match oneCB v with | true => okCB r | false => false
theorem okCB_ok : ∀ {l : List Value}, okCB l = true → okC l
  | [], _ => trivial
  | v :: r, h => by
    simp only [okCB] at h
    split at h
    · rename_i e
      refine ⟨?_, okCB_ok h⟩
      cases v <;> simp [oneCB] at e <;> trivial
    · cases h

def storeK (T : Nat → TI) (bx : BX) (m : Hp) (t : Nat) (s : SV) (v : Value) (K : BX → Hp → Prop) : Prop :=
  ck (T t).ok <| ck (Nat.beq (lenL (cellsL v)) (lenL (T t).ks)) <| ck (okCB (cellsL v)) <| match s with
  | .loc id off => match BX.get bx id with
    | some (.box cs ty) => ck (Nat.ble (off + lenL (cellsL v)) (lenL cs)) <| K ((id, .box (setL cs off (cellsL v)) ty) :: bx) m
    | _ => False
  | .v (.pointer p) => ptrK p fun b off => ∃ cs ty, m b = some (.cells cs ty (0, 0)) ∧ off + lenL (cellsL v) ≤ cs.size ∧ K bx (m.set b (.cells (setL cs.toList off (cellsL v)).toArray ty (0, 0)))
  | _ => False

/-! ### new blocks -/

def memN (d : Nat) : List Nat → Bool
  | [] => false
  | x :: r => match Nat.beq x d with | true => true | false => memN d r

def newK (esc : List Nat) (ρ : Fr) (bx : BX) (h : RO) (m : Hp) (d : Option Nat) (cells : List Value) (ty : Nat) (K : SV → BX → Hp → Prop) : Prop :=
  match d with
  | some d => match memN d esc with
    | true => ∀ b, m b = none → (∀ i, h.c b i = none) → h.o b = none → K (.v (.pointer (some ⟨b, 0, none⟩))) bx (m.set b (.cells cells.toArray ty (0, 0)))
    | false => ck (Fr.freeB d ρ) <| K (.loc d 0) ((d, .box cells ty) :: bx) m
  | none => False

/-- .. as a slice of the whole. -/
def newA (ρ : Fr) (bx : BX) (d : Option Nat) (n : Nat) (cells : List Value) (ty : Nat) (K : SV → BX → Prop) : Prop :=
  match d with
  | some d => ck (Fr.freeB d ρ) <| K (.arr d n) ((d, .box cells ty) :: bx)
  | none => False

theorem free_conc {β : Nat → Nat} {a : Act} {id b : Nat} (hfree : Fr.free id ρ) (hf : ∀ t s, Fr.get ρ t = some s → a.tmps.getD t undef = conc β s) :
    ∀ t s, Fr.get ρ t = some s → a.tmps.getD t undef = conc (fun i => if i = id then b else β i) s := fun t s e => by
  rw [hf t s e]
  exact (Fr.free_get hfree e β _ fun i hi => by simp [hi]).symm

def repZ : Nat → List Value → List Value
  | 0, _ => []
  | n + 1, z => z ++ repZ n z
theorem repZ_length : ∀ (n : Nat) (z : List Value), (repZ n z).length = n * z.length
  | 0, _ => by simp [repZ]
  | n + 1, z => by simp [repZ, repZ_length n z, Nat.add_mul, Nat.add_comm]
theorem repZ_get : ∀ (n : Nat) (z : List Value) (i : Nat), i < n * z.length → (repZ n z)[i]? = z[i % z.length]?
  | 0, z, i, h => by simp at h
  | n + 1, z, i, h => by
    simp only [repZ]
    by_cases hi : i < z.length
    · rw [List.getElem?_append_left hi, Nat.mod_eq_of_lt hi]
    · rw [List.getElem?_append_right (by omega), repZ_get n z (i - z.length) (by rw [Nat.add_mul] at h; omega)]
      rw [Nat.mod_eq_sub_mod (a := i) (by omega)]
theorem zeros_eq (n : Nat) (z : Array Value) : ((Array.range (n * z.size)).map (fun x => z[x % z.size]!)).toList = repZ n z.toList := by
  apply List.ext_getElem?
  intro i
  by_cases hi : i < n * z.size
  · rw [repZ_get n z.toList i (by simpa using hi)]
    have hz : 0 < z.size := by
      cases hz : z.size with
      | zero => simp [hz] at hi
      | succ _ => omega
    have hm : i % z.size < z.size := Nat.mod_lt _ hz
    simp [hi, hm]
  · rw [List.getElem?_eq_none (by simpa using hi), List.getElem?_eq_none (by rw [repZ_length]; simpa using hi)]
end
end Go.SX
/-
  SX, part N: maps: blocks that hold entries; what a map holds as a function of its keys.
-/
namespace Go.SX

/-- What the operations on a map need of its keys. -/
structure KeyT (P : Program) (k : Nat) (G : Value → Prop) : Prop where
  check : ∀ (w : World) (em : Bool) {v : Value}, G v → (Instr.checkKey em 10000 k v).run P w = .ok () w
  find : ∀ (w : World) {x : Value}, G x → ∀ es : List MapEntry, (∀ e ∈ es, G e.key) →
    ((Instr.findKey k x es).run P w = .ok none w ∧ ∀ e ∈ es, e.key ≠ x) ∨ ∃ j e, (Instr.findKey k x es).run P w = .ok (some (j, e.val)) w ∧ es[j]? = some e ∧ e.key = x
  stays : ∀ (w : World) {v : Value}, G v → (Instr.keyThatStays v v).run P w = .ok v w

theorem KeyT.plain {P : Program} {k : Nat} {d : TypeDesc} (hk : P.underlying k = some d) : KeyT P k (MapKept.IsKey d) where
  check w em _ hv := MapKept.run_checkKey hk hv em 9999
  find w x hx es hes := by
    rcases MapKept.findNow_spec hx es 0 hes with ⟨h1, h2⟩ | ⟨j, e0, h1, h2, h3⟩
    · exact .inl ⟨MapKept.run_findKey hk h1, h2⟩
    · exact .inr ⟨j, e0, by simpa using MapKept.run_findKey hk h1, h2, h3⟩
  stays w _ hv := MapKept.run_keyThatStays hv

theorem KeyT.deep {P : Program} {k : Nat} (K : Maps.Keyed P k) : KeyT P k (fun v => ∃ l, keyOf P k v = some l) where
  check w em _ hv := hv.elim fun _ h => K.check w em h
  find w x hx es hes := hx.elim fun _ h => K.find w h es hes
  stays w _ hv := hv.elim fun _ h => K.stays w h

/-- What some entries hold, as a function of the key. -/
structure MRep (G : Value → Prop) (es : Array MapEntry) (f : Value → Option Value) : Prop where
  good : ∀ e ∈ es.toList, G e.key
  apart : es.toList.Pairwise fun x y => x.key ≠ y.key
  val : ∀ e ∈ es.toList, f e.key = some e.val
  all : ∀ k v, f k = some v → ∃ e ∈ es.toList, e.key = k

theorem MRep.nil (G : Value → Prop) : MRep G #[] (fun _ => none) := ⟨by simp, by simp, by simp, by simp⟩

open Classical in
noncomputable def updF (f : Value → Option Value) (k : Value) (v : Option Value) : Value → Option Value := fun x => if x = k then v else f x
theorem updF_self (f : Value → Option Value) (k : Value) (v : Option Value) : updF f k v k = v := by simp [updF]
theorem updF_ne (f : Value → Option Value) {k x : Value} (v : Option Value) (h : x ≠ k) : updF f k v x = f x := by simp [updF, h]

theorem MRep.none_of {G : Value → Prop} {es : Array MapEntry} {f : Value → Option Value} (r : MRep G es f) {x : Value} (h : ∀ e ∈ es.toList, e.key ≠ x) : f x = none := by
  cases hf : f x with
  | none => rfl
  | some v => obtain ⟨e, he, hk⟩ := r.all x v hf; exact absurd hk (h e he)
theorem MRep.some_of {G : Value → Prop} {es : Array MapEntry} {f : Value → Option Value} (r : MRep G es f) {j : Nat} {e : MapEntry} (h : es.toList[j]? = some e) : f e.key = some e.val :=
  r.val e (List.mem_of_getElem? h)

theorem MRep.push {G : Value → Prop} {es : Array MapEntry} {f : Value → Option Value} (r : MRep G es f) {k v : Value} {n : Nat} (hg : G k) (h : ∀ e ∈ es.toList, e.key ≠ k) :
    MRep G (es.push ⟨k, v, n⟩) (updF f k (some v)) := by
  refine ⟨fun e he => ?_, ?_, fun e he => ?_, fun x u hx => ?_⟩
  · simp only [Array.toList_push, List.mem_append, List.mem_singleton] at he
    rcases he with he | rfl
    · exact r.good e he
    · exact hg
  · simp only [Array.toList_push]
    refine List.pairwise_append.2 ⟨r.apart, by simp, fun a ha b hb => ?_⟩
    simp only [List.mem_singleton] at hb; subst hb; exact h a ha
  · simp only [Array.toList_push, List.mem_append, List.mem_singleton] at he
    rcases he with he | rfl
    · rw [updF_ne _ _ (h e he)]; exact r.val e he
    · exact updF_self _ _ _
  · by_cases e : x = k
    · subst e; exact ⟨⟨x, v, n⟩, by simp, rfl⟩
    · rw [updF_ne _ _ e] at hx
      obtain ⟨y, hy, hk⟩ := r.all x u hx
      exact ⟨y, by simp [hy], hk⟩

theorem toList_modify {α : Type} (a : Array α) (i : Nat) (g : α → α) : (a.modify i g).toList = a.toList.modify i g := by
  simp

theorem MRep.put {G : Value → Prop} {es : Array MapEntry} {f : Value → Option Value} (r : MRep G es f) {j : Nat} {e0 : MapEntry} (hj : es.toList[j]? = some e0) (v : Value) :
    MRep G (es.modify j fun e => { key := e0.key, val := v, born := e.born }) (updF f e0.key (some v)) := by
  have hlt : j < es.toList.length := (List.getElem?_eq_some_iff.1 hj).1
  have hget : ∀ i (x : MapEntry), (es.modify j fun e => { key := e0.key, val := v, born := e.born }).toList[i]? = some x → ∃ y, es.toList[i]? = some y ∧ x.key = y.key ∧ (i = j ∧ x.val = v ∨ i ≠ j ∧ x = y) := by
    intro i x hx
    rw [toList_modify, List.getElem?_modify] at hx
    cases hy : es.toList[i]? with
    | none => rw [hy] at hx; simp at hx
    | some y =>
      rw [hy] at hx
      simp only [Option.map_eq_map, Option.map_some, Option.some.injEq] at hx
      split at hx
      · rename_i e; subst e
        subst hx
        rw [hj] at hy; cases hy
        exact ⟨e0, rfl, rfl, .inl ⟨rfl, rfl⟩⟩
      · rename_i e
        exact ⟨y, rfl, by rw [← hx], .inr ⟨fun e' => e e'.symm, hx.symm⟩⟩
  have hap := List.pairwise_iff_getElem.1 r.apart
  have hne : ∀ i y, es.toList[i]? = some y → i ≠ j → y.key ≠ e0.key := by
    intro i y hy hij
    obtain ⟨hi, rfl⟩ := List.getElem?_eq_some_iff.1 hy
    obtain ⟨hj', rfl⟩ := List.getElem?_eq_some_iff.1 hj
    rcases Nat.lt_or_gt_of_ne hij with h | h
    · exact hap i j hi hj' h
    · exact fun e => hap j i hj' hi h e.symm
  refine ⟨fun e he => ?_, ?_, fun e he => ?_, fun x u hx => ?_⟩
  · obtain ⟨i, hi⟩ := List.mem_iff_getElem?.1 he
    obtain ⟨y, hy, hk, _⟩ := hget i e hi
    rw [hk]; exact r.good y (List.mem_of_getElem? hy)
  · refine List.pairwise_iff_getElem.2 fun i k hi hk hik => ?_
    obtain ⟨y, hy, e1, _⟩ := hget i _ (List.getElem?_eq_getElem hi)
    obtain ⟨z, hz, e2, _⟩ := hget k _ (List.getElem?_eq_getElem hk)
    rw [e1, e2]
    obtain ⟨hi', rfl⟩ := List.getElem?_eq_some_iff.1 hy
    obtain ⟨hk', rfl⟩ := List.getElem?_eq_some_iff.1 hz
    exact hap i k hi' hk' hik
  · obtain ⟨i, hi⟩ := List.mem_iff_getElem?.1 he
    obtain ⟨y, hy, hk, h⟩ := hget i e hi
    rcases h with ⟨rfl, h⟩ | ⟨h, rfl⟩
    · rw [hj] at hy; cases hy; rw [hk, h]; exact updF_self _ _ _
    · rw [updF_ne _ _ (hne i e hy h)]; exact r.val e (List.mem_of_getElem? hy)
  · by_cases e : x = e0.key
    · subst e
      refine ⟨{ key := e0.key, val := v, born := e0.born }, ?_, rfl⟩
      refine List.mem_iff_getElem?.2 ⟨j, ?_⟩
      rw [toList_modify, List.getElem?_modify, hj]; simp
    · rw [updF_ne _ _ e] at hx
      obtain ⟨y, hy, hk⟩ := r.all x u hx
      obtain ⟨i, hi⟩ := List.mem_iff_getElem?.1 hy
      have hij : i ≠ j := fun e' => by subst e'; rw [hj] at hi; cases hi; exact e hk.symm
      refine ⟨y, List.mem_iff_getElem?.2 ⟨i, ?_⟩, hk⟩
      rw [toList_modify, List.getElem?_modify, hi]; simp [Ne.symm hij]

theorem MRep.drop {G : Value → Prop} {es : Array MapEntry} {f : Value → Option Value} (r : MRep G es f) {j : Nat} {e0 : MapEntry} (hj : es.toList[j]? = some e0) :
    MRep G (es.eraseIdxIfInBounds j) (updF f e0.key none) := by
  have hl : (es.eraseIdxIfInBounds j).toList = es.toList.eraseIdx j := by
    have hlt : j < es.size := by have := (List.getElem?_eq_some_iff.1 hj).1; simpa using this
    simp [Array.eraseIdxIfInBounds, hlt]
  have hap := List.pairwise_iff_getElem.1 r.apart
  have hsub : ∀ e, e ∈ (es.eraseIdxIfInBounds j).toList → e ∈ es.toList ∧ e.key ≠ e0.key := by
    intro e he
    rw [hl] at he
    obtain ⟨i, hij, hi⟩ := List.mem_eraseIdx_iff_getElem?.1 he
    refine ⟨List.mem_of_getElem? hi, ?_⟩
    obtain ⟨hi', rfl⟩ := List.getElem?_eq_some_iff.1 hi
    obtain ⟨hj', rfl⟩ := List.getElem?_eq_some_iff.1 hj
    rcases Nat.lt_or_gt_of_ne hij with h | h
    · exact hap i j hi' hj' h
    · exact fun e => hap j i hj' hi' h e.symm
  refine ⟨fun e he => r.good e (hsub e he).1, by rw [hl]; exact r.apart.sublist (List.eraseIdx_sublist _ _), fun e he => ?_, fun x u hx => ?_⟩
  · rw [updF_ne _ _ (hsub e he).2]; exact r.val e (hsub e he).1
  · by_cases e : x = e0.key
    · subst e; rw [updF_self] at hx; cases hx
    · rw [updF_ne _ _ e] at hx
      obtain ⟨y, hy, hk⟩ := r.all x u hx
      refine ⟨y, ?_, hk⟩
      rw [hl]
      obtain ⟨i, hi⟩ := List.mem_iff_getElem?.1 hy
      exact List.mem_eraseIdx_iff_getElem?.2 ⟨i, fun e' => by subst e'; rw [hj] at hi; cases hi; exact e hk.symm, hi⟩

/-! ### the operations -/

def ObjAt (h : RO) (m : Hp) (b : Nat) (x : Obj) : Prop := m b = some x ∨ h.o b = some x
theorem ObjAt.world {h : RO} {m : Hp} {w : World} {b : Nat} {x : Obj} (a : ObjAt h m b x) (hh : h.on w) (hm : m.on w) : w.heap[b]? = some x :=
  a.elim (fun e => hm b x e) (fun e => (hh.o b x e).1)

/-- What a map holds that an operation reads. -/
def mapAt (P : Program) (h : RO) (m : Hp) (kt : Nat) (x k : Value) (K : Option Value → Prop) : Prop :=
  match x with
  | .map none => ∃ G, (KeyT P kt G ∧ G k) ∧ K none
  | .map (some b) => ∃ es clock G f, (ObjAt h m b (.map es clock) ∧ KeyT P kt G ∧ MRep G es f ∧ G k) ∧ K (f k)
  | _ => False

section
variable {P : Program} {T : Nat → TI}

def zeroK (i : TI) : Value := mkV i.agg (zerosL i)
theorem run_zeroK {t : Nat} (hT : TOk P T) (hok : (T t).ok = true) (ho : oneOk (T t)) (w : World) : (zeroValue t).run P w = .ok (zeroK (T t)) w := by
  obtain ⟨inf, z, h1, h2, h3, h4, h5⟩ := (hT t hok).inf
  have ha := (hT t hok).za inf z h1 h4
  have hz : z = zeroK (T t) := by
    unfold zeroK oneOk at *
    cases hg : (T t).agg with
    | true =>
      rw [hg] at ha
      cases z <;> simp [aggV] at ha
      simp only [Value.cells] at h5
      simp only [mkV, zerosL, ← h5]
    | false =>
      rw [hg] at ha ho
      simp only at ho
      split at ho
      · rename_i k hk
        rw [hk] at h5
        simp only [mkV, zerosL, hk, List.map_cons, List.map_nil]
        cases z <;> simp [aggV] at ha <;> simp_all [Value.cells]
      · exact ho.elim
  rw [← hz]
  simp [zeroValue, typeInfo, h1, h4]

def lookK (P : Program) (T : Nat → TI) (h : RO) (m : Hp) (t : Nat) (x k : Value) (ok : Bool) (K : Value → Prop) : Prop :=
  ck (T t).ok <| match (T t).sh with
  | .map kt et => ck (T et).ok <| ck (oneOkB (T et)) <| mapAt P h m kt x k fun r => match ok with
    | true => (match r with | some v => K (.tuple #[v, .bool true]) | none => K (.tuple #[zeroK (T et), .bool false]))
    | false => (match r with | some v => K v | none => K (zeroK (T et)))
  | _ => False

theorem lookK_ok {h : RO} {m : Hp} {t : Nat} {x k : Value} {ok : Bool} {K : Value → Prop} (hT : TOk P T) (hk : lookK P T h m t x k ok K) :
    ∃ v, K v ∧ ∀ w, h.on w → m.on w → (Instr.lookup t x k ok).run P w = .ok v w := by
  replace hk := ck_iff.1 hk
  obtain ⟨h1, hk⟩ := hk
  obtain ⟨d, hd, hs⟩ := under hT h1
  split at hk
  case h_2 => exact hk.elim
  rename_i kt et hsh
  rw [hsh] at hs
  simp only [TI.shOk] at hs
  subst hs
  replace hk := ck_iff.1 hk
  obtain ⟨h2, hk⟩ := hk
  replace hk := ck_iff.1 hk
  obtain ⟨h3, hk⟩ := hk
  replace h3 := oneOkB_ok h3
  have hz := run_zeroK hT h2 h3
  unfold mapAt at hk
  split at hk
  · obtain ⟨G, ⟨hG, hg⟩, hk⟩ := hk
    have hf := fun w => hG.find w hg [] (by simp)
    have hf' : ∀ w, (Instr.findKey kt k []).run P w = .ok none w := fun w => by
      rcases hf w with ⟨a, _⟩ | ⟨j, e, _, b, _⟩
      · exact a
      · simp at b
    cases ok with
    | true => exact ⟨_, hk, fun w _ _ => by simp [Instr.lookup, run_underlying hd, hG.check w _ hg, hf', hz]⟩
    | false => exact ⟨_, hk, fun w _ _ => by simp [Instr.lookup, run_underlying hd, hG.check w _ hg, hf', hz]⟩
  · rename_i b
    obtain ⟨es, clock, G, f, ⟨ho, hG, hr, hg⟩, hk⟩ := hk
    have key : ∀ w, h.on w → m.on w → ((Instr.findKey kt k es.toList).run P w = .ok none w ∧ f k = none) ∨ ∃ j v, (Instr.findKey kt k es.toList).run P w = .ok (some (j, v)) w ∧ f k = some v := by
      intro w _ _
      rcases hG.find w hg es.toList hr.good with ⟨a, b⟩ | ⟨j, e, a, b, c⟩
      · exact .inl ⟨a, hr.none_of b⟩
      · exact .inr ⟨j, e.val, a, by rw [← c]; exact hr.some_of b⟩
    cases hf : f k with
    | none =>
      rw [hf] at hk
      have hr' : ∀ w, h.on w → m.on w → (Instr.findKey kt k es.toList).run P w = .ok none w := fun w a b => by
        rcases key w a b with q | ⟨j, v, _, q⟩
        · exact q.1
        · rw [hf] at q; cases q
      cases ok with
      | true => exact ⟨_, hk, fun w a b => by simp [Instr.lookup, run_underlying hd, MapKept.run_getObj_map (ho.world a b), hG.check w _ hg, hr' w a b, hz, Result.andThen]⟩
      | false => exact ⟨_, hk, fun w a b => by simp [Instr.lookup, run_underlying hd, MapKept.run_getObj_map (ho.world a b), hG.check w _ hg, hr' w a b, hz, Result.andThen]⟩
    | some v =>
      rw [hf] at hk
      have hr' : ∀ w, h.on w → m.on w → ∃ j, (Instr.findKey kt k es.toList).run P w = .ok (some (j, v)) w := fun w a b => by
        rcases key w a b with ⟨_, q⟩ | ⟨j, v', q1, q⟩
        · rw [hf] at q; cases q
        · rw [hf] at q; cases q; exact ⟨j, q1⟩
      cases ok with
      | true => exact ⟨_, hk, fun w a b => by
          obtain ⟨j, q⟩ := hr' w a b
          simp [Instr.lookup, run_underlying hd, MapKept.run_getObj_map (ho.world a b), hG.check w _ hg, q, hz, Result.andThen]⟩
      | false => exact ⟨_, hk, fun w a b => by
          obtain ⟨j, q⟩ := hr' w a b
          simp [Instr.lookup, run_underlying hd, MapKept.run_getObj_map (ho.world a b), hG.check w _ hg, q, hz, Result.andThen]⟩
  · exact hk.elim

/-- 'm[k] = v'. -/
def updK (P : Program) (T : Nat → TI) (m : Hp) (t : Nat) (x k v : Value) (K : Hp → Prop) : Prop :=
  ck (T t).ok <| match (T t).sh, x with
  | .map kt _, .map (some b) => ∃ es clock G f, (m b = some (.map es clock) ∧ KeyT P kt G ∧ MRep G es f ∧ G k) ∧
      ∀ es' clock', MRep G es' (updF f k (some v)) → K (m.set b (.map es' clock'))
  | _, _ => False

theorem updK_ok {m : Hp} {t : Nat} {x k v : Value} {K : Hp → Prop} (hT : TOk P T) (hk : updK P T m t x k v K) (w : World) (hm : m.on w) :
    ∃ b o o', x = .map (some b) ∧ m b = some o ∧ K (m.set b o') ∧ (Instr.mapUpdate t x k v).run P w = .ok () (ChangeMaps.setBlock w b o') := by
  replace hk := ck_iff.1 hk
  obtain ⟨h1, hk⟩ := hk
  obtain ⟨d, hd, hs⟩ := under hT h1
  split at hk
  case h_2 => exact hk.elim
  rename_i kt et b hsh
  rw [hsh] at hs
  simp only [TI.shOk] at hs
  subst hs
  obtain ⟨es, clock, G, f, ⟨ho, hG, hr, hg⟩, hk⟩ := hk
  have hb := hm b _ ho
  rcases hG.find w hg es.toList hr.good with ⟨h1, h2⟩ | ⟨j, e, h1, h2, h3⟩
  · refine ⟨b, _, _, rfl, ho, hk (es.push ⟨k, v, clock⟩) (clock + 1) (hr.push hg h2), ?_⟩
    simp [Instr.mapUpdate, run_underlying hd, MapKept.run_getObj_map hb, hG.check w false hg, h1, MapKept.run_setObj_map _ hb, Result.andThen, ChangeMaps.setBlock]
  · subst h3
    refine ⟨b, _, _, rfl, ho, hk _ clock (hr.put h2 v), ?_⟩
    have h2' : es[j]? = some e := by simpa using h2
    simp [Instr.mapUpdate, run_underlying hd, MapKept.run_getObj_map hb, hG.check w false hg, h1, h2', hG.stays w hg, MapKept.run_setObj_map _ hb, Result.andThen, ChangeMaps.setBlock]

/-- 'delete(m, k)'. -/
def delK (P : Program) (T : Nat → TI) (m : Hp) (t : Nat) (x k : Value) (K : Hp → Prop) : Prop :=
  ck (T t).ok <| match (T t).sh, x with
  | .map kt _, .map (some b) => ∃ es clock G f, (m b = some (.map es clock) ∧ KeyT P kt G ∧ MRep G es f ∧ G k) ∧
      ∀ es' clock', MRep G es' (updF f k none) → K (m.set b (.map es' clock'))
  | _, _ => False

theorem delK_ok {m : Hp} {t t' ty : Nat} {x k : Value} {K : Hp → Prop} (hT : TOk P T) (hk : delK P T m t x k K) (w : World) (hm : m.on w) :
    ∃ b o o', x = .map (some b) ∧ m b = some o ∧ K (m.set b o') ∧ (Builtin.delete_ #[t, t'] ty #[x, k]).run P w = .ok (.tuple #[]) (ChangeMaps.setBlock w b o') := by
  replace hk := ck_iff.1 hk
  obtain ⟨h1, hk⟩ := hk
  obtain ⟨d, hd, hs⟩ := under hT h1
  split at hk
  case h_2 => exact hk.elim
  rename_i kt et b hsh
  rw [hsh] at hs
  simp only [TI.shOk] at hs
  subst hs
  obtain ⟨es, clock, G, f, ⟨ho, hG, hr, hg⟩, hk⟩ := hk
  have hb := hm b _ ho
  rcases hG.find w hg es.toList hr.good with ⟨h1, h2⟩ | ⟨j, e, h1, h2, h3⟩
  · refine ⟨b, _, .map es clock, rfl, ho, hk es clock ?_, ?_⟩
    · have : updF f k none = f := by
        funext x
        by_cases e : x = k
        · subst e; rw [updF_self, hr.none_of h2]
        · rw [updF_ne _ _ e]
      rw [this]; exact hr
    · simp [Builtin.delete_, run_underlying hd, MapKept.run_getObj_map hb, hG.check w _ hg, h1, MapKept.run_setObj_map _ hb, Result.andThen, ChangeMaps.setBlock]
  · subst h3
    refine ⟨b, _, _, rfl, ho, hk _ clock (hr.drop h2), ?_⟩
    simp [Builtin.delete_, run_underlying hd, MapKept.run_getObj_map hb, hG.check w _ hg, h1, MapKept.run_setObj_map _ hb, Result.andThen, ChangeMaps.setBlock]
end

/-! ### bytes to a string -/

def u8s (l : List Int) : ByteArray := ⟨(l.map fun n => UInt8.ofNat n.toNat).toArray⟩
theorem run_bytes {P : Program} {w : World} : ∀ (l : List Int) (s : ByteArray) (f : Value → ByteArray → Sem (ForInStep ByteArray)) , (∀ n s, f (.int .u8 n) s = pure (ForInStep.yield (s.push (UInt8.ofNat n.toNat)))) →
    (forIn (l.map (Value.int .u8)) s f).run P w = .ok (l.foldl (fun s n => s.push (UInt8.ofNat n.toNat)) s) w
  | [], s, f, hf => by simp
  | n :: l, s, f, hf => by
    simp only [List.map_cons, List.forIn_cons, hf, List.foldl_cons]
    have := run_bytes (P := P) (w := w) l (s.push (UInt8.ofNat n.toNat)) f hf
    simpa using this
theorem fold_bytes : ∀ (l : List Int) (s : ByteArray), (l.foldl (fun s n => s.push (UInt8.ofNat n.toNat)) s) = ⟨s.data ++ (l.map fun n => UInt8.ofNat n.toNat).toArray⟩
  | [], s => by simp
  | n :: l, s => by
    rw [List.foldl_cons, fold_bytes l]
    simp [ByteArray.push]
theorem run_bytesToString {P : Program} {h : RO} {w : World} {a : Option Addr} {n c : Nat} {l : List Int} (hr : Row h 1 (.slice a n c) (l.map (.int .u8))) (hw : h.on w) :
    (Conv.bytesToString (.slice a n c)).run P w = .ok (.string (u8s l)) w := by
  obtain ⟨a', n', c', e, h1, h2, h3⟩ := hr
  cases e
  have hl : l.length = n := by simpa using h1
  cases a with
  | none =>
    rcases h3 with h3 | ⟨b, off, e, _⟩
    · have : l = [] := List.eq_nil_of_length_eq_zero (by omega)
      subst this
      simp [Conv.bytesToString, u8s]; rfl
    · cases e
  | some a =>
    have hc := run_loadCells_list (P := P) w a (l.map (.int .u8)) (fun j v e => by
      rcases h3 with h3 | ⟨b, off, e2, h3⟩
      · have : l = [] := List.eq_nil_of_length_eq_zero (by omega)
        subst this; cases e
      · cases e2; rw [add_eq]; exact hw.c _ _ _ (h3 j v e))
    rw [List.length_map, hl] at hc
    simp only [Conv.bytesToString, Sem.run_bind, hc, Result.andThen_ok]
    rw [← Array.forIn_toList, List.toList_toArray, run_bytes l ByteArray.empty _ (fun n s => rfl), fold_bytes]
    simp [u8s]

/-- 'string(b)'. -/
def strK (T : Nat → TI) (h : RO) (s d : Nat) (x : Value) (K : Value → Prop) : Prop :=
  ck (T s).ok <| ck (T d).ok <| match (T s).sh, (T d).sh with
  | .slice e, .str => ck (T e).ok <| match (T e).sh, x with
    | .int .u8, .slice a n c => ∃ l : List Int, Row h 1 (.slice a n c) (l.map (.int .u8)) ∧ K (.string (u8s l))
    | _, _ => False
  | _, _ => False

theorem strK_ok {P : Program} {T : Nat → TI} {h : RO} {s d : Nat} {x : Value} {K : Value → Prop} (hT : TOk P T) (hk : strK T h s d x K) :
    ∃ v, K v ∧ ∀ w, h.on w → (convert s d x).run P w = .ok v w := by
  replace hk := ck_iff.1 hk
  obtain ⟨h1, hk⟩ := hk
  replace hk := ck_iff.1 hk
  obtain ⟨h2, hk⟩ := hk
  obtain ⟨d1, hd1, hs1⟩ := under hT h1
  obtain ⟨d2, hd2, hs2⟩ := under hT h2
  split at hk
  case h_2 => exact hk.elim
  rename_i e e1 e2
  rw [e1] at hs1; rw [e2] at hs2
  simp only [TI.shOk] at hs1 hs2
  subst hs1; subst hs2
  replace hk := ck_iff.1 hk
  obtain ⟨h3, hk⟩ := hk
  obtain ⟨d3, hd3, hs3⟩ := under hT h3
  split at hk
  case h_2 => exact hk.elim
  rename_i a n c e3
  rw [e3] at hs3
  simp only [TI.shOk] at hs3
  subst hs3
  obtain ⟨l, hr, hk⟩ := hk
  refine ⟨_, hk, fun w hw => ?_⟩
  simp [convert, run_underlying hd1, run_underlying hd2, run_underlying hd3, run_bytesToString hr hw]

/-- A block that may be changed is changed, whole. -/
theorem Mem.setM {β : Nat → Nat} {w0 w : World} {h0 h : RO} {m0 m : Hp} {bx : BX} (M : Mem β w0 h0 m0 bx h m w) {b : Nat} {x : Obj} (hg : m b = some x) (x' : Obj) :
    Mem β w0 h0 m0 bx h (m.set b x') (ChangeMaps.setBlock w b x') := by
  have q := M.step.mon b _ hg
  have hlt : b < w.heap.size := (Array.getElem?_eq_some_iff.1 q).1
  have hoth : ∀ k, k ≠ b → (ChangeMaps.setBlock w b x').heap[k]? = w.heap[k]? := fun k hk => by
    simp [ChangeMaps.setBlock, Array.getElem?_setIfInBounds_ne (Ne.symm hk)]
  have hself : (ChangeMaps.setBlock w b x').heap[b]? = some x' := by simp [ChangeMaps.setBlock, hlt]
  have hset : ∀ k, m.set b x' k = none → m k = none ∧ k ≠ b := fun k hk => by
    unfold Hp.set at hk; split at hk
    · cases hk
    · rename_i e; exact ⟨hk, e⟩
  have hset' : ∀ k, m k = none → m.set b x' k = none := fun k hk => by
    unfold Hp.set; split
    · rename_i e; subst e; rw [hg] at hk; cases hk
    · exact hk
  refine ⟨⟨M.step.os, M.step.tape, M.step.output, by simpa [ChangeMaps.setBlock] using M.step.size, fun k hk hm => ?_, M.step.le, ⟨fun b' i v e => ?_, fun b' x e => ?_⟩, fun b' x e => ?_, ⟨fun b' i v e => hset' b' (M.step.disj.c b' i v e), fun b' x e => hset' b' (M.step.disj.o b' x e)⟩, M.step.hnew, M.step.onew, fun b' x e => ?_⟩, ?_, M.ne⟩
  · rcases M.step.mnew b _ hg with h1 | h1
    · rw [hoth k (fun e => by subst e; exact h1 hm)]; exact M.step.same k hk hm
    · rw [hoth k (by omega)]; exact M.step.same k hk hm
  · have hne : b' ≠ b := fun e' => by subst e'; have := M.step.disj.c _ _ _ e; rw [hg] at this; cases this
    have := M.step.hon.c b' i v e
    simp only [World.cell?, hoth b' hne] at this ⊢; exact this
  · have hne : b' ≠ b := fun e' => by subst e'; have := M.step.disj.o _ _ e; rw [hg] at this; cases this
    rw [hoth b' hne]; exact M.step.hon.o b' x e
  · unfold Hp.set at e
    split at e
    · rename_i e'; subst e'; cases e; exact hself
    · rename_i e'; rw [hoth b' e']; exact M.step.mon b' x e
  · unfold Hp.set at e
    split at e
    · rename_i e'; subst e'; exact M.step.mnew _ _ hg
    · exact M.step.mnew b' x e
  · intro i s e
    have hb : ∀ b', s.blk β i = some b' → b' ≠ b := fun b' eb e' => by
      have := (M.blk_lt e eb).2.2.1; subst e'; rw [hg] at this; cases this
    exact (M.ok i s e).kept (RO.le.refl h) (fun b' eb => hoth b' (hb b' eb)) (fun b' eb => hset' b' (M.blk_lt e eb).2.2.1) (fun _ _ _ => rfl) (fun b' eb => (M.blk_lt e eb).2.2.2)
end Go.SX
/-
  SX, part O: rows that lie in blocks that may be changed; appends to them.
-/
namespace Go.SX

/-- A slice over the front of a block that may be changed, alone: it may be appended to. -/
def MRow (m : Hp) (e sz : Nat) (v : Value) (n : Nat) (es : List Value) : Prop :=
  es.length = n * sz ∧ ((v = .slice none 0 0 ∧ n = 0) ∨
    ∃ g cap cur, v = .slice (some ⟨g, 0, none⟩) n cap ∧ m g = some (.cells cur e (0, 0)) ∧ n ≤ cap ∧ cap ≤ maxLen ∧ cur.size = cap * sz ∧ cur.toList.take (n * sz) = es)

theorem MRow.nil (m : Hp) (e sz : Nat) : MRow m e sz (.slice none 0 0) 0 [] := ⟨by simp, .inl ⟨rfl, rfl⟩⟩
theorem MRow.owns {m : Hp} {e sz n : Nat} {v : Value} {es : List Value} (r : MRow m e sz v n es) {w : World} (hm : m.on w) : w.ownsRow 0 e sz v n es := by
  obtain ⟨h1, h2⟩ := r
  refine ⟨h1, h2.imp id ?_⟩
  rintro ⟨g, cap, cur, e1, e2, e3, e4, e5, e6⟩
  exact ⟨g, cap, cur, e1, Nat.zero_le _, hm _ _ e2, e3, e4, e5, e6⟩

section
variable {β : Nat → Nat} {w0 w w' : World} {h0 h : RO} {m0 m : Hp} {bx : BX}

/-- The world grew, and nothing of what was there changed but a block of m. -/
theorem Mem.turn (M : Mem β w0 h0 m0 bx h m w) {b : Nat} {x : Obj} (hg : w.grownBy w' (some b)) (hx : w'.heap[b]? = some x) (hb : m b ≠ none ∨ w.heap.size ≤ b) :
    Mem β w0 h0 m0 bx h (m.set b x) w' := by
  have hlt : ∀ k y, w.heap[k]? = some y → k < w.heap.size := fun k y e => (Array.getElem?_eq_some_iff.1 e).1
  have hoth : ∀ k, k < w.heap.size → k ≠ b → w'.heap[k]? = w.heap[k]? := fun k hk hne => hg.block k hk fun e => hne (by cases e; rfl)
  have hset : ∀ k, m.set b x k = none → m k = none ∧ k ≠ b := fun k hk => by
    unfold Hp.set at hk; split at hk
    · cases hk
    · rename_i e; exact ⟨hk, e⟩
  have hb0 : h.o b = none ∧ ∀ i, h.c b i = none := by
    rcases hb with hb | hb
    · refine ⟨?_, fun i => ?_⟩
      · cases e : h.o b with
        | none => rfl
        | some y => exact absurd (M.step.disj.o _ _ e) hb
      · cases e : h.c b i with
        | none => rfl
        | some y => exact absurd (M.step.disj.c _ _ _ e) hb
    · obtain ⟨f1, f2, f3⟩ := M.free_lt hb
      exact ⟨f3, f2⟩
  have hset' : ∀ k, k ≠ b → m k = none → m.set b x k = none := fun k hne hk => by unfold Hp.set; rw [if_neg hne]; exact hk
  refine ⟨⟨hg.os.trans M.step.os, hg.tape.trans M.step.tape, hg.output.trans M.step.output, Nat.le_trans M.step.size hg.size, fun k hk hm => ?_, M.step.le, ⟨fun b' i v e => ?_, fun b' y e => ?_⟩, fun b' y e => ?_, ⟨fun b' i v e => ?_, fun b' y e => ?_⟩, M.step.hnew, M.step.onew, fun b' y e => ?_⟩, ?_, M.ne⟩
  · have hne : k ≠ b := fun e => by
      subst e
      rcases hb with hb | hb
      · cases e : m k with
        | none => exact hb e
        | some y => rcases M.step.mnew k y e with q | q
                    · exact q hm
                    · omega
      · have := M.step.size; omega
    rw [hoth k (Nat.lt_of_lt_of_le hk M.step.size) hne]; exact M.step.same k hk hm
  · have hne : b' ≠ b := fun e' => by subst e'; rw [hb0.2] at e; cases e
    have hc := M.step.hon.c b' i v e
    have hl : b' < w.heap.size := World.block_lt_of_cell? w ⟨b', i, none⟩ hc
    simp only [World.cell?, hoth b' hl hne] at hc ⊢; exact hc
  · have hne : b' ≠ b := fun e' => by subst e'; rw [hb0.1] at e; cases e
    have := M.step.hon.o b' y e
    rw [hoth b' (hlt _ _ this.1) hne]; exact this
  · unfold Hp.set at e
    split at e
    · rename_i e'; subst e'; cases e; exact hx
    · rename_i e'
      have := M.step.mon b' y e
      rw [hoth b' (hlt _ _ this) e']; exact this
  · exact hset' b' (fun e' => by subst e'; rw [hb0.2] at e; cases e) (M.step.disj.c b' i v e)
  · exact hset' b' (fun e' => by subst e'; rw [hb0.1] at e; cases e) (M.step.disj.o b' y e)
  · unfold Hp.set at e
    split at e
    · rename_i e'; subst e'
      rcases hb with hb | hb
      · cases e2 : m b' with
        | none => exact absurd e2 hb
        | some z => exact M.step.mnew _ _ e2
      · exact .inr (Nat.le_trans M.step.size hb)
    · exact M.step.mnew b' y e
  · intro i s e
    have hne : ∀ b', s.blk β i = some b' → b' ≠ b := fun b' eb e' => by
      have := M.blk_lt e eb
      subst e'
      rcases hb with hb | hb
      · exact hb this.2.2.1
      · omega
    exact (M.ok i s e).kept (RO.le.refl h) (fun b' eb => hoth b' (M.blk_lt e eb).2.1 (hne b' eb)) (fun b' eb => hset' b' (hne b' eb) (M.blk_lt e eb).2.2.1) (fun _ _ _ => rfl) (fun b' eb => (M.blk_lt e eb).2.2.2)

/-- The world grew, and nothing of what was there changed. -/
theorem Mem.grow (M : Mem β w0 h0 m0 bx h m w) (hg : w.grownBy w' none) : Mem β w0 h0 m0 bx h m w' := by
  have hlt : ∀ k y, w.heap[k]? = some y → k < w.heap.size := fun k y e => (Array.getElem?_eq_some_iff.1 e).1
  have hoth : ∀ k, k < w.heap.size → w'.heap[k]? = w.heap[k]? := fun k hk => hg.block k hk (by simp)
  refine ⟨⟨hg.os.trans M.step.os, hg.tape.trans M.step.tape, hg.output.trans M.step.output, Nat.le_trans M.step.size hg.size, fun k hk hm => ?_, M.step.le, ⟨fun b' i v e => ?_, fun b' y e => ?_⟩, fun b' y e => ?_, M.step.disj, M.step.hnew, M.step.onew, M.step.mnew⟩, ?_, M.ne⟩
  · rw [hoth k (Nat.lt_of_lt_of_le hk M.step.size)]; exact M.step.same k hk hm
  · have hc := M.step.hon.c b' i v e
    have hl : b' < w.heap.size := World.block_lt_of_cell? w ⟨b', i, none⟩ hc
    simp only [World.cell?, hoth b' hl] at hc ⊢; exact hc
  · have := M.step.hon.o b' y e
    rw [hoth b' (hlt _ _ this.1)]; exact this
  · have := M.step.mon b' y e
    rw [hoth b' (hlt _ _ this)]; exact this
  · intro i s e
    exact (M.ok i s e).kept (RO.le.refl h) (fun b' eb => hoth b' (M.blk_lt e eb).2.1) (fun b' eb => (M.blk_lt e eb).2.2.1) (fun _ _ _ => rfl) (fun b' eb => (M.blk_lt e eb).2.2.2)

/-- How m turns by an append to a row of m. -/
def Turned (m m' : Hp) (h : RO) (v v' : Value) : Prop := (v'.ownBlock = none ∧ m' = m) ∨ ∃ b x, v'.ownBlock = some b ∧ m' = m.set b x ∧ (v.ownBlock = some b ∨ (m b = none ∧ (∀ i, h.c b i = none) ∧ h.o b = none))

theorem Mem.appRow (M : Mem β w0 h0 m0 bx h m w) {e sz n q : Nat} {v v' : Value} {es es' : List Value} (hr : MRow m e sz v n es) (hown : w'.ownsRow 0 e sz v' q es')
    (hcase : (v'.ownBlock = v.ownBlock ∧ w.grownBy w' v.ownBlock) ∨ (v'.ownBlock = some w.heap.size ∧ w.grownBy w' none)) :
    ∃ m', MRow m' e sz v' q es' ∧ Turned m m' h v v' ∧ Mem β w0 h0 m0 bx h m' w' := by
  obtain ⟨k1, k2⟩ := hown
  rcases k2 with ⟨rfl, rfl⟩ | ⟨g, cap, cur, rfl, -, r2, r3, r4, r5, r6⟩
  · have hn : v.ownBlock = none ∧ w.grownBy w' none := by
      rcases hcase with ⟨a, b⟩ | ⟨a, b⟩
      · have : v.ownBlock = none := by rw [← a]; rfl
        exact ⟨this, by rw [this] at b; exact b⟩
      · simp [Value.ownBlock] at a
    exact ⟨m, ⟨k1, .inl ⟨rfl, rfl⟩⟩, .inl ⟨rfl, rfl⟩, M.grow hn.2⟩
  · refine ⟨m.set g (.cells cur e (0, 0)), ⟨k1, .inr ⟨g, cap, cur, rfl, by simp [Hp.set], r3, r4, r5, r6⟩⟩, .inr ⟨g, _, rfl, rfl, ?_⟩, ?_⟩
    · rcases hcase with ⟨a, b⟩ | ⟨a, b⟩
      · exact .inl (by rw [← a]; rfl)
      · simp [Value.ownBlock] at a; subst a; exact .inr (M.free_lt (Nat.le_refl _))
    · rcases hcase with ⟨a, b⟩ | ⟨a, b⟩
      · have ha : v.ownBlock = some g := by rw [← a]; rfl
        rw [ha] at b
        refine M.turn b r2 (.inl ?_)
        rcases hr.2 with ⟨rfl, _⟩ | ⟨g', cap', cur', rfl, s2, _⟩
        · simp [Value.ownBlock] at ha
        · simp [Value.ownBlock] at ha; subst ha; rw [s2]; simp
      · simp [Value.ownBlock] at a; subst a
        refine M.turn ⟨b.os, b.tape, b.output, b.size, fun k hk _ => b.block k hk (by simp)⟩ r2 (.inr (Nat.le_refl _))

def Hp.unset (m : Hp) (b : Nat) : Hp := fun k => if k = b then Option.none else m k

/-- A row that might be changed becomes readable, and stays as it is. -/
theorem Mem.pubM (M : Mem β w0 h0 m0 bx h m w) {b : Nat} {cs : Array Value} {ty : Nat} {f : Nat × Nat} (hg : m b = some (.cells cs ty f)) :
    ∃ h', h.le h' ∧ (∀ i v, cs[i]? = some v → h'.c b i = some v) ∧ Mem β w0 h0 m0 bx h' (m.unset b) w := by
  have hb0 : ∀ i, h.c b i = none := fun i => by
    cases e : h.c b i with
    | none => rfl
    | some y => have := M.step.disj.c _ _ _ e; rw [hg] at this; cases this
  have hle : h.le ⟨fun k i => if k = b then cs[i]? else h.c k i, h.o⟩ := ⟨fun k i v e => by
    simp only
    split
    · rename_i eb; subst eb; rw [hb0 i] at e; cases e
    · exact e, fun _ _ e => e⟩
  have q := M.step.mon b _ hg
  have hun : ∀ k, m k = none → m.unset b k = none := fun k hk => by unfold Hp.unset; split <;> simp [hk]
  refine ⟨_, hle, fun i v e => by simp [e], ⟨⟨M.step.os, M.step.tape, M.step.output, M.step.size, M.step.same, M.step.le.trans hle, ⟨fun k i v e => ?_, M.step.hon.o⟩, fun k x e => ?_, ⟨fun k i v e => ?_, fun k x e => hun k (M.step.disj.o k x e)⟩, fun k i v e => ?_, M.step.onew, fun k x e => ?_⟩, ?_, M.ne⟩⟩
  · simp only at e
    split at e
    · rename_i eb; subst eb
      simp only [World.cell?, q]; simpa using e
    · exact M.step.hon.c k i v e
  · unfold Hp.unset at e
    split at e
    · cases e
    · exact M.step.mon k x e
  · simp only at e
    split at e
    · rename_i eb; subst eb; simp [Hp.unset]
    · exact hun k (M.step.disj.c k i v e)
  · simp only at e
    split at e
    · rename_i eb; subst eb
      rcases M.step.mnew k _ hg with q | q
      · exact .inr (.inr q)
      · exact .inr (.inl q)
    · exact M.step.hnew k i v e
  · unfold Hp.unset at e
    split at e
    · cases e
    · exact M.step.mnew k x e
  · intro i s e
    have hne : ∀ b', s.blk β i = some b' → b' ≠ b := fun b' eb e' => by
      have := (M.blk_lt e eb).2.2.1; subst e'; rw [hg] at this; cases this
    exact (M.ok i s e).kept hle (fun _ _ => rfl) (fun b' eb => hun b' (M.blk_lt e eb).2.2.1) (fun b' k eb => by simp [hne b' eb]) (fun b' eb => (M.blk_lt e eb).2.2.2)
end
end Go.SX
/-
  SX, part K: all operations in one ('opM'), and that what it asks is enough.
-/
namespace Go.SX

/-- The operands whose private things must be readable when the operation runs. -/
def needPub : Op → List Operand
  | .box _ x => [x]
  | .build _ ps => ps.toList.map (·.2)
  | .buildSlice _ _ ps => ps.toList.map (·.2)
  | .store _ _ x => [x]
  | .makeInterface _ x => [x]
  | .makeFunc _ f c => f.toList ++ c.toList
  | .slice _ x _ _ _ => [x]
  | .mapUpdate _ _ k v => [k, v]
  | .call { callee := .value f, args, argTypes := _ } => f :: args.toList
  | .panic x => [x]
  | _ => []

/-- Behind a call. -/
def Resume (C : Cx) (k : List It) (d : Option Nat) (ρ : Fr) (bx : BX) : Ending → RO → Hp → Prop
  | .returned v, h, m => Sx C k (upd ρ d (.v v)) bx h m
  | .panicked ch, h, m => C.R (.panicked ch) h m
  | .outgrown, _, _ => False

/-- What is appended. -/
def newsK (bx : BX) (h : RO) (sz : Nat) (s : SV) (K : List Value → Nat → Prop) : Prop :=
  match s with
  | .arr id n => match BX.get bx id with
    | some (.box cs _) => ck (Nat.beq (lenL cs) (n * sz)) <| ck (okCB cs) <| K cs n
    | some (.pub _ cs) => ck (Nat.beq (lenL cs) (n * sz)) <| ck (okCB cs) <| K cs n
    | _ => False
  | .v (.slice a n c) => ∃ news, Row h sz (.slice a n c) news ∧ (∀ u ∈ news, u.oneCell' = true) ∧ K news n
  | .own _ (.slice a n c) => ∃ news, Row h sz (.slice a n c) news ∧ (∀ u ∈ news, u.oneCell' = true) ∧ K news n
  | _ => False

def appK (T : Nat → TI) (ρ : Fr) (bx : BX) (h : RO) (m : Hp) (d : Option Nat) (t : Nat) (x y : Operand) (K : SV → BX → RO → Hp → Prop) : Prop :=
  ck (T t).ok <| match (T t).sh with
  | .slice e => ck (T e).ok <| ck (Nat.ble 1 (lenL (T e).ks)) <| ck (Nat.ble 1 (T e).bytes) <| match d with
    | some d => ev ρ y fun sy => newsK bx h (lenL (T e).ks) sy fun news q => ev ρ x fun sx => match sx with
      | .v (.slice none 0 0) => q * (T e).bytes ≤ 140737488355328 ∧
          ∀ a c h', h.le h' → Row h' (lenL (T e).ks) (.slice a q c) news →
            K (.own d (.slice a q c)) ((d, .row (.slice a q c) e (lenL (T e).ks) q news) :: bx) h' m
      | .own id v => match BX.get bx id with
        | some (.row u e' sz n es) => ck (Nat.beq e' e) <| ck (Nat.beq sz (lenL (T e).ks)) <| v = u ∧ (n + q) * (T e).bytes ≤ 140737488355328 ∧
          ∀ a c h', h.le h' → Row h' (lenL (T e).ks) (.slice a (n + q) c) (es ++ news) →
            K (.own d (.slice a (n + q) c)) ((d, .row (.slice a (n + q) c) e (lenL (T e).ks) (n + q) (es ++ news)) :: (id, .dead) :: bx) h' m
        | _ => False
      | .arr id n => match BX.get bx id with
        | some (.box cs e') => ck (Nat.beq e' e) <| ck (Nat.beq (lenL cs) (n * lenL (T e).ks)) <| (n + q) * (T e).bytes ≤ 140737488355328 ∧
          ∀ a c h', h.le h' → Row h' (lenL (T e).ks) (.slice a (n + q) c) (cs ++ news) →
            K (.own d (.slice a (n + q) c)) ((d, .row (.slice a (n + q) c) e (lenL (T e).ks) (n + q) (cs ++ news)) :: (id, .dead) :: bx) h' m
        | _ => False
      | _ => False
    | none => False
  | _ => False

/-- An append to a row of a block that may be changed. -/
def appM (T : Nat → TI) (ρ : Fr) (bx : BX) (h : RO) (m : Hp) (t : Nat) (x y : Operand) (K : SV → BX → RO → Hp → Prop) : Prop :=
  ck (T t).ok <| match (T t).sh with
  | .slice e => ck (T e).ok <| ck (Nat.ble 1 (lenL (T e).ks)) <| ck (Nat.ble 1 (T e).bytes) <|
    ev ρ y fun sy => newsK bx h (lenL (T e).ks) sy fun news q => evP ρ bx x fun v => ∃ n es, (MRow m e (lenL (T e).ks) v n es ∧ (n + q) * (T e).bytes ≤ 140737488355328) ∧
      ∀ v' m', MRow m' e (lenL (T e).ks) v' (n + q) (es ++ news) → Turned m m' h v v' → K (.v v') bx h m'
  | _ => False

def isZero : Operand → Bool
  | .const (.int _ (.ofNat 0)) => true
  | _ => false

/-- A new array: private, or one that may be changed. -/
def newAM (esc : List Nat) (ρ : Fr) (bx : BX) (h : RO) (m : Hp) (d : Option Nat) (n : Nat) (cells : List Value) (ty : Nat) (K : SV → BX → Hp → Prop) : Prop :=
  match d with
  | some d' => match memN d' esc with
    | true => ∀ b, m b = none → (∀ i, h.c b i = none) → h.o b = none → K (.v (.slice (some ⟨b, 0, none⟩) n n)) bx (m.set b (.cells cells.toArray ty))
    | false => newA ρ bx d n cells ty fun s bx' => K s bx' m
  | none => False

def makeK (T : Nat → TI) (esc : List Nat) (ρ : Fr) (bx : BX) (h : RO) (m : Hp) (d : Option Nat) (t : Nat) (l c : Operand) (K : SV → BX → RO → Hp → Prop) : Prop :=
  ck (T t).ok <| match (T t).sh with
  | .slice e => ck (T e).ok <| ck (Nat.ble 1 (lenL (T e).ks)) <| ck (Nat.ble 1 (T e).bytes) <| evP ρ bx l fun u => evP ρ bx c fun v => match u, v with
    | .int _ a, .int _ b => match isZero l with
      | true => match d with
        | some d => match memN d esc with
          | true => (a = 0 ∧ 0 ≤ b ∧ b * (T e).bytes ≤ 140737488355328) ∧ ∀ (x : Nat) (cs : List Value), m x = none → (∀ i, h.c x i = none) → h.o x = none → cs.length = b.toNat * lenL (T e).ks →
              K (.v (.slice (some ⟨x, 0, none⟩) 0 b.toNat)) bx h (m.set x (.cells cs.toArray e))
          | false => ck (Fr.freeB d ρ) <| (a = 0 ∧ 0 ≤ b ∧ b * (T e).bytes ≤ 140737488355328) ∧ ∀ x cp, Row h (lenL (T e).ks) (.slice x 0 cp) [] →
            K (.own d (.slice x 0 cp)) ((d, .row (.slice x 0 cp) e (lenL (T e).ks) 0 []) :: bx) h m
        | none => False
      | false => (a = b ∧ 0 ≤ a ∧ a * (T e).bytes ≤ 140737488355328) ∧ newAM esc ρ bx h m d a.toNat (repZ a.toNat (zerosL (T e))) e fun s bx' m' => K s bx' h m'
    | _, _ => False
  | _ => False

def opM (P : Program) (T : Nat → TI) (esc : List Nat) (ρ : Fr) (bx : BX) (h : RO) (m : Hp) (d : Option Nat) (op : Op) (ty : Nat)
    (K : SV → BX → RO → Hp → Prop) (Kc : Ending → RO → Hp → Prop) : Prop :=
  match op with
  | .load t x => ev ρ x fun s => loadK T bx h m t s fun v => K (.v v) bx h m
  | .store t a x => ev ρ a fun s => evP ρ bx x fun v => storeK T bx m t s v fun bx' m' => K (.v undef) bx' h m'
  | .alloc t => ck (T t).ok <| newK esc ρ bx h m d (zerosL (T t)) t fun s bx' m' => K s bx' h m'
  | .box t x => evP ρ bx x fun v => newK esc ρ bx h m d (cellsL v) t fun s bx' m' => K s bx' h m'
  | .buildSlice t n ps => ck (T t).ok <| match (T t).sh with
    | .slice e => ck (T e).ok <| ck (Nat.ble (n * lenL (T e).ks) 16777216) <| evPart ρ bx ps.toList fun vs =>
        fillV T (fun i => some (i * lenL (T e).ks, lenL (T e).ks)) (repZ n (zerosL (T e))) vs fun cs => newAM esc ρ bx h m d n cs e fun s bx' m' => K s bx' h m'
    | _ => False
  | .makeSlice t l c => makeK T esc ρ bx h m d t l c K
  | .lookup t x k ok => evP ρ bx x fun u => evP ρ bx k fun v => lookK P T h m t u v ok fun r => K (.v r) bx h m
  | .mapUpdate t x k y => evP ρ bx x fun u => evP ρ bx k fun v => evP ρ bx y fun r => updK P T m t u v r fun m' => K (.v undef) bx h m'
  | .convert s d x => match (T s).sh with
    | .slice _ => evP ρ bx x fun u => strK T h s d u fun r => K (.v r) bx h m
    | _ => opV T ρ bx (.convert s d x) ty fun s => K s bx h m
  | .makeMap _ none => ∀ b, m b = none → (∀ i, h.c b i = none) → h.o b = none → K (.v (.map (some b))) bx h (m.set b (.map #[] 0))
  | .call { callee := .builtin .delete, args, argTypes } => match args.toList, argTypes.toList with
    | [x, k], [t, _] => evP ρ bx x fun u => evP ρ bx k fun v => delK P T m t u v fun m' => K (.v (.tuple #[])) bx h m'
    | _, _ => False
  | .call { callee := .builtin .append, args, argTypes } => match args.toList, argTypes.toList with
    | [x, y], [t, t'] => ck (Nat.beq t t') <| match d with
      | some d' => match memN d' esc with
        | true => appM T ρ bx h m t x y K
        | false => appK T ρ bx h m d t x y K
      | none => False
    | _, _ => False
  | .call { callee := .value f, args, argTypes := _ } => evP ρ bx f fun fv => evPs ρ bx args.toList fun vs => match fv with
    | .func (.func g) first cap => Con P g (first.toList ++ vs ++ cap.toList) h m Kc
    | _ => False
  | op => opV T ρ bx op ty fun s => K s bx h m

section
variable {C : Cx} {k : List It} {ρ : Fr} {bx : BX} {h : RO} {m : Hp} {T : Nat → TI}

theorem newK_does {KK : Act → World → Prop} {Q : Exit → Act → World → Prop} {o : Oper} {a : Act} {w : World} {esc : List Nat} {cells : List Value} {ty : Nat} {K : SV → BX → Hp → Prop}
    (hK : ∀ s bx' m', K s bx' m' → SK C KK (upd ρ o.dst s) bx' h m')
    (s : Sat C.nt C.w0 C.h0 C.m0 ρ bx h m a w) (hdst : dstOk C.nt o.dst)
    (hk : newK esc ρ bx h m o.dst cells ty K)
    (hrun : (execOp a.eval o).run C.P w = .ok (.value (.pointer (some ⟨w.heap.size, 0, none⟩))) (w.alloc (.cells cells.toArray ty))) : Does C KK Q o a w := by
  obtain ⟨β, M, F⟩ := s.parts
  unfold newK at hk
  split at hk
  · rename_i d hd
    split at hk
    · obtain ⟨f1, f2, f3, M'⟩ := M.newM (.cells cells.toArray ty)
      exact does_value s.size s.defers hdst F.f M' (s := .v (.pointer (some ⟨w.heap.size, 0, none⟩))) (by simpa [conc] using hrun) (hK _ _ _ (hk _ f1 f2 f3))
    · replace hk := ck_iff.1 hk
      obtain ⟨hfree, hk⟩ := hk
      replace hfree := Fr.freeB_ok hfree
      have M' := M.alloc d cells ty
      exact does_value (β := fun i => if i = d then w.heap.size else β i) s.size s.defers hdst (free_conc hfree F.f) M' (s := .loc d 0) (by simpa [conc] using hrun) (hK _ _ _ hk)
  · exact hk.elim

theorem newA_does {KK : Act → World → Prop} {Q : Exit → Act → World → Prop} {o : Oper} {a : Act} {w : World} {cells : List Value} {ty n : Nat} {K : SV → BX → Prop}
    (hK : ∀ s bx', K s bx' → SK C KK (upd ρ o.dst s) bx' h m)
    (s : Sat C.nt C.w0 C.h0 C.m0 ρ bx h m a w) (hdst : dstOk C.nt o.dst)
    (hk : newA ρ bx o.dst n cells ty K)
    (hrun : (execOp a.eval o).run C.P w = .ok (.value (.slice (some ⟨w.heap.size, 0, none⟩) n n)) (w.alloc (.cells cells.toArray ty))) : Does C KK Q o a w := by
  obtain ⟨β, M, F⟩ := s.parts
  unfold newA at hk
  split at hk
  · rename_i d hd
    replace hk := ck_iff.1 hk
    obtain ⟨hfree, hk⟩ := hk
    replace hfree := Fr.freeB_ok hfree
    have M' := M.alloc d cells ty
    exact does_value (β := fun i => if i = d then w.heap.size else β i) s.size s.defers hdst (free_conc hfree F.f) M' (s := .arr d n) (by simpa [conc] using hrun) (hK _ _ hk)
  · exact hk.elim

theorem newAM_does {KK : Act → World → Prop} {Q : Exit → Act → World → Prop} {o : Oper} {a : Act} {w : World} {esc : List Nat} {cells : List Value} {ty n : Nat} {K : SV → BX → Hp → Prop}
    (hK : ∀ s bx' m', K s bx' m' → SK C KK (upd ρ o.dst s) bx' h m')
    (s : Sat C.nt C.w0 C.h0 C.m0 ρ bx h m a w) (hdst : dstOk C.nt o.dst)
    (hk : newAM esc ρ bx h m o.dst n cells ty K)
    (hrun : (execOp a.eval o).run C.P w = .ok (.value (.slice (some ⟨w.heap.size, 0, none⟩) n n)) (w.alloc (.cells cells.toArray ty))) : Does C KK Q o a w := by
  obtain ⟨β, M, F⟩ := s.parts
  unfold newAM at hk
  split at hk
  · split at hk
    · obtain ⟨f1, f2, f3, M'⟩ := M.newM (.cells cells.toArray ty)
      exact does_value s.size s.defers hdst F.f M' (s := .v (.slice (some ⟨w.heap.size, 0, none⟩) n n)) (by simpa [conc] using hrun) (hK _ _ _ (hk _ f1 f2 f3))
    · exact newA_does (fun s bx' q => hK _ _ _ q) s hdst hk hrun
  · exact hk.elim

theorem newsK_ok {β : Nat → Nat} {w0 : World} {h0 : RO} {m0 : Hp} {w : World} {sz : Nat} {s : SV} {K : List Value → Nat → Prop} (M : Mem β w0 h0 m0 bx h m w) (hk : newsK bx h sz s K) :
    ∃ news q, K news q ∧ news.length = q * sz ∧ (∀ x ∈ news, x.oneCell' = true) ∧
      ((conc β s = .slice none 0 0 ∧ q = 0) ∨ ∃ a c, conc β s = .slice (some a) q c ∧ ∀ j x, news[j]? = some x → w.cell? (a.add j) = some x) := by
  have key : ∀ {h : RO} {a : Option Addr} {n c : Nat} {news : List Value}, h.on w → Row h sz (.slice a n c) news → news.length = n * sz ∧
      ((Value.slice a n c = .slice none 0 0 ∧ n = 0) ∨ ∃ a' c', Value.slice a n c = .slice (some a') n c' ∧ ∀ j x, news[j]? = some x → w.cell? (a'.add j) = some x) := by
    intro h a n c news hon hr
    obtain ⟨a', n', c', he, hl, hle, hr⟩ := hr
    cases he
    refine ⟨hl, ?_⟩
    rcases hr with ⟨rfl, rfl⟩ | ⟨b, off, rfl, hc⟩
    · cases a with
      | none => exact .inl ⟨rfl, rfl⟩
      | some a =>
        refine .inr ⟨a, _, rfl, fun j x e => ?_⟩
        have : news = [] := List.eq_nil_of_length_eq_zero (by simpa using hl)
        subst this; cases e
    · exact .inr ⟨_, _, rfl, fun j x e => by rw [add_eq]; exact hon.c _ _ _ (hc j x e)⟩
  unfold newsK at hk
  split at hk
  · rename_i id n
    split at hk
    · rename_i cs ty hg
      replace hk := ck_beq hk
      obtain ⟨h1, hk⟩ := hk
      replace hk := ck_iff.1 hk
      obtain ⟨h2, hk⟩ := hk
      replace h2 := okCB_ok h2
      obtain ⟨p, q⟩ := M.ok id _ hg
      rw [lenL_eq] at h1
      refine ⟨cs, n, hk, h1, okC_one h2, .inr ⟨⟨β id, 0, none⟩, n, rfl, fun j x e => ?_⟩⟩
      rw [add_eq, Nat.zero_add]
      simp only [World.cell?, q]; simpa using e
    · rename_i b cs hg
      obtain ⟨hb, hcs⟩ := M.ok id _ hg
      replace hk := ck_beq hk
      obtain ⟨h1, hk⟩ := hk
      replace hk := ck_iff.1 hk
      obtain ⟨h2, hk⟩ := hk
      replace h2 := okCB_ok h2
      rw [lenL_eq] at h1
      refine ⟨cs, n, hk, h1, okC_one h2, .inr ⟨⟨β id, 0, none⟩, n, rfl, fun j x e => ?_⟩⟩
      rw [add_eq, Nat.zero_add, hb]
      exact M.step.hon.c _ _ _ (hcs j x e)
    · exact hk.elim
  · obtain ⟨news, hr, h1, hk⟩ := hk
    obtain ⟨hl, hc⟩ := key M.step.hon hr
    exact ⟨news, _, hk, hl, h1, hc⟩
  · obtain ⟨news, hr, h1, hk⟩ := hk
    obtain ⟨hl, hc⟩ := key M.step.hon hr
    exact ⟨news, _, hk, hl, h1, hc⟩
  · exact hk.elim

theorem exec_append {P : Program} {a : Act} {w w' : World} {dst : Option Tmp} {x y : Operand} {t ty : Nat} {pos : String} {after : Array Edge} {guard : Option (Nat × Bool)} {v' : Value}
    (hr : (Builtin.append_ #[t, t] ty #[a.eval x, a.eval y]).run P w = .ok v' w') :
    (execOp a.eval { dst, op := .call { callee := .builtin .append, args := #[x, y], argTypes := #[t, t] }, type := ty, pos, after, guard }).run P w = .ok (.value v') w' := by
  simp [execOp, resolve, invoke, builtin, hr]

theorem own_slice {w : World} {B e sz n : Nat} {v : Value} {es : List Value} (h : w.ownsRow B e sz v n es) : ∃ a c, v = .slice a n c := by
  rcases h.2 with ⟨rfl, rfl⟩ | ⟨g, cap, cur, rfl, _⟩
  · exact ⟨_, _, rfl⟩
  · exact ⟨_, _, rfl⟩

theorem appK_does {KK : Act → World → Prop} {Q : Exit → Act → World → Prop} {a : Act} {w : World} {dst : Option Tmp} {x y : Operand} {t ty : Nat} {pos : String} {after : Array Edge} {guard : Option (Nat × Bool)} {K : SV → BX → RO → Hp → Prop}
    (hK0 : ∀ s bx' h' m', h.le h' → K s bx' h' m' → SK C KK (upd ρ dst s) bx' h' m')
    (hT : TOk C.P T) (s : Sat C.nt C.w0 C.h0 C.m0 ρ bx h m a w) (hdst : dstOk C.nt dst)
    (hk : appK T ρ bx h m dst t x y K) :
    Does C KK Q { dst, op := .call { callee := .builtin .append, args := #[x, y], argTypes := #[t, t] }, type := ty, pos, after, guard } a w := by
  obtain ⟨β, M, F⟩ := s.parts
  replace hk := ck_iff.1 hk
  obtain ⟨h1, hk⟩ := hk
  obtain ⟨td, hd, hs⟩ := under hT h1
  split at hk
  case h_2 => exact hk.elim
  rename_i e hsh
  rw [hsh] at hs
  simp only [TI.shOk] at hs
  subst hs
  replace hk := ck_iff.1 hk
  obtain ⟨h2, hk⟩ := hk
  replace hk := ck_ble hk
  obtain ⟨h3, hk⟩ := hk
  replace hk := ck_ble hk
  obtain ⟨h4, hk⟩ := hk
  obtain ⟨inf, z, i1, i2, i3, i4, i5, i6⟩ := run_info hT h2
  rw [lenL_eq] at h3
  have hzs : z.cells.size = (T e).ks.length := by have := congrArg List.length i6; simpa using this
  split at hk
  case h_2 => exact hk.elim
  rename_i d
  obtain ⟨sy, hk, hy⟩ := F.ev hk
  obtain ⟨news, q, hk, hnl, hn1, hnc⟩ := newsK_ok M hk
  obtain ⟨sx, hk, hx⟩ := F.ev hk
  rw [← hy] at hnc
  rw [lenL_eq] at hnl
  -- the row that is appended to, under the number id
  have main : ∀ {h1 : RO} {bx1 : BX} {id n : Nat} {u : Value} {es : List Value}, Mem β C.w0 C.h0 C.m0 bx1 h1 m w → BX.get bx1 id = some (.row u e (T e).ks.length n es) → a.eval x = u →
      (n + q) * (T e).bytes ≤ 140737488355328 →
      (∀ a' c' h', h1.le h' → Row h' (T e).ks.length (.slice a' (n + q) c') (es ++ news) →
        SK C KK (upd ρ (some d) (.own d (.slice a' (n + q) c'))) ((d, .row (.slice a' (n + q) c') e (T e).ks.length (n + q) (es ++ news)) :: (id, .dead) :: bx1) h' m) →
      Does C KK Q { dst := some d, op := .call { callee := .builtin .append, args := #[x, y], argTypes := #[t, t] }, type := ty, pos, after, guard } a w := by
    intro h1 bx1 id n u es M1 hg hu hb hK
    obtain ⟨hown, hpr⟩ := M1.ok id _ hg
    have h63 : n + q ≤ maxLen := by
      have : n + q ≤ (n + q) * (T e).bytes := Nat.le_mul_of_pos_right _ h4
      simp only [maxLen]; omega
    obtain ⟨v', w', hr, hown', hcase⟩ := run_app (P := C.P) (w := w) t ty e inf z (T e).ks.length hd i2 i5 i3 hzs u n es hown (a.eval y) q news hnc hnl hn1 h63 (by rw [i4]; exact hb) M1.step.size
    have hel : es.length = n * (T e).ks.length := hown.1
    obtain ⟨h', hle, hrow, M'⟩ := M1.append (d := d) hg hown' hcase (Nat.le_add_right _ _) (fun i hi => by rw [List.getElem?_append_left (by omega)])
    obtain ⟨a', c', rfl⟩ := own_slice hown'
    exact does_value s.size s.defers hdst F.f M' (s := .own d (.slice a' (n + q) c')) (by rw [← hu] at hr; exact exec_append hr) (hK a' c' h' hle hrow)
  split at hk
  · obtain ⟨hb, hk⟩ := hk
    simp only [lenL_eq] at hk
    -- a nil slice: as a row under a number of its own
    have hid : ∃ id, BX.get bx id = none ∧ id ≠ d := by
      have hfin : ∀ l : BX, ∃ N, ∀ i, N ≤ i → BX.get l i = none := by
        intro l
        induction l with
        | nil => exact ⟨0, fun _ _ => rfl⟩
        | cons p l ih =>
          obtain ⟨N, hN⟩ := ih
          refine ⟨max N (p.1 + 1), fun i hi => ?_⟩
          rw [show p = (p.1, p.2) from rfl, BX.get_cons, if_neg (by omega)]
          exact hN i (by omega)
      obtain ⟨N, hN⟩ := hfin bx
      exact ⟨N + d + 1, hN _ (by omega), by omega⟩
    obtain ⟨id, hid1, hid2⟩ := hid
    have M1 := M.nilRow id e (T e).ks.length
    refine main (n := 0) (es := []) M1 (by rw [BX.get_cons, if_pos rfl]; rfl) hx (by simpa using hb) ?_
    intro a' c' h' hle hrow
    simp only [Nat.zero_add, List.nil_append] at hrow ⊢
    refine sk_bx (hK0 _ _ _ _ hle (hk a' c' h' hle hrow)) ?_
    intro i b hi
    simp only [BX.get_cons] at hi ⊢
    by_cases e1 : d = i
    · simpa [e1] using hi
    · have e2 : id ≠ i := fun e => by subst e; simp [e1, hid1] at hi
      simpa [e1, e2] using hi
  · rename_i id v
    split at hk
    · rename_i u e' sz n es hg
      replace hk := ck_beq hk
      obtain ⟨rfl, hk⟩ := hk
      replace hk := ck_beq hk
      obtain ⟨rfl, hk⟩ := hk
      obtain ⟨rfl, hb, hk⟩ := hk
      simp only [lenL_eq] at hk hg
      exact main M hg hx hb (fun a' c' h' q1 q2 => hK0 _ _ _ _ q1 (hk a' c' h' q1 q2))
    · exact hk.elim
  · rename_i id n
    split at hk
    · rename_i cs e' hg
      replace hk := ck_beq hk
      obtain ⟨rfl, hk⟩ := hk
      replace hk := ck_beq hk
      obtain ⟨hl, hb, hk⟩ := hk
      simp only [lenL_eq] at hl hk
      have hnm : n ≤ maxLen := by
        have : n + q ≤ (n + q) * (T e').bytes := Nat.le_mul_of_pos_right _ h4
        simp only [maxLen]; omega
      obtain ⟨h', hle, M1⟩ := M.boxRow hg hl hnm
      refine main (n := n) (es := cs) M1 (by rw [BX.get_cons, if_pos rfl]; rfl) hx hb ?_
      intro a' c' h'' hle' hrow
      refine sk_bx (hK0 _ _ _ _ (hle.trans hle') (hk a' c' h'' (hle.trans hle') hrow)) ?_
      intro i b hi
      simp only [BX.get_cons] at hi ⊢
      by_cases e1 : d = i
      · simpa [e1] using hi
      · by_cases e2 : id = i
        · simpa [e1, e2] using hi
        · simpa [e1, e2] using hi
    · exact hk.elim
  · exact hk.elim

theorem appM_does {KK : Act → World → Prop} {Q : Exit → Act → World → Prop} {a : Act} {w : World} {dst : Option Tmp} {x y : Operand} {t ty : Nat} {pos : String} {after : Array Edge} {guard : Option (Nat × Bool)} {K : SV → BX → RO → Hp → Prop}
    (hK0 : ∀ s bx' h' m', h.le h' → K s bx' h' m' → SK C KK (upd ρ dst s) bx' h' m')
    (hT : TOk C.P T) (s : Sat C.nt C.w0 C.h0 C.m0 ρ bx h m a w) (hdst : dstOk C.nt dst)
    (hk : appM T ρ bx h m t x y K) :
    Does C KK Q { dst, op := .call { callee := .builtin .append, args := #[x, y], argTypes := #[t, t] }, type := ty, pos, after, guard } a w := by
  obtain ⟨β, M, F⟩ := s.parts
  replace hk := ck_iff.1 hk
  obtain ⟨h1, hk⟩ := hk
  obtain ⟨td, hd, hs⟩ := under hT h1
  split at hk
  case h_2 => exact hk.elim
  rename_i e hsh
  rw [hsh] at hs
  simp only [TI.shOk] at hs
  subst hs
  replace hk := ck_iff.1 hk
  obtain ⟨h2, hk⟩ := hk
  replace hk := ck_ble hk
  obtain ⟨h3, hk⟩ := hk
  replace hk := ck_ble hk
  obtain ⟨h4, hk⟩ := hk
  obtain ⟨inf, z, i1, i2, i3, i4, i5, i6⟩ := run_info hT h2
  rw [lenL_eq] at h3
  have hzs : z.cells.size = (T e).ks.length := by have := congrArg List.length i6; simpa using this
  obtain ⟨sy, hk, hy⟩ := F.ev hk
  obtain ⟨news, q, hk, hnl, hn1, hnc⟩ := newsK_ok M hk
  obtain ⟨v, hk, hx⟩ := F.evP hk
  obtain ⟨n, es, ⟨hr, hb⟩, hk⟩ := hk
  rw [← hy] at hnc
  simp only [lenL_eq] at hr hk hnl
  have h63 : n + q ≤ maxLen := by
    have : n + q ≤ (n + q) * (T e).bytes := Nat.le_mul_of_pos_right _ h4
    simp only [maxLen]; omega
  obtain ⟨v', w', hrun, hown', hcase⟩ := run_app (P := C.P) (w := w) (base := 0) t ty e inf z (T e).ks.length hd i2 i5 i3 hzs v n es (hr.owns M.step.mon) (a.eval y) q news hnc hnl hn1 h63 (by rw [i4]; exact hb) (Nat.zero_le _)
  obtain ⟨m', hr', ht, M'⟩ := M.appRow hr hown' hcase
  exact does_value s.size s.defers hdst F.f M' (s := .v v') (by rw [← hx] at hrun; exact exec_append hrun) (hK0 _ _ _ _ (RO.le.refl h) (hk v' m' hr' ht))
end
end Go.SX
/-
  SX, part L: the walk as a function of the code: 'vc'; that it is sound: 'go'; a function's contract: 'fn_of'.
-/
namespace Go.SX
section
variable {C : Cx} {k : List It} {ρ : Fr} {bx : BX} {h : RO} {m : Hp} {T : Nat → TI}

theorem opV_does {KK : Act → World → Prop} {Q : Exit → Act → World → Prop} {o : Oper} {a : Act} {w : World} {K : SV → Prop} (hK : ∀ s, K s → SK C KK (upd ρ o.dst s) bx h m)
    (hT : TOk C.P T) (s : Sat C.nt C.w0 C.h0 C.m0 ρ bx h m a w) (hdst : dstOk C.nt o.dst)
    (hk : opV T ρ bx o.op o.type K) : Does C KK Q o a w := by
  obtain ⟨β, M, F⟩ := s.parts
  obtain ⟨sv, hs, hr⟩ := opV_ok hT F hk
  exact does_value s.size s.defers hdst F.f M (hr w) (hK _ hs)

theorem makeK_does {KK : Act → World → Prop} {Q : Exit → Act → World → Prop} {a : Act} {w : World} {dst : Option Tmp} {l c : Operand} {t ty : Nat} {pos : String} {after : Array Edge} {guard : Option (Nat × Bool)} {esc : List Nat} {K : SV → BX → RO → Hp → Prop}
    (hK0 : ∀ s bx' h' m', h.le h' → K s bx' h' m' → SK C KK (upd ρ dst s) bx' h' m')
    (hT : TOk C.P T) (s : Sat C.nt C.w0 C.h0 C.m0 ρ bx h m a w) (hdst : dstOk C.nt dst)
    (hk : makeK T esc ρ bx h m dst t l c K) :
    Does C KK Q { dst, op := .makeSlice t l c, type := ty, pos, after, guard } a w := by
  obtain ⟨β, M, F⟩ := s.parts
  replace hk := ck_iff.1 hk
  obtain ⟨h1, hk⟩ := hk
  obtain ⟨td, hd, hs⟩ := under hT h1
  split at hk
  case h_2 => exact hk.elim
  rename_i e hsh
  rw [hsh] at hs
  simp only [TI.shOk] at hs
  subst hs
  replace hk := ck_iff.1 hk
  obtain ⟨h2, hk⟩ := hk
  replace hk := ck_ble hk
  obtain ⟨h3, hk⟩ := hk
  replace hk := ck_ble hk
  obtain ⟨h4, hk⟩ := hk
  obtain ⟨u, hk1, hu⟩ := F.evP hk
  obtain ⟨v, hk2, hv⟩ := F.evP hk1
  clear hk hk1
  obtain ⟨inf, z, i1, i2, i3, i4, i5, i6⟩ := run_info hT h2
  rw [lenL_eq] at h3
  have hzs : z.cells.size = (T e).ks.length := by have := congrArg List.length i6; simpa using this
  have hzl : z.cells.toList = zerosL (T e) := i6
  split at hk2
  case h_2 => exact hk2.elim
  rename_i ka a' kb b'
  split at hk2
  · split at hk2
    case h_2 => exact hk2.elim
    rename_i d
    split at hk2
    · obtain ⟨⟨rfl, hb0, hb1⟩, hk⟩ := hk2
      obtain ⟨b, rfl⟩ := Int.eq_ofNat_of_zero_le hb0
      have hbb : b * (T e).bytes ≤ 140737488355328 := by
        have : ((b * (T e).bytes : Nat) : Int) ≤ 140737488355328 := by rw [Int.natCast_mul]; exact hb1
        omega
      have hb2 : b ≤ 140737488355328 := Nat.le_trans (Nat.le_mul_of_pos_right _ h4) hbb
      have hr := run_make (P := C.P) w t e inf z hd i2 i5 ka kb 0 b (Int.le_refl _) (by omega) (by rw [i4]; have e1 : ((T e).bytes : Int) * (b : Int) = ((b * (T e).bytes : Nat) : Int) := by rw [Int.natCast_mul, Int.mul_comm]
                                                                                                   rw [e1]; omega) (by omega)
      simp only [Int.toNat_natCast, Int.toNat_zero] at hr
      obtain ⟨f1, f2, f3, M'⟩ := M.newM (.cells (madeCells z.cells (b * inf.size)) e)
      have hk' := hk w.heap.size (madeCells z.cells (b * inf.size)).toList f1 f2 f3 (by simp [size_madeCells, i3, lenL_eq])
      simp only [Int.toNat_natCast] at hk'
      refine does_value s.size s.defers hdst F.f M' (s := .v (.slice (some ⟨w.heap.size, 0, none⟩) 0 b)) (by simp [execOp, hu, hv, hr, conc]) (hK0 _ _ _ _ (RO.le.refl h) ?_)
      simpa using hk'
    · replace hk2 := ck_iff.1 hk2
      obtain ⟨hfree, ⟨rfl, hb0, hb1⟩, hk⟩ := hk2
      replace hfree := Fr.freeB_ok hfree
      obtain ⟨b, rfl⟩ := Int.eq_ofNat_of_zero_le hb0
      have hbb : b * (T e).bytes ≤ 140737488355328 := by
        have : ((b * (T e).bytes : Nat) : Int) ≤ 140737488355328 := by rw [Int.natCast_mul]; exact hb1
        omega
      have hb2 : b ≤ 140737488355328 := Nat.le_trans (Nat.le_mul_of_pos_right _ h4) hbb
      have hr := run_make (P := C.P) w t e inf z hd i2 i5 ka kb 0 b (Int.le_refl _) (by omega) (by rw [i4]; have e1 : ((T e).bytes : Int) * (b : Int) = ((b * (T e).bytes : Nat) : Int) := by rw [Int.natCast_mul, Int.mul_comm]
                                                                                                   rw [e1]; omega) (by omega)
      simp only [Int.toNat_natCast, Int.toNat_zero] at hr
      have M1 := M.alloc d (madeCells z.cells (b * inf.size)).toList e
      have hg1 : BX.get ((d, BS.box (madeCells z.cells (b * inf.size)).toList e) :: bx) d = some (.box (madeCells z.cells (b * inf.size)).toList e) := by rw [BX.get_cons, if_pos rfl]
      have M2 := M1.boxRow0 (sz := (T e).ks.length) (cp := b) hg1 (by simp [size_madeCells, i3]) (by simp only [maxLen]; omega)
      have hk' := hk (some ⟨w.heap.size, 0, none⟩) b ⟨_, 0, b, rfl, by simp, Nat.zero_le _, .inr ⟨w.heap.size, 0, rfl, by simp⟩⟩
      simp only [lenL_eq] at hk'
      have hfin : SK C KK (upd ρ (some d) (.own d (.slice (some ⟨w.heap.size, 0, none⟩) 0 b)))
          ((d, .row (.slice (some ⟨(fun i => if i = d then w.heap.size else β i) d, 0, none⟩) 0 b) e (T e).ks.length 0 []) :: (d, .box (madeCells z.cells (b * inf.size)).toList e) :: bx) h m := by
        refine sk_bx (hK0 _ _ _ _ (RO.le.refl h) hk') ?_
        intro i x hi
        simp only [BX.get_cons, if_true] at hi ⊢
        by_cases e1 : d = i
        · simpa [e1] using hi
        · simpa [e1] using hi
      exact does_value (β := fun i => if i = d then w.heap.size else β i) s.size s.defers hdst (free_conc hfree F.f)
        M2 (s := .own d (.slice (some ⟨w.heap.size, 0, none⟩) 0 b)) (by simp [execOp, hu, hv, hr, conc]) hfin
  · obtain ⟨⟨rfl, ha0, ha1⟩, hk⟩ := hk2
    obtain ⟨b, rfl⟩ := Int.eq_ofNat_of_zero_le ha0
    have hbb : b * (T e).bytes ≤ 140737488355328 := by
      have : ((b * (T e).bytes : Nat) : Int) ≤ 140737488355328 := by rw [Int.natCast_mul]; exact ha1
      omega
    have hb2 : b ≤ 140737488355328 := Nat.le_trans (Nat.le_mul_of_pos_right _ h4) hbb
    have hr := run_make (P := C.P) w t e inf z hd i2 i5 ka kb b b (by omega) (Int.le_refl _) (by rw [i4]; have e1 : ((T e).bytes : Int) * (b : Int) = ((b * (T e).bytes : Nat) : Int) := by rw [Int.natCast_mul, Int.mul_comm]
                                                                                                 rw [e1]; omega) (by omega)
    simp only [Int.toNat_natCast] at hr hk
    have hmc : (madeCells z.cells (b * inf.size)) = (repZ b (zerosL (T e))).toArray := by
      apply Array.ext'
      have := zeros_eq b z.cells
      rw [hzl] at this
      rw [show b * inf.size = b * z.cells.size by rw [hzs, i3]]
      simpa [madeCells] using this
    rw [hmc] at hr
    refine newAM_does (fun s bx' m' q => hK0 _ _ _ _ (RO.le.refl h) q) s hdst hk ?_
    simp [execOp, hu, hv, hr]

theorem opM_does {esc : List Nat} {KK : Act → World → Prop} {Q : Exit → Act → World → Prop} {o : Oper} {a : Act} {w : World} (hT : TOk C.P T) (s : Sat C.nt C.w0 C.h0 C.m0 ρ bx h m a w) (hdst : dstOk C.nt o.dst) {K : SV → BX → RO → Hp → Prop}
    (hK0 : ∀ s bx' h' m', h.le h' → K s bx' h' m' → SK C KK (upd ρ o.dst s) bx' h' m')
    {Kc : Ending → RO → Hp → Prop} (hKc : ∀ v h' m', h.le h' → Kc (.returned v) h' m' → SK C KK (upd ρ o.dst (.v v)) bx h' m') (hKp : ∀ c h' m', Kc (.panicked c) h' m' → C.R (.panicked c) h' m') (hKo : ∀ h' m', ¬ Kc .outgrown h' m')
    (hk : opM C.P T esc ρ bx h m o.dst o.op o.type K Kc) : Does C KK Q o a w := by
  obtain ⟨dst, op, ty, pos, after, guard⟩ := o
  simp only at hk hdst hK0 hKc
  unfold opM at hk
  split at hk
  · obtain ⟨β, M, F⟩ := s.parts
    obtain ⟨sv, hk, he⟩ := F.ev hk
    obtain ⟨v, b, off, hk, hc, hr⟩ := loadK_ok hT M hk
    refine does_value (s := .v v) s.size s.defers hdst F.f M ?_ (hK0 _ _ _ _ (RO.le.refl h) hk)
    rw [hc] at he
    simp [execOp, he, Instr.loadAt, Instr.sureAddr, hr, conc]
  · obtain ⟨β, M, F⟩ := s.parts
    obtain ⟨sv, hk1, he⟩ := F.ev hk
    obtain ⟨v, hk2, hv⟩ := F.evP hk1
    replace hk2 := ck_iff.1 hk2
    obtain ⟨h1, hk2⟩ := hk2
    replace hk2 := ck_beq hk2
    obtain ⟨h2, hk2⟩ := hk2
    replace hk2 := ck_iff.1 hk2
    obtain ⟨h3, hk3⟩ := hk2
    replace h3 := okCB_ok h3
    clear hk hk1
    rw [lenL_eq, lenL_eq] at h2
    split at hk3
    · rename_i id off
      split at hk3
      · rename_i cs cty hg
        replace hk3 := ck_ble hk3
        obtain ⟨h4, hk⟩ := hk3
        rw [lenL_eq, lenL_eq] at h4
        have hb := (M.ok id _ hg).2
        have hr := run_storeVar (v := v) hT h1 h2 hb (by simpa using h4) h3
        refine does_unit s.size s.defers hdst F.f (M.storeBox hg (setL cs off (cellsL v))) ?_ (hK0 _ _ _ _ (RO.le.refl h) hk)
        simp only [conc] at he
        simp only [List.toList_toArray] at hr
        simp [execOp, he, hv, Instr.storeAt, Instr.sureAddr, hr]
      · exact hk3.elim
    · replace hk3 := ptrK_ok hk3
      obtain ⟨b, off, rfl, cs, cty, hg, h4, hk⟩ := hk3
      rw [lenL_eq] at h4
      have hr := run_storeVar (v := v) hT h1 h2 (M.step.mon b _ hg) h4 h3
      refine does_unit s.size s.defers hdst F.f (M.storeM hg _) ?_ (hK0 _ _ _ _ (RO.le.refl h) hk)
      simp only [conc] at he
      simp [execOp, he, hv, Instr.storeAt, Instr.sureAddr, hr]
    · exact hk3.elim
  · rename_i t
    replace hk := ck_iff.1 hk
    obtain ⟨h1, hk⟩ := hk
    refine newK_does (fun s bx' m' q => hK0 _ _ _ _ (RO.le.refl h) q) s hdst hk ?_
    obtain ⟨z, hz, hzc⟩ := run_zero hT h1
    have : (z.cells : Array Value) = (zerosL (T t)).toArray := by apply Array.ext'; simp only [zerosL]; exact hzc
    simp [execOp, Instr.alloc, hz, newVar, newRow, this]
  · obtain ⟨β, M, F⟩ := s.parts
    obtain ⟨v, hk, hv⟩ := F.evP hk
    refine newK_does (fun s bx' m' q => hK0 _ _ _ _ (RO.le.refl h) q) s hdst hk ?_
    have : v.cells = (cellsL v).toArray := by apply Array.ext'; simpa using cellsL_eq v
    simp [execOp, hv, Instr.box, newVar, newRow, this]
  · rename_i t n ps
    replace hk := ck_iff.1 hk
    obtain ⟨h1, hk⟩ := hk
    split at hk
    · rename_i e hsh
      replace hk := ck_iff.1 hk
      obtain ⟨h2, hk⟩ := hk
      replace hk := ck_ble hk
      obtain ⟨h3, hk⟩ := hk
      obtain ⟨β, M, F⟩ := s.parts
      obtain ⟨vs, hk, hvs⟩ := F.evPart hk
      obtain ⟨cs, hk, hcl, hf⟩ := fillV_ok hk
      refine newAM_does (fun s bx' m' q => hK0 _ _ _ _ (RO.le.refl h) q) s hdst hk ?_
      obtain ⟨d, hd, hs⟩ := under hT h1
      rw [hsh] at hs
      simp only [TI.shOk] at hs
      subst hs
      obtain ⟨z, hz, hzc⟩ := run_zero hT h2
      have hzs : z.cells.size = (T e).ks.length := by have := congrArg List.length hzc; simpa using this
      have hzz : z.cells.toList = zerosL (T e) := hzc
      rw [lenL_eq] at h3
      have hps : ps.map (fun x => (x.1, a.eval x.2)) = vs.toArray := by apply Array.ext'; simp [hvs]
      have e2 : (ps.map fun (x : Nat × Operand) => match x with | (i, x) => (i, a.eval x)) = vs.toArray := hps
      have hzl := zeros_eq n z.cells
      rw [hzz, hzs] at hzl
      simp only [lenL_eq] at hf
      by_cases hn : n * (T e).ks.length = 0
      · have hrz : (repZ n (zerosL (T e))).toArray = #[] := by
          apply Array.ext'; apply List.eq_nil_of_length_eq_zero; rw [List.toList_toArray, repZ_length]; simpa [zerosL] using hn
        rw [hrz] at hf
        simp [execOp, e2, Instr.buildSlice, run_underlying hd, run_sizeOf hT h2, hn, newRow, hf, Array.range_zero']
      · have hrz : (repZ n (zerosL (T e))).toArray = (Array.range (n * (T e).ks.length)).map (fun x => z.cells[x % (T e).ks.length]!) := by
          apply Array.ext'; rw [hzl]
        rw [hrz] at hf
        have hle : ¬ (16777216 < n * (T e).ks.length) := by omega
        simp [execOp, e2, Instr.buildSlice, run_underlying hd, run_sizeOf hT h2, hn, hle, hz, hzs, newRow, hf]
    · exact hk.elim
  · exact makeK_does hK0 hT s hdst hk
  · obtain ⟨β, M, F⟩ := s.parts
    obtain ⟨u, hk1, hu⟩ := F.evP hk
    obtain ⟨v, hk2, hv⟩ := F.evP hk1
    obtain ⟨r, hk3, hr⟩ := lookK_ok hT hk2
    refine does_value (s := .v r) s.size s.defers hdst F.f M ?_ (hK0 _ _ _ _ (RO.le.refl h) hk3)
    simp [execOp, hu, hv, hr w M.step.hon M.step.mon, conc]
  · obtain ⟨β, M, F⟩ := s.parts
    obtain ⟨u, hk1, hu⟩ := F.evP hk
    obtain ⟨v, hk2, hv⟩ := F.evP hk1
    obtain ⟨r, hk3, hr⟩ := F.evP hk2
    obtain ⟨b, o, o', rfl, ho, hk4, hrun⟩ := updK_ok hT hk3 w M.step.mon
    refine does_unit s.size s.defers hdst F.f (M.setM ho o') ?_ (hK0 _ _ _ _ (RO.le.refl h) hk4)
    simp [execOp, hu, hv, hr, hrun]
  · split at hk
    · obtain ⟨β, M, F⟩ := s.parts
      obtain ⟨u, hk1, hu⟩ := F.evP hk
      obtain ⟨r, hk2, hr⟩ := strK_ok hT hk1
      refine does_value (s := .v r) s.size s.defers hdst F.f M ?_ (hK0 _ _ _ _ (RO.le.refl h) hk2)
      simp [execOp, hu, hr w M.step.hon, conc]
    · exact opV_does (fun s q => hK0 _ _ _ _ (RO.le.refl h) q) hT s hdst hk
  · obtain ⟨β, M, F⟩ := s.parts
    obtain ⟨f1, f2, f3, M'⟩ := M.newM (.map #[] 0)
    refine does_value (s := .v (.map (some w.heap.size))) s.size s.defers hdst F.f M' ?_ (hK0 _ _ _ _ (RO.le.refl h) (hk _ f1 f2 f3))
    simp [execOp, Instr.makeMap, conc]
  · rename_i args argTypes
    split at hk
    · rename_i x y t t' hx ht
      have e1 : args = #[x, y] := by apply Array.ext'; simp [hx]
      have e2 : argTypes = #[t, t'] := by apply Array.ext'; simp [ht]
      subst e1; subst e2
      obtain ⟨β, M, F⟩ := s.parts
      obtain ⟨u, hk1, hu⟩ := F.evP hk
      obtain ⟨v, hk2, hv⟩ := F.evP hk1
      obtain ⟨b, o, o', rfl, ho, hk4, hrun⟩ := delK_ok (t' := t') (ty := ty) hT hk2 w M.step.mon
      refine does_value (s := .v (.tuple #[])) s.size s.defers hdst F.f (M.setM ho o') ?_ (hK0 _ _ _ _ (RO.le.refl h) hk4)
      simp [execOp, resolve, invoke, builtin, hu, hv, hrun, conc]
    · exact hk.elim
  · rename_i args argTypes
    split at hk
    · rename_i x y t t' hx ht
      replace hk := ck_beq hk
      obtain ⟨rfl, hk⟩ := hk
      have e1 : args = #[x, y] := by apply Array.ext'; simp [hx]
      have e2 : argTypes = #[t, t] := by apply Array.ext'; simp [ht]
      subst e1; subst e2
      split at hk
      · split at hk
        · exact appM_does hK0 hT s hdst hk
        · exact appK_does hK0 hT s hdst hk
      · exact hk.elim
    · exact hk.elim
  · rename_i f args ats
    obtain ⟨β, M, F⟩ := s.parts
    obtain ⟨fv, hk1, hfv⟩ := F.evP hk
    obtain ⟨vs, hk2, hvs⟩ := F.evPs hk1
    clear hk hk1
    split at hk2
    · rename_i g first cap
      intro hQ
      obtain ⟨⟨fn, e1, e2, e3⟩, hcall⟩ := hk2
      have hc := hcall w M.step.hon M.step.mon M.step.disj
      have hargs : first ++ args.map a.eval ++ cap = (first.toList ++ vs ++ cap.toList).toArray := by
        apply Array.ext'; simp [← hvs]
      have hrun : (execOp a.eval { dst, op := .call { callee := .value f, args, argTypes := ats }, type := ty, pos, after, guard }).run C.P w = .ok (.enter g (first.toList ++ vs ++ cap.toList).toArray) w := by
        rw [← hargs]
        cases hbd : fn.body with
        | none => rw [hbd] at e3; cases e3
        | some c =>
          have e2' : ¬ fn.name = "runtime.NumGoroutine" := by simpa using e2
          simp [execOp, resolve, hfv, Deferred.ofValue, invoke, callFunc, e1, e2', hbd]
      simp only [Oper.wp, hrun, Oper.upon]
      refine hc.mono ?_
      rintro e w' ⟨h', m', S, R⟩
      cases e with
      | returned v =>
        have M' := M.call S
        obtain ⟨f1, f2, f3⟩ := frame_put (β := β) s.size hdst (s := .v v) F.f
        exact hKc _ _ _ S.le R _ _ (Sat.of_parts f2 (f3.trans s.defers) M' f1)
      | panicked ch =>
        exact hQ _ _ _ ⟨s.defers, h', m', (M.call S).step, hKp _ _ _ R⟩
      | outgrown => exact (hKo _ _ R).elim
    · exact hk2.elim
  · exact opV_does (fun s q => hK0 _ _ _ _ (RO.le.refl h) q) hT s hdst hk

/-! ### the walk -/

def guardK (all : Array Oper) (ρ : Fr) (g : Option (Nat × Bool)) (X Y : Fr → Prop) : Prop :=
  match g with
  | none => X ρ
  | some (j, want) => match nthL all.toList j with
    | some o => match o.dst with
      | some d => match Fr.get ρ d with
        | some (.bit b) => match b, want with
          | true, true => X ρ
          | false, false => X ρ
          | true, false => Y ρ
          | false, true => Y ρ
        | some (.v (.bool b)) => (b = want → X ((d, .bit want) :: ρ)) ∧ (b = (!want) → Y ((d, .bit !want) :: ρ))
        | some (.v (.tuple _)) => Y ρ
        | _ => False
      | none => False
    | none => False

def packV : List Value → Value
  | [v] => v
  | vs => .tuple vs.toArray

def resK (T : Nat → TI) (ρ : Fr) (bx : BX) (h : RO) (m : Hp) : List ResultVar → (List Value → Prop) → Prop
  | [], K => K []
  | .tmp t :: r, K => evP ρ bx (.tmp t) fun v => resK T ρ bx h m r fun vs => K (v :: vs)
  | .cell t ty :: r, K => ev ρ (.tmp t) fun s => loadK T bx h m ty s fun v => resK T ρ bx h m r fun vs => K (v :: vs)
def resOps : List ResultVar → List Operand
  | [] => []
  | .tmp t :: r => .tmp t :: resOps r
  | .cell _ _ :: r => resOps r

/-- A load from what stays. -/
def loadS (T : Nat → TI) (bx : BX) (h : RO) (t : Nat) (s : SV) (K : Value → Prop) : Prop :=
  ck (T t).ok <| ck (oneOkB (T t)) <| match s with
  | .loc id off => match BX.get bx id with
    | some (.pub _ cs) => ldB (T t).ks cs off fun vs => K (mkV (T t).agg vs)
    | _ => False
  | .v (.pointer p) => ptrK p fun b off => ldK (T t).ks (fun i v => h.c b i = some v) off fun vs => K (mkV (T t).agg vs)
  | _ => False
/-- An operation that yields the same in every world that has what may be read. -/
def opS (T : Nat → TI) (ρ : Fr) (bx : BX) (h : RO) (op : Op) (ty : Nat) (K : SV → Prop) : Prop :=
  match op with
  | .load t x => ev ρ x fun s => loadS T bx h t s fun v => K (.v v)
  | op => opV T ρ bx op ty K

/-- The blocks that are to be read alone: from their making on, or from their store on. -/
def pubAt (pubs : List Nat) (ρ : Fr) (op : Op) (d : Option Nat) (bx : BX) (h : RO) (K : BX → RO → Prop) : Prop :=
  match op with
  | .box _ _ => match d with
    | some d => match memN d pubs with
      | true => pubK ρ [.tmp d] bx h K
      | false => K bx h
    | none => K bx h
  | .store _ a _ => ev ρ a fun s => match s with
    | .loc id _ => match memN id pubs with
      | true => pubK ρ [a] bx h K
      | false => K bx h
    | _ => K bx h
  | _ => K bx h

/-- What is given with a function's walk: the slots whose blocks may be changed by others; those that are read alone from their first store on; the orders of the regions that draw theirs. -/
structure Gv where
  esc : List Nat
  pubs : List Nat
  sch : List (Nat × Sch)

def schG : List (Nat × Sch) → Nat → Option Sch
  | [], _ => none
  | (i, s) :: r, t => match Nat.beq i t with | true => some s | false => schG r t

def dstB (nt : Nat) : Option Nat → Bool
  | some d => Nat.blt d nt
  | none => true
theorem dstB_ok {nt : Nat} {d : Option Nat} (h : dstB nt d = true) : dstOk nt d := by
  cases d with
  | none => trivial
  | some d => simp only [dstB, Nat.blt_eq] at h; exact h

def vc (C : Cx) (P : Program) (nt : Nat) (rs : List ResultVar) (R : Ending → RO → Hp → Prop) (T : Nat → TI) (G : Gv) : Nat → List It → Fr → BX → RO → Hp → Prop
  | 0, k, ρ, bx, h, m => Sx C k ρ bx h m
  | _ + 1, [], ρ, bx, h, m => pubK ρ (resOps rs) bx h fun bx h => resK T ρ bx h m rs fun vs => R (.returned (packV vs)) h m
  | _ + 1, .goal J :: _, ρ, bx, h, m => J ρ bx h m
  | n + 1, .blk _ :: k, ρ, bx, h, m => vc C P nt rs R T G n k ρ bx h m
  | n + 1, .code c :: k, ρ, bx, h, m => match c with
    | .skip => vc C P nt rs R T G n k ρ bx h m
    | .seq x y => vc C P nt rs R T G n (.code x :: .code y :: k) ρ bx h m
    | .block id x => vc C P nt rs R T G n (.code x :: .blk id :: k) ρ bx h m
    | .exit id => match exitIt id k with | some k' => vc C P nt rs R T G n k' ρ bx h m | none => False
    | .ret => pubK ρ (resOps rs) bx h fun bx h => resK T ρ bx h m rs fun vs => R (.returned (packV vs)) h m
    | .cond c x y => evB ρ c fun b => (b = true → Sx C (.code x :: k) ρ bx h m) ∧ (b = false → Sx C (.code y :: k) ρ bx h m)
    | .region _ ops false => vc C P nt rs R T G n (.ops ops ops.toList :: k) ρ bx h m
    | .region id ops true => match schG G.sch id with
      | some s => vc C P nt rs R T G n (.draw ops [] s :: k) ρ bx h m
      | none => Halt (Sx C (.code (.region id ops true) :: k) ρ bx h m)
    | .loop x => Halt (Sx C (.code (.loop x) :: k) ρ bx h m)
    | _ => False
  | n + 1, .ops _ [] :: k, ρ, bx, h, m => vc C P nt rs R T G n k ρ bx h m
  | n + 1, .ops all (o :: r) :: k, ρ, bx, h, m => ck (dstB nt o.dst) <| guardK all ρ o.guard
      (fun ρ => pubK ρ (needPub o.op) bx h fun bx h =>
        opM P T G.esc ρ bx h m o.dst o.op o.type (fun s bx h m => pubAt G.pubs (upd ρ o.dst s) o.op o.dst bx h fun bx h => vc C P nt rs R T G n (.ops all r :: k) (upd ρ o.dst s) bx h m) (Resume C (.ops all r :: k) o.dst ρ bx))
      (fun ρ => vc C P nt rs R T G n (.ops all r :: k) (upd ρ o.dst (.v undef)) bx h m)
  | n + 1, .draw all done sch :: k, ρ, bx, h, m => match sch with
    | .nil => vc C P nt rs R T G n k ρ bx h m
    | .stop => True
    | .one i r => match nthL all.toList i with
      | some o => ck (dstB nt o.dst) <| guardK all ρ o.guard
          (fun ρ => opS T ρ bx h o.op o.type fun s => vc C P nt rs R T G n (.draw all (i :: done) r :: k) (upd ρ o.dst s) bx h m)
          (fun ρ => vc C P nt rs R T G n (.draw all (i :: done) r :: k) (upd ρ o.dst (.v undef)) bx h m)
      | none => False
    | .fork i r s => (match nthL all.toList i with
      | some o => ck (dstB nt o.dst) <| guardK all ρ o.guard
          (fun ρ => pubK ρ (needPub o.op) bx h fun bx h =>
            opM P T G.esc ρ bx h m o.dst o.op o.type (fun s bx h m => pubAt G.pubs (upd ρ o.dst s) o.op o.dst bx h fun bx h => vc C P nt rs R T G n (.draw all (i :: done) r :: k) (upd ρ o.dst s) bx h m) (Resume C (.draw all (i :: done) r :: k) o.dst ρ bx))
          (fun ρ => vc C P nt rs R T G n (.draw all (i :: done) r :: k) (upd ρ o.dst (.v undef)) bx h m)
      | none => False) ∧ vc C P nt rs R T G n (.draw all done s :: k) ρ bx h m

/-! ### a drawn region's order, looked at once -/

def chk (all : Array Oper) : List Nat → Sch → Bool
  | done, .nil => (Region.ready .any all (lst all.size done)).isEmpty
  | done, .one i r => Nat.blt done.length all.size && Region.free .any all (lst all.size done) i && (Region.ready .any all (lst all.size done)).contains i && chk all (i :: done) r
  | done, .fork i r s => Nat.blt done.length all.size && (Region.ready .any all (lst all.size done)).contains i && chk all (i :: done) r && chkF all done s (i :: []) s
  | _, .stop => false
where chkF (all : Array Oper) (done : List Nat) (top : Sch) (l : List Nat) : Sch → Bool
  | .fork j r s => chk all (j :: done) r && chkF all done top (j :: l) s
  | .stop => (Region.ready .any all (lst all.size done)).all fun i => l.contains i
  | _ => false
end
end Go.SX
