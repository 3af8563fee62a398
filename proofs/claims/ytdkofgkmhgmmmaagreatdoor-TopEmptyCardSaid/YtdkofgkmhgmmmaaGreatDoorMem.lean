/- The ideal machine's state, its steps, what a step touches ('Resp'), and how an ideal state stands for a world ('Inv'). -/
import Derived.Test.YtdkofgkmhgmmmaaGreatDoorVal
namespace Go.Ideal
set_option linter.all false
set_option linter.unusedSimpArgs false
set_option linter.unusedVariables false
noncomputable section
open Go Go.RowKit

/-- The ideal state: memory, the next block's number, masks of the blocks that were read and written. -/
structure S where
  h : Tr Blk
  nx : Nat
  r : Nat
  w : Nat

def depth : Nat := 11

def M (α : Type) : Type := S → Option (α × S)

section
variable {α β γ : Type}

def M.pure (a : α) : M α := fun s => some (a, s)
def M.bind (m : M α) (f : α → M β) : M β := fun s =>
  match m s with
  | some (a, s') => f a s'
  | none => none
instance : Monad M where
  pure := M.pure
  bind := M.bind
def fail : M α := fun _ => none
def liftO : Option α → M α
  | some a => M.pure a
  | none => fail
def guardM (b : Bool) : M Unit := cond b (M.pure ()) fail

def rd (b : Nat) : M Blk := fun s =>
  cond (Nat.blt b s.nx)
    (match s.h.get b with
     | some o => some (o, ⟨s.h, s.nx, s.r ||| bit b, s.w⟩)
     | none => none)
    none
def wr (b : Nat) (o : Blk) : M Unit := fun s =>
  cond (Nat.blt b s.nx) (some ((), ⟨s.h.set depth b o, s.nx, s.r, s.w ||| bit b⟩)) none
def new (o : Blk) : M Nat := fun s => some (s.nx, ⟨s.h.set depth s.nx o, s.nx + 1, s.r, s.w ||| bit s.nx⟩)

theorem pure_some {a b : α} {s s' : S} : ((Pure.pure a : M α) s = some (b, s')) ↔ b = a ∧ s' = s := by
  show (some (a, s) = some (b, s')) ↔ _
  constructor
  · intro h; cases h; exact ⟨rfl, rfl⟩
  · rintro ⟨rfl, rfl⟩; rfl

theorem bind_some {m : M α} {f : α → M β} {b : β} {s s' : S} :
    ((m >>= f) s = some (b, s')) ↔ ∃ a s1, m s = some (a, s1) ∧ f a s1 = some (b, s') := by
  show (M.bind m f s = some (b, s')) ↔ _
  unfold M.bind
  cases m s with
  | none => simp
  | some p =>
    obtain ⟨a, s1⟩ := p
    constructor
    · intro h; exact ⟨a, s1, rfl, h⟩
    · rintro ⟨a', s1', e, h⟩; cases e; exact h

theorem fail_some {b : β} {s s' : S} : ((fail : M β) s = some (b, s')) ↔ False := by
  show (none = some (b, s')) ↔ _
  simp

theorem liftO_some {o : Option α} {a : α} {s s' : S} : (liftO o s = some (a, s')) ↔ o = some a ∧ s' = s := by
  cases o with
  | none => simp [liftO, fail_some]
  | some x =>
    show (some (x, s) = some (a, s')) ↔ _
    constructor
    · intro h; cases h; exact ⟨rfl, rfl⟩
    · rintro ⟨h, rfl⟩; cases h; rfl

theorem guardM_some {b : Bool} {s s' : S} {u : Unit} : (guardM b s = some (u, s')) ↔ b = true ∧ s' = s := by
  cases b with
  | false => simp [guardM, fail_some]
  | true =>
    show (some ((), s) = some (u, s')) ↔ _
    constructor
    · intro h; cases h; exact ⟨rfl, rfl⟩
    · rintro ⟨_, rfl⟩; rfl

theorem blt_iff {a b : Nat} : Nat.blt a b = true ↔ a < b := by
  unfold Nat.blt; rw [Nat.ble_eq]; exact Iff.rfl

theorem ble_iff {a b : Nat} : Nat.ble a b = true ↔ a ≤ b := by rw [Nat.ble_eq]
theorem ble_ff {a b : Nat} (h : ¬ a ≤ b) : Nat.ble a b = false := by
  cases e : Nat.ble a b with
  | false => rfl
  | true => exact absurd (ble_iff.1 e) h
theorem blt_ff {a b : Nat} (h : ¬ a < b) : Nat.blt a b = false := by
  cases e : Nat.blt a b with
  | false => rfl
  | true => exact absurd (blt_iff.1 e) h

theorem rd_some {b : Nat} {o : Blk} {s s' : S} :
    (rd b s = some (o, s')) ↔ b < s.nx ∧ s.h.get b = some o ∧ s' = ⟨s.h, s.nx, s.r ||| bit b, s.w⟩ := by
  unfold rd
  by_cases h : b < s.nx
  · rw [blt_iff.2 h]; simp only [cond_true]
    cases e : s.h.get b with
    | none => simp
    | some x =>
      simp only [Option.some.injEq, Prod.mk.injEq, h, true_and]
      constructor
      · rintro ⟨rfl, rfl⟩; exact ⟨rfl, rfl⟩
      · rintro ⟨rfl, rfl⟩; exact ⟨rfl, rfl⟩
  · have : Nat.blt b s.nx = false := by
      cases e : Nat.blt b s.nx with
      | false => rfl
      | true => exact absurd (blt_iff.1 e) h
    rw [this]; simp [h]

theorem wr_some {b : Nat} {o : Blk} {s s' : S} {u : Unit} :
    (wr b o s = some (u, s')) ↔ b < s.nx ∧ s' = ⟨s.h.set depth b o, s.nx, s.r, s.w ||| bit b⟩ := by
  unfold wr
  by_cases h : b < s.nx
  · rw [blt_iff.2 h]; simp only [cond_true, Option.some.injEq, Prod.mk.injEq, h, true_and]
    constructor
    · intro e; exact e.symm
    · intro e; exact e.symm
  · have : Nat.blt b s.nx = false := by
      cases e : Nat.blt b s.nx with
      | false => rfl
      | true => exact absurd (blt_iff.1 e) h
    rw [this]; simp [h]

theorem new_some {b : Nat} {o : Blk} {s s' : S} :
    (new o s = some (b, s')) ↔ b = s.nx ∧ s' = ⟨s.h.set depth s.nx o, s.nx + 1, s.r, s.w ||| bit s.nx⟩ := by
  show (some (s.nx, _) = some (b, s')) ↔ _
  constructor
  · intro h; cases h; exact ⟨rfl, rfl⟩
  · rintro ⟨rfl, rfl⟩; rfl

/-- WHAT A STEP TOUCHES: its masks tell; elsewhere the memory may be another. -/
structure RespAt (m : M α) (s : S) (a : α) (s' : S) (dr dw : Nat) : Prop where
  r : s'.r = s.r ||| dr
  w : s'.w = s.w ||| dw
  nx : s.nx ≤ s'.nx
  old : ∀ b, dw.testBit b = false → s'.h.get b = s.h.get b
  lim : ∀ b, (dr ||| dw).testBit b = true → b < s'.nx
  fresh : ∀ b, s.nx ≤ b → b < s'.nx → dw.testBit b = true
  again : ∀ t : S, t.nx = s.nx → (∀ b, b < s.nx → (dr ||| dw).testBit b = true → t.h.get b = s.h.get b) →
    ∃ t', m t = some (a, t') ∧ t'.nx = s'.nx ∧ t'.r = t.r ||| dr ∧ t'.w = t.w ||| dw ∧
      (∀ b, dw.testBit b = true → t'.h.get b = s'.h.get b) ∧ (∀ b, dw.testBit b = false → t'.h.get b = t.h.get b)

def Resp (m : M α) : Prop := ∀ s a s', m s = some (a, s') → ∃ dr dw, RespAt m s a s' dr dw

theorem Resp.pure (a : α) : Resp (Pure.pure a : M α) := by
  intro s b s' h
  obtain ⟨rfl, rfl⟩ := pure_some.1 h
  refine ⟨0, 0, by simp, by simp, Nat.le_refl _, fun _ _ => rfl, fun b hb => by simp at hb, fun b h1 h2 => by omega, fun t ht _ => ⟨t, rfl, ht, by simp, by simp, fun b hb => by simp at hb, fun _ _ => rfl⟩⟩

theorem Resp.fail : Resp (Ideal.fail : M α) := fun _ _ _ h => (fail_some.1 h).elim

theorem Resp.liftO (o : Option α) : Resp (liftO o) := by
  cases o with
  | none => exact Resp.fail
  | some a => exact Resp.pure a

theorem Resp.guardM (b : Bool) : Resp (guardM b) := by
  cases b with
  | false => exact Resp.fail
  | true => exact Resp.pure ()

theorem Resp.bind {m : M α} {f : α → M β} (hm : Resp m) (hf : ∀ a, Resp (f a)) : Resp (m >>= f) := by
  intro s b s' h
  obtain ⟨a, s1, h1, h2⟩ := bind_some.1 h
  obtain ⟨r1, w1, R1⟩ := hm _ _ _ h1
  obtain ⟨r2, w2, R2⟩ := hf a _ _ _ h2
  refine ⟨r1 ||| r2, w1 ||| w2, ?_, ?_, Nat.le_trans R1.nx R2.nx, fun x hx => ?_, fun x hx => ?_, fun x hx1 hx2 => ?_, fun t ht hag => ?_⟩
  · rw [R2.r, R1.r, Nat.or_assoc]
  · rw [R2.w, R1.w, Nat.or_assoc]
  · simp only [testBit_or, Bool.or_eq_false_iff] at hx
    rw [R2.old x hx.2, R1.old x hx.1]
  · simp only [testBit_or, Bool.or_eq_true] at hx
    have l1 := R1.lim x; have l2 := R2.lim x; have := R2.nx
    simp only [testBit_or, Bool.or_eq_true] at l1 l2
    rcases hx with (hx | hx) | (hx | hx)
    · exact Nat.lt_of_lt_of_le (l1 (.inl hx)) this
    · exact l2 (.inl hx)
    · exact Nat.lt_of_lt_of_le (l1 (.inr hx)) this
    · exact l2 (.inr hx)
  · simp only [testBit_or, Bool.or_eq_true]
    rcases Nat.lt_or_ge x s1.nx with hlt | hge
    · exact .inl (R1.fresh x hx1 hlt)
    · exact .inr (R2.fresh x hge hx2)
  · obtain ⟨t1, e1, n1, a1, b1, c1, d1⟩ := R1.again t ht (fun x hx hb => hag x hx (by
      simp only [testBit_or, Bool.or_eq_true] at hb ⊢
      rcases hb with hb | hb
      · exact .inl (.inl hb)
      · exact .inr (.inl hb)))
    obtain ⟨t2, e2, n2, a2, b2, c2, d2⟩ := R2.again t1 n1 (fun x hx hb => by
      cases hw : w1.testBit x with
      | true => exact c1 x hw
      | false =>
        rw [d1 x hw, R1.old x hw]
        rcases Nat.lt_or_ge x s.nx with hlt | hge
        · refine hag x hlt ?_
          simp only [testBit_or, Bool.or_eq_true] at hb ⊢
          rcases hb with hb | hb
          · exact .inl (.inr hb)
          · exact .inr (.inr hb)
        · rw [R1.fresh x hge hx] at hw; cases hw)
    refine ⟨t2, bind_some.2 ⟨a, t1, e1, e2⟩, n2, by rw [a2, a1, Nat.or_assoc], by rw [b2, b1, Nat.or_assoc], fun x hx => ?_, fun x hx => ?_⟩
    · simp only [testBit_or, Bool.or_eq_true] at hx
      cases hw : w2.testBit x with
      | true => exact c2 x hw
      | false =>
        rw [d2 x hw, R2.old x hw]
        rcases hx with hx | hx
        · exact c1 x hx
        · rw [hw] at hx; cases hx
    · simp only [testBit_or, Bool.or_eq_false_iff] at hx
      rw [d2 x hx.2, d1 x hx.1]

theorem Resp.rd (b : Nat) : Resp (rd b) := by
  intro s o s' h
  obtain ⟨hb, hg, rfl⟩ := rd_some.1 h
  refine ⟨bit b, 0, rfl, by simp, Nat.le_refl _, fun _ _ => rfl, fun x hx => ?_, fun x h1 h2 => by simp at h2; omega, fun t ht hag => ?_⟩
  · simp [testBit_bit] at hx; subst hx; exact hb
  · refine ⟨_, rd_some.2 ⟨ht ▸ hb, ?_, rfl⟩, ht, rfl, by simp, fun x hx => by simp at hx, fun _ _ => rfl⟩
    rw [hag b hb (by simp [testBit_bit]), hg]

theorem Resp.wr (b : Nat) (o : Blk) : Resp (wr b o) := by
  intro s u s' h
  obtain ⟨hb, rfl⟩ := wr_some.1 h
  refine ⟨0, bit b, by simp, rfl, Nat.le_refl _, fun x hx => ?_, fun x hx => ?_, fun x h1 h2 => by simp at h2; omega, fun t ht hag => ?_⟩
  · simp only [testBit_bit, decide_eq_false_iff_not] at hx
    simp only [Tr.get_set, if_neg hx]
  · simp [testBit_bit] at hx; subst hx; exact hb
  · refine ⟨_, wr_some.2 ⟨ht ▸ hb, rfl⟩, ht, by simp, rfl, fun x hx => ?_, fun x hx => ?_⟩
    · simp [testBit_bit] at hx; subst hx; simp [Tr.get_set]
    · simp only [testBit_bit, decide_eq_false_iff_not] at hx
      simp only [Tr.get_set, if_neg hx]

theorem Resp.new (o : Blk) : Resp (new o) := by
  intro s b s' h
  obtain ⟨rfl, rfl⟩ := new_some.1 h
  refine ⟨0, bit s.nx, by simp, rfl, by simp, fun x hx => ?_, fun x hx => ?_, fun x h1 h2 => ?_, fun t ht hag => ?_⟩
  · simp only [testBit_bit, decide_eq_false_iff_not] at hx
    simp only [Tr.get_set, if_neg hx]
  · simp [testBit_bit] at hx; subst hx; simp
  · simp at h2; have : x = s.nx := by omega
    subst this; simp [testBit_bit]
  · refine ⟨_, new_some.2 ⟨ht.symm, rfl⟩, by simp [ht], by simp, by simp [ht], fun x hx => ?_, fun x hx => ?_⟩
    · simp [testBit_bit] at hx; subst hx; simp [Tr.get_set, ht]
    · simp only [testBit_bit, decide_eq_false_iff_not] at hx
      simp only [Tr.get_set, ht, if_neg hx]

end

/-! the tables -/
/-- A type: what it is underneath, its cells, its bytes, its zero value; a struct's fields (place, size); is '==' of two of them that of their cells? -/
structure TI where
  desc : TypeDesc
  size : Nat
  bytes : Nat
  zero : Value
  fs : List (Nat × Nat)
  eq : Bool

structure Env where
  ti : TypeId → Option TI
  fn : FuncId → Option Func
  glob : Nat → Bool
  intr : FuncId → Option (List Value → M Value)
  ext : FuncId → Option (List Value → M Value)
  fuel : Nat

/-- '==' of two of a struct type is asked field by field. -/
def eqOK (P : Program) (t : TypeId) : TypeDesc → Bool
  | .struct fs => !P.stoodInHeld t && fs.toList.all fun f => f.name != "_"
  | _ => true

def fieldsOf (P : Program) : List Field → Option (List (Nat × Nat))
  | [] => some []
  | f :: r => match P.info? f.type with
    | some i => match fieldsOf P r with
      | some l => some ((f.offset, i.size) :: l)
      | none => none
    | none => none

structure TIOK (P : Program) (t : TypeId) (i : TI) : Prop where
  under : P.underlying t = some i.desc
  info : ∃ f, P.info? t = some f ∧ f.size = i.size ∧ f.bytes = i.bytes ∧ f.zero = some i.zero
  zero : (cellsL i.zero).all simple = true
  len : (cellsL i.zero).length = i.size
  fs : ∀ fields, i.desc = .struct fields → fieldsOf P fields.toList = some i.fs
  eq : i.eq = true → eqOK P t i.desc = true

structure EnvOK (P : Program) (E : Env) : Prop where
  ti : ∀ t i, E.ti t = some i → TIOK P t i
  fn : ∀ f g, E.fn f = some g → P.funcs[f]? = some g
  mixed : P.follows .mixedOrders = true

/-- Of the blocks that are not the call's own nothing has turned. -/
structure Below (N0 : Nat → Prop) (w w' : World) : Prop where
  os : w'.os = w.os
  tape : w'.tape = w.tape
  output : w'.output = w.output
  size : w.heap.size ≤ w'.heap.size
  block : ∀ k, ¬ N0 k → w'.heap[k]? = w.heap[k]?
theorem Below.refl (N0 : Nat → Prop) (w : World) : Below N0 w w := ⟨rfl, rfl, rfl, Nat.le_refl _, fun _ _ => rfl⟩
theorem Below.trans {N0 : Nat → Prop} {a b c : World} (h : Below N0 a b) (k : Below N0 b c) : Below N0 a c :=
  ⟨k.os.trans h.os, k.tape.trans h.tape, k.output.trans h.output, Nat.le_trans h.size k.size, fun i hi => (k.block i hi).trans (h.block i hi)⟩
theorem Below.num {n : Nat} {a b : World} (h : Below (fun k => n ≤ k) a b) : RowKit.Below n a b := ⟨h.os, h.tape, h.output, h.size, fun k hk => h.block k (by omega)⟩
theorem Below.out {N0 : Nat → Prop} {a b : World} (hs : ∀ r, a.heap.size ≤ r → N0 r) (h : RowKit.Below a.heap.size a b) : Below N0 a b :=
  ⟨h.os, h.tape, h.output, h.size, fun k hk => h.block k (Nat.lt_of_not_le fun e => hk (hs k e))⟩
theorem Below.ofNum {n : Nat} {a b : World} (h : RowKit.Below n a b) : Below (fun k => n ≤ k) a b := ⟨h.os, h.tape, h.output, h.size, fun k hk => h.block k (by omega)⟩

/-! memory -/
def KOK (N0 : Nat → Prop) (L : Loc) (fz : Nat × Nat) : Kd → Prop
  | .var => fz = (0, 0) ∧ N0 L.r ∧ L.sh = 0
  | .vst => (fz = (0, 0) ∨ L.tot ≤ fz.1) ∧ N0 L.r
  | .grow => fz = (0, 0) ∧ N0 L.r
  | .str => (fz = (0, 0) ∨ L.tot ≤ fz.1) ∧ N0 L.r
  | .ro => True

def CellsAt (β : Bij) (c : Array Value) (sh : Nat) (xs : List Value) : Prop :=
  ∀ (i : Nat) v, xs[i]? = some v → ∃ v', c[sh + i]? = some v' ∧ V β v v'

/-- Entries of a map. -/
inductive EL (β : Bij) : List (Value × Value × Nat) → List MapEntry → Prop where
  | nil : EL β [] []
  | cons {k v : Value} {n : Nat} {e : MapEntry} {r : List (Value × Value × Nat)} {r' : List MapEntry} :
      V β k e.key → V β v e.val → n = e.born → EL β r r' → EL β ((k, v, n) :: r) (e :: r')

theorem EL.mono {β β' : Bij} (h : ∀ b L, β b = some L → β' b = some L) {l : List (Value × Value × Nat)} {l' : List MapEntry} (e : EL β l l') : EL β' l l' := by
  induction e with
  | nil => exact .nil
  | cons a b c _ ih => exact .cons (a.mono h) (b.mono h) c ih

/-- The map that an iterator walks over. -/
def MO (β : Bij) : Option Nat → Option Nat → Prop
  | none, none => True
  | some a, some b => ∃ L, β a = some L ∧ L.r = b
  | _, _ => False

theorem MO.mono {β β' : Bij} (h : ∀ b L, β b = some L → β' b = some L) : ∀ {a b : Option Nat}, MO β a b → MO β' a b
  | none, none, _ => trivial
  | some _, some _, ⟨L, h1, h2⟩ => ⟨L, h _ _ h1, h2⟩

def OSim (N0 : Nat → Prop) (β : Bij) (w : World) : Blk → Loc → Prop
  | .cells xs elem k, L => ∃ c fz, w.heap[L.r]? = some (.cells c elem fz) ∧ c.size = L.tot ∧ L.sh + xs.length ≤ L.tot ∧
      CellsAt β c L.sh xs ∧ KOK N0 L fz k
  | .map es clock, L => ∃ es', w.heap[L.r]? = some (.map es' clock) ∧ EL β es es'.toList ∧ N0 L.r
  | .iter s pos, L => w.heap[L.r]? = some (.stringIter s pos) ∧ N0 L.r ∧ L.sh = 0
  | .miter m since seen last, L => (∃ m', MO β m m' ∧ w.heap[L.r]? = some (.mapIter m' since seen.toArray last)) ∧ N0 L.r ∧ L.sh = 0
  | .dead, _ => True

structure Inv (N0 : Nat → Prop) (β : Bij) (g : Nat → Option Blk) (w : World) : Prop where
  live : ∀ b o, g b = some o → ∃ L, β b = some L ∧ OSim N0 β w o L
  alone : ∀ b1 b2 o1 o2 L1 L2, b1 ≠ b2 → g b1 = some o1 → g b2 = some o2 → o1.live = true → o2.live = true →
    β b1 = some L1 → β b2 = some L2 → L1.r = L2.r → o1.isRo = true ∧ o2.isRo = true
  size : (∀ r, w.heap.size ≤ r → N0 r)

theorem OSim.mono {N0 : Nat → Prop} {β β' : Bij} (h : ∀ b L, β b = some L → β' b = some L) {w w' : World} {o : Blk} {L : Loc}
    (hw : w'.heap[L.r]? = w.heap[L.r]?) (k : OSim N0 β w o L) : OSim N0 β' w' o L := by
  cases o with
  | cells xs elem kd =>
    obtain ⟨c, fz, h1, h2, h3, h4, h5⟩ := k
    refine ⟨c, fz, hw ▸ h1, h2, h3, fun i v hi => ?_, h5⟩
    obtain ⟨v', a, b⟩ := h4 i v hi
    exact ⟨v', a, b.mono h⟩
  | map es clock =>
    obtain ⟨es', h1, h2, h3⟩ := k
    exact ⟨es', hw ▸ h1, h2.mono h, h3⟩
  | iter s pos => exact ⟨hw ▸ k.1, k.2⟩
  | miter m since seen last =>
    obtain ⟨⟨m', h1, h2⟩, h3⟩ := k
    exact ⟨⟨m', h1.mono h, hw ▸ h2⟩, h3⟩
  | dead => trivial

theorem OSim.lt {N0 : Nat → Prop} {β : Bij} {w : World} {o : Blk} {L : Loc} (k : OSim N0 β w o L) (hl : o.live = true) : L.r < w.heap.size := by
  have lt : ∀ {x : Obj}, w.heap[L.r]? = some x → L.r < w.heap.size := fun h => (Array.getElem?_eq_some_iff.1 h).1
  cases o with
  | cells xs elem kd => obtain ⟨c, fz, h1, _⟩ := k; exact lt h1
  | map es clock => obtain ⟨es', h1, _⟩ := k; exact lt h1
  | iter s pos => exact lt k.1
  | miter m since seen last => obtain ⟨⟨m', h1, h2⟩, h3⟩ := k; exact lt h2
  | dead => simp [Blk.live] at hl

theorem OSim.own {N0 : Nat → Prop} {β : Bij} {w : World} {o : Blk} {L : Loc} (k : OSim N0 β w o L) (hl : o.live = true) (hr : o.isRo = false) : N0 L.r := by
  cases o with
  | cells xs elem kd =>
    obtain ⟨c, fz, h1, h2, h3, h4, h5⟩ := k
    cases kd with
    | var => exact h5.2.1
    | vst => exact h5.2
    | grow => exact h5.2
    | str => exact h5.2
    | ro => simp [Blk.isRo] at hr
  | map es clock => obtain ⟨es', h1, h2, h3⟩ := k; exact h3
  | iter s pos => exact k.2.1
  | miter m since seen last => exact k.2.1
  | dead => simp [Blk.live] at hl

/-- A block of the model's is written: the world behind. -/
def setBlk (w : World) (r : Nat) (o : Obj) : World := { w with heap := w.heap.setIfInBounds r o }

theorem setBlk_same {w : World} {r : Nat} {o : Obj} (h : r < w.heap.size) : (setBlk w r o).heap[r]? = some o := by
  simp [setBlk, h]
theorem setBlk_other {w : World} {r r' : Nat} {o : Obj} (h : r' ≠ r) : (setBlk w r o).heap[r']? = w.heap[r']? := by
  simp [setBlk, Array.getElem?_setIfInBounds_ne (Ne.symm h)]
theorem setBlk_size {w : World} {r : Nat} {o : Obj} : (setBlk w r o).heap.size = w.heap.size := by simp [setBlk]
theorem setBlk_below {N0 : Nat → Prop} {w : World} {r : Nat} {o : Obj} (h : N0 r) : Below N0 w (setBlk w r o) :=
  ⟨rfl, rfl, rfl, by simp [setBlk], fun k hk => setBlk_other (fun e => hk (e ▸ h))⟩

/-- A block is written, on both sides. -/
theorem Inv.write {N0 : Nat → Prop} {β : Bij} {g g' : Nat → Option Blk} {w : World} (h : Inv N0 β g w) {b : Nat} {o o' : Blk} {L : Loc} {x : Obj}
    (hb : g b = some o) (hl : o.live = true) (hro : o.isRo = false) (hL : β b = some L)
    (hg : ∀ n, g' n = if b = n then some o' else g n) (ho : OSim N0 β (setBlk w L.r x) o' L) : Inv N0 β g' (setBlk w L.r x) := by
  obtain ⟨L0, hL0, hs⟩ := h.live b o hb
  have : L0 = L := by rw [hL] at hL0; cases hL0; rfl
  subst this
  refine ⟨fun n y hy => ?_, fun b1 b2 o1 o2 L1 L2 hne h1 h2 l1 l2 e1 e2 er => ?_, by rw [setBlk_size]; exact h.size⟩
  · rw [hg] at hy
    by_cases hn : b = n
    · subst hn; rw [if_pos rfl] at hy; cases hy; exact ⟨L0, hL, ho⟩
    · rw [if_neg hn] at hy
      obtain ⟨Ln, hLn, hsn⟩ := h.live n y hy
      refine ⟨Ln, hLn, ?_⟩
      cases hd : y.live with
      | false => cases y with | dead => trivial | _ => simp [Blk.live] at hd
      | true =>
        refine hsn.mono (fun _ _ e => e) (setBlk_other fun e => ?_)
        have := h.alone n b y o Ln L0 (fun e => hn e.symm) hy hb hd hl hLn hL e
        rw [hro] at this; exact absurd this.2 (by simp)
  · rw [hg] at h1 h2
    by_cases a1 : b = b1
    · subst a1
      rw [if_pos rfl] at h1; cases h1
      rw [if_neg hne] at h2
      have := h.alone b b2 o o2 L1 L2 hne hb h2 hl l2 e1 e2 er
      rw [hro] at this; exact absurd this.1 (by simp)
    · rw [if_neg a1] at h1
      by_cases a2 : b = b2
      · subst a2
        rw [if_pos rfl] at h2; cases h2
        have := h.alone b1 b o1 o L1 L2 hne h1 hb l1 hl e1 e2 er
        rw [hro] at this; exact absurd this.2 (by simp)
      · rw [if_neg a2] at h2
        exact h.alone b1 b2 o1 o2 L1 L2 hne h1 h2 l1 l2 e1 e2 er

/-- The map of blocks with one more. -/
def addB (β : Bij) (b : Nat) (L : Loc) : Bij := fun n => if n = b then some L else β n

theorem addB_same (β : Bij) (b : Nat) (L : Loc) : addB β b L b = some L := by simp [addB]
theorem addB_keep {β : Bij} {b : Nat} {L : Loc} (h : β b = none) : ∀ n K, β n = some K → addB β b L n = some K := by
  intro n K hn
  unfold addB
  rw [if_neg (fun e => by subst e; rw [h] at hn; cases hn)]; exact hn
theorem addB_ext {β : Bij} {b lo hi : Nat} {L : Loc} (h : β b = none) (h1 : lo ≤ b) (h2 : b < hi) : Ext β (addB β b L) lo hi := by
  refine ⟨addB_keep h, fun n K hn hn' => ?_⟩
  unfold addB at hn
  by_cases e : n = b
  · subst e; exact ⟨h1, h2⟩
  · rw [if_neg e, hn'] at hn; cases hn

def pushW (w : World) (o : Obj) : World := { w with heap := w.heap.push o }
theorem pushW_old {w : World} {o : Obj} {k : Nat} (h : k < w.heap.size) : (pushW w o).heap[k]? = w.heap[k]? := by
  show (w.heap.push o)[k]? = _
  rw [Array.getElem?_push, if_neg (by omega)]
theorem pushW_new {w : World} {o : Obj} : (pushW w o).heap[w.heap.size]? = some o := by
  show (w.heap.push o)[w.heap.size]? = _
  rw [Array.getElem?_push, if_pos rfl]
theorem pushW_below {w : World} {o : Obj} {N0 : Nat → Prop} (h : (∀ r, w.heap.size ≤ r → N0 r)) : Below N0 w (pushW w o) :=
  ⟨rfl, rfl, rfl, by simp [pushW], fun k hk => pushW_old (Nat.lt_of_not_le fun e => hk (h k e))⟩

/-- A new block, on both sides. -/
theorem Inv.push {N0 : Nat → Prop} {β : Bij} {g g' : Nat → Option Blk} {w : World} (h : Inv N0 β g w) {b : Nat} {o' : Blk} {L : Loc} {x : Obj}
    (hb : β b = none) (hr : L.r = w.heap.size) (hg : ∀ n, g' n = if b = n then some o' else g n)
    (ho : OSim N0 (addB β b L) (pushW w x) o' L) : Inv N0 (addB β b L) g' (pushW w x) := by
  refine ⟨fun n y hy => ?_, fun b1 b2 o1 o2 L1 L2 hne h1 h2 l1 l2 e1 e2 er => ?_, fun r hr => h.size r (by simp [pushW] at hr; omega)⟩
  · rw [hg] at hy
    by_cases hn : b = n
    · subst hn; rw [if_pos rfl] at hy; cases hy; exact ⟨L, addB_same .., ho⟩
    · rw [if_neg hn] at hy
      obtain ⟨Ln, hLn, hsn⟩ := h.live n y hy
      refine ⟨Ln, addB_keep hb _ _ hLn, ?_⟩
      cases hd : y.live with
      | false => cases y with | dead => trivial | _ => simp [Blk.live] at hd
      | true => exact hsn.mono (addB_keep hb) (pushW_old (hsn.lt hd))
  · rw [hg] at h1 h2
    have away : ∀ {n : Nat} {y : Blk} {K : Loc}, g n = some y → y.live = true → b ≠ n → addB β b L n = some K → K.r < w.heap.size ∧ β n = some K := by
      intro n y K hn hd hne hK
      obtain ⟨Ln, hLn, hsn⟩ := h.live n y hn
      unfold addB at hK
      rw [if_neg (fun e => hne e.symm), hLn] at hK
      cases hK
      exact ⟨hsn.lt hd, hLn⟩
    by_cases a1 : b = b1
    · subst a1
      rw [if_neg hne] at h2
      rw [addB_same] at e1; cases e1
      have := (away h2 l2 hne e2).1
      omega
    · rw [if_neg a1] at h1
      by_cases a2 : b = b2
      · subst a2
        rw [addB_same] at e2; cases e2
        have := (away h1 l1 a1 e1).1
        omega
      · rw [if_neg a2] at h2
        exact h.alone b1 b2 o1 o2 L1 L2 hne h1 h2 l1 l2 (away h1 l1 a1 e1).2 (away h2 l2 a2 e2).2 er

/-- What the world's other parts are does not count. -/
theorem Inv.world {N0 : Nat → Prop} {β : Bij} {g : Nat → Option Blk} {w w' : World} (h : Inv N0 β g w) (hh : w'.heap = w.heap) : Inv N0 β g w' := by
  refine ⟨fun b o hb => ?_, h.alone, by rw [hh]; exact h.size⟩
  obtain ⟨L, a, k⟩ := h.live b o hb
  exact ⟨L, a, k.mono (fun _ _ e => e) (by rw [hh])⟩

theorem Inv.congr {N0 : Nat → Prop} {β : Bij} {g g' : Nat → Option Blk} {w : World} (h : Inv N0 β g w) (hg : ∀ n, g' n = g n) : Inv N0 β g' w := by
  have : g' = g := funext hg
  rw [this]; exact h

end
end Go.Ideal

namespace Go.Ideal
noncomputable section
open Go Go.RowKit

def Fresh (β : Bij) (lo hi : Nat) : Prop := ∀ b, lo ≤ b → b < hi → β b = none

/-- A step of the ideal machine, and the model's: what holds behind it. -/
structure Out (N0 : Nat → Prop) (β : Bij) (s : S) (w : World) (s' : S) (β' : Bij) (w' : World) : Prop where
  ext : Ext β β' s.nx s'.nx
  inv : Inv N0 β' s'.h.get w'
  below : Below N0 w w'

theorem Out.same {N0 : Nat → Prop} {β : Bij} {s s' : S} {w : World} (h : Inv N0 β s.h.get w) (e : s'.h = s.h) : Out N0 β s w s' β w :=
  ⟨Ext.refl _ _ _, by rw [e]; exact h, Below.refl _ _⟩

theorem Out.trans {N0 : Nat → Prop} {β β' β'' : Bij} {s s' s'' : S} {w w' w'' : World} (h : Out N0 β s w s' β' w') (k : Out N0 β' s' w' s'' β'' w'')
    (h1 : s.nx ≤ s'.nx) (h2 : s'.nx ≤ s''.nx) : Out N0 β s w s'' β'' w'' :=
  ⟨h.ext.trans k.ext h1 h2, k.inv, h.below.trans k.below⟩

theorem V.zero {P : Program} {t : TypeId} {i : TI} (h : TIOK P t i) (β : Bij) : V β i.zero i.zero := by
  have hz := h.zero
  cases e : i.zero with
  | agg cs => rw [e] at hz; exact .agg (VL.of_simple hz)
  | _ => rw [e] at hz; exact V.of_simple (by simpa [cellsL] using hz)

end
end Go.Ideal
