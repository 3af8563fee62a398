/- The path machine: the ideal machine along one path through its tests, which a script names by their numbers; what the path takes for granted is kept as one test. -/
import Derived.Test.YtdkofgkmhgmmmaaGreatDoorLayer
namespace Go.Ideal
set_option linter.all false
set_option linter.unusedSimpArgs false
set_option linter.unusedVariables false
noncomputable section
open Go Go.RowKit
set_option maxHeartbeats 1000000

/-- What the script says at a step: its test holds, it does not; the operation goes its free way; here it stops; the first is picked, or the second; what it comes to is true, is false; the number that it comes to, or how long. -/
inductive Turn where
  | yes | no | free | stop | left | right | tru | fal
  | num (n : Nat)

structure PS where
  s : S
  ct : Nat
  sc : List (Nat × Turn)
  ob : Bool

def PM (α : Type) : Type := PS → Option (α × PS)

section
variable {α β γ : Type}

def PM.pure (a : α) : PM α := fun t => some (a, t)
def PM.bind (m : PM α) (f : α → PM β) : PM β := fun t =>
  match m t with
  | some (a, t') => f a t'
  | none => none
instance : Monad PM where
  pure := PM.pure
  bind := PM.bind

def failP : PM α := fun _ => none
def liftP (m : M α) : PM α := fun t =>
  match m t.s with
  | some (a, s') => some (a, ⟨s', t.ct, t.sc, t.ob⟩)
  | none => none
def mustP (b : Bool) : PM Unit := fun t => some ((), ⟨t.s, t.ct, t.sc, and b t.ob⟩)
def tickP : PM (Option Turn) := fun t =>
  match t.sc with
  | [] => some (none, t)
  | (n, a) :: r => cond (Nat.beq n t.ct) (match a with
    | .stop => none
    | a => some (some a, ⟨t.s, t.ct + 1, r, t.ob⟩)) (some (none, ⟨t.s, t.ct + 1, t.sc, t.ob⟩))

/-- A test: taken as the script says, or asked. -/
def turnP (q : Option Turn) (b : Bool) (x y : PM α) : PM α :=
  match q with
  | some .yes => mustP b >>= fun _ => x
  | some .no => mustP (!b) >>= fun _ => y
  | _ => cond b x y

/-- A run along a path, whose premises hold, is the machine's own run. -/
def Snd (p : PM α) (m : M α) : Prop := ∀ t a t', p t = some (a, t') → t'.ob = true → t.ob = true ∧ m t.s = some (a, t'.s)

theorem Snd.lift (m : M α) : Snd (liftP m) m := by
  intro t a t' h ho
  unfold liftP at h
  cases hm : m t.s with
  | none => rw [hm] at h; cases h
  | some q => obtain ⟨b, s1⟩ := q; rw [hm] at h; cases h; exact ⟨ho, rfl⟩

theorem Snd.fail (m : M α) : Snd failP m := fun _ _ _ h => by cases h

theorem Snd.pure (a : α) : Snd (Pure.pure a : PM α) (Pure.pure a : M α) := by
  intro t b t' h ho
  cases h; exact ⟨ho, rfl⟩

theorem bindP_some {m : PM α} {f : α → PM β} {b : β} {s s' : PS} :
    ((m >>= f) s = some (b, s')) ↔ ∃ a s1, m s = some (a, s1) ∧ f a s1 = some (b, s') := by
  show (PM.bind m f s = some (b, s')) ↔ _
  unfold PM.bind
  cases m s with
  | none => simp
  | some p =>
    obtain ⟨a, s1⟩ := p
    constructor
    · intro h; exact ⟨a, s1, rfl, h⟩
    · rintro ⟨a', s1', e, h⟩; cases e; exact h

theorem Snd.bind {p : PM α} {m : M α} {f : α → PM β} {g : α → M β} (h : Snd p m) (k : ∀ a, Snd (f a) (g a)) : Snd (p >>= f) (m >>= g) := by
  intro t b t' e ho
  obtain ⟨a, t1, hp, e⟩ := bindP_some.1 e
  obtain ⟨o1, e1⟩ := k a t1 b t' e ho
  obtain ⟨o2, e2⟩ := h t a t1 hp o1
  exact ⟨o2, bind_some.2 ⟨a, t1.s, e2, e1⟩⟩

theorem tickP_some {t t1 : PS} {q : Option Turn} (hq : tickP t = some (q, t1)) : t1.s = t.s ∧ t1.ob = t.ob := by
  unfold tickP at hq
  split at hq
  · cases hq; exact ⟨rfl, rfl⟩
  · rename_i n a r _
    cases hb : Nat.beq n t.ct with
    | true =>
      rw [hb] at hq
      cases a <;> first | (cases hq; done) | (cases hq; exact ⟨rfl, rfl⟩)
    | false => rw [hb] at hq; cases hq; exact ⟨rfl, rfl⟩

theorem Snd.tick {f : Option Turn → PM β} {m : M β} (h : ∀ a, Snd (f a) m) : Snd (tickP >>= f) m := by
  intro t b t' e ho
  obtain ⟨a, t1, hp, e⟩ := bindP_some.1 e
  obtain ⟨e1, e2⟩ := tickP_some hp
  have := h a t1 b t' e ho
  rw [e1, e2] at this
  exact this

/-- What was not granted stays so. -/
def Keeps (p : PM α) : Prop := ∀ t a t', p t = some (a, t') → t'.ob = true → t.ob = true

theorem Snd.keeps {p : PM α} {m : M α} (h : Snd p m) : Keeps p := fun t a t' e o => (h t a t' e o).1

theorem Keeps.bind {p : PM α} {f : α → PM β} (h : Keeps p) (k : ∀ a, Keeps (f a)) : Keeps (p >>= f) := by
  intro t b t' e ho
  obtain ⟨a, t1, hp, e⟩ := bindP_some.1 e
  exact h t a t1 hp (k a t1 b t' e ho)

theorem Keeps.pure (a : α) : Keeps (Pure.pure a : PM α) := (Snd.pure a).keeps
theorem Keeps.lift (m : M α) : Keeps (liftP m) := (Snd.lift m).keeps
theorem Keeps.fail : Keeps (failP : PM α) := fun _ _ _ h => by cases h

theorem Keeps.must (b : Bool) : Keeps (mustP b) := by
  intro t a t' e ho
  cases e
  cases b with
  | true => exact ho
  | false => cases ho

theorem Keeps.tick : Keeps tickP := by
  intro t a t' e ho
  rw [(tickP_some e).2] at ho; exact ho

theorem Snd.must {b : Bool} {f : Unit → PM β} {m : M β} (hk : Keeps (f ())) (h : b = true → Snd (f ()) m) : Snd (mustP b >>= f) m := by
  intro t c t' e ho
  have e : f () ⟨t.s, t.ct, t.sc, and b t.ob⟩ = some (c, t') := e
  cases b with
  | true => exact h rfl _ c t' e ho
  | false => exact absurd (hk _ _ _ e ho) (by simp)

theorem Snd.turn {q : Option Turn} {b : Bool} {x y : PM α} {m : M α} (hx : Snd x m ∨ b = false) (hy : Snd y m ∨ b = true) (kx : Keeps x) (ky : Keeps y) : Snd (turnP q b x y) m := by
  have hc : Snd (cond b x y) m := by
    cases b with
    | true => exact hx.resolve_right (by decide)
    | false => exact hy.resolve_right (by decide)
  unfold turnP
  split
  · exact Snd.must kx fun e => hx.resolve_right (by rw [e]; decide)
  · exact Snd.must ky fun e => hy.resolve_right (by intro e'; rw [e'] at e; cases e)
  · exact hc

/-- A test of the machine's own. -/
theorem Snd.turn_cond {q : Option Turn} {b : Bool} {x y : PM α} {m1 m2 : M α} (hx : Snd x m1) (hy : Snd y m2) : Snd (turnP q b x y) (cond b m1 m2) := by
  cases b with
  | true => exact Snd.turn (.inl hx) (.inr rfl) hx.keeps hy.keeps
  | false => exact Snd.turn (.inr rfl) (.inl hy) hx.keeps hy.keeps

end

/-! operations by their free ways: what they ask of their operands is taken for granted -/
def vInt : Value → Int
  | .int _ n => n
  | _ => 0
def isIntV (k : IntKind) : Value → Bool
  | .int k' _ => sameK k k'
  | _ => false
def vBool : Value → Bool
  | .bool b => b
  | _ => false
def isBoolV : Value → Bool
  | .bool _ => true
  | _ => false
def vStr : Value → ByteArray
  | .string s => s
  | _ => ⟨⟨[]⟩⟩
def isStrV : Value → Bool
  | .string _ => true
  | _ => false
def atD (xs : List Value) (n : Nat) : Value :=
  match nth xs n with
  | some v => v
  | none => undef
def natOf : Int → Nat
  | .ofNat n => n
  | .negSucc _ => 0
def isNat : Int → Bool
  | .ofNat _ => true
  | .negSucc _ => false

section
variable (E : Env)

def findP (k : Value) : List (Value × Value × Nat) → Nat → PM (Option (Nat × Value))
  | [], _ => pure none
  | (a, v, _) :: r, i => do
    let b ← liftP (liftO (keyEq k a))
    let q ← tickP
    turnP q b (pure (some (i, v))) (findP k r (i + 1))

def lookupP (t : TypeId) (x k : Value) (ok : Bool) : PM Value :=
  match E.ti t with
  | none => failP
  | some i => match i.desc with
    | .map kt et => match E.ti kt, E.ti et with
      | some ki, some ei => do
        liftP (guardM (keyD ki.desc k))
        let es ← liftP (entriesM x)
        match ← findP k es 0 with
        | some (_, v) => pure (cond ok (.tuple ⟨[v, .bool true]⟩) v)
        | none => pure (cond ok (.tuple ⟨[ei.zero, .bool false]⟩) ei.zero)
      | _, _ => failP
    | _ => failP

def indexAddrP (t : TypeId) (x ix : Value) : PM Value :=
  match E.ti t, ix with
  | some i, .int _ z => match i.desc, x with
    | .array len e, .pointer (some ⟨b, off, none⟩) => match E.ti e with
      | some j => mustP (isNat z && Nat.blt (natOf z) len) >>= fun _ => pure (ptrTo b (off + natOf z * j.size))
      | none => failP
    | .slice e, .slice (some ⟨b, off, none⟩) len _ => match E.ti e with
      | some j => mustP (isNat z && Nat.blt (natOf z) len) >>= fun _ => pure (ptrTo b (off + natOf z * j.size))
      | none => failP
    | _, _ => failP
  | _, _ => failP

/-- One cell at a place that is not known, as its type says. -/
def cellP (i : TI) (xs : List Value) (off : Nat) : PM Value :=
  match i.desc with
  | .int k => mustP (Nat.blt off xs.length && isIntV k (atD xs off)) >>= fun _ => pure (.int k (vInt (atD xs off)))
  | .bool => mustP (Nat.blt off xs.length && isBoolV (atD xs off)) >>= fun _ => pure (.bool (vBool (atD xs off)))
  | .string => mustP (Nat.blt off xs.length && isStrV (atD xs off)) >>= fun _ => pure (.string (vStr (atD xs off)))
  | .struct _ => failP
  | .array _ _ => failP
  | _ => mustP (Nat.blt off xs.length) >>= fun _ => pure (atD xs off)

def loadP (t : TypeId) (a : Value) : PM Value :=
  match E.ti t, a with
  | some i, .pointer (some ⟨b, off, none⟩) => liftP (rd b) >>= fun o => match o with
    | .cells xs _ _ => cellP i xs off
    | _ => failP
  | _, _ => failP

def byteAt (l : List UInt8) (n : Nat) : UInt8 :=
  match nth l n with
  | some b => b
  | none => 0

def indexP (t : TypeId) (x ix : Value) : PM Value :=
  match E.ti t, ix with
  | some i, .int _ z => match i.desc, x with
    | .string, .string s => mustP (isNat z && Nat.blt (natOf z) (bl s).length) >>= fun _ => pure (.int .u8 (Int.ofNat (byteAt (bl s) (natOf z)).toNat))
    | _, _ => failP
  | _, _ => failP

def segOf (l : List UInt8) : Nat → Nat → List UInt8
  | _, 0 => []
  | k, n + 1 => byteAt l k :: segOf l (k + 1) n

/-- A piece of a string, so long. -/
def segP (ev : Operand → Option Value) (t : TypeId) (x : Operand) (lo hi mx : Option Operand) (n : Nat) : PM Value :=
  liftP (liftO (ev x)) >>= fun a => liftP (liftO (evalO ev lo)) >>= fun u => liftP (liftO (evalO ev hi)) >>= fun v => liftP (liftO (evalO ev mx)) >>= fun m =>
    match E.ti t with
    | some i => match i.desc, a, u, v, m with
      | .string, .string s, some (.int _ p), some (.int _ q), none => mustP (isNat p && isNat q && Nat.beq (natOf q) (natOf p + n) && Nat.ble (natOf q) (bl s).length) >>= fun _ => pure (.string (mkS (segOf (bl s) (natOf p) n)))
      | _, _, _, _, _ => failP
    | none => failP

/-- A test that comes out true. -/
def truP (v : Value) : PM Value :=
  match v with
  | .bool b => mustP b >>= fun _ => pure (.bool true)
  | _ => failP

/-- A test that comes out false. -/
def falP (v : Value) : PM Value :=
  match v with
  | .bool b => mustP (!b) >>= fun _ => pure (.bool false)
  | _ => failP

/-- The next sign of a string that is not known. -/
def nextP (x : Value) (isString : Bool) : PM Value :=
  match x, isString with
  | .pointer (some ⟨b, 0, none⟩), true => liftP (rd b) >>= fun o => match o with
    | .iter s pos => match nth (bl s) pos with
      | some c => mustP (Nat.blt c.toNat 128) >>= fun _ => liftP (wr b (.iter s (pos + 1))) >>= fun _ => pure (.tuple ⟨[.bool true, .int .i64 (Int.ofNat pos), .int .i32 (Int.ofNat c.toNat)]⟩)
      | none => pure (.tuple ⟨[.bool false]⟩)
    | _ => failP
  | _, _ => failP

/-- A string so long, at a place that is not known. -/
def loadNP (t : TypeId) (a : Value) (n : Nat) : PM Value :=
  match E.ti t, a with
  | some i, .pointer (some ⟨b, off, none⟩) => liftP (rd b) >>= fun o => match o with
    | .cells xs _ _ => match i.desc with
      | .string => mustP (Nat.blt off xs.length && isStrV (atD xs off) && Nat.beq (bl (vStr (atD xs off))).length n) >>= fun _ => pure (.string (mkS (segOf (bl (vStr (atD xs off))) 0 n)))
      | _ => failP
    | _ => failP
  | _, _ => failP

/-- One of two, as the script says. -/
def pickP (ev : Operand → Option Value) (left : Bool) (c a b : Operand) : PM Value := liftP (liftO (ev c)) >>= fun v =>
  match v with
  | .bool t => cond left (mustP t >>= fun _ => liftP (liftO (ev a))) (mustP (!t) >>= fun _ => liftP (liftO (ev b)))
  | _ => failP

/-- Sums and the like that stay within their kind. -/
def arithP (op : BinOp) (a b : Value) : PM Value :=
  match a, b with
  | .int k x, .int k' y => cond (sameK k k') (match op with
    | .add => mustP (eqI (wrapF k (x + y)) (x + y)) >>= fun _ => pure (.int k (x + y))
    | .sub => mustP (eqI (wrapF k (x - y)) (x - y)) >>= fun _ => pure (.int k (x - y))
    | .mul => mustP (eqI (wrapF k (x * y)) (x * y)) >>= fun _ => pure (.int k (x * y))
    | _ => failP) failP
  | _, _ => failP

/-- A number that its new kind holds. -/
def convP (s d : TypeId) (x : Value) : PM Value :=
  match E.ti s, E.ti d, x with
  | some _, some j, .int _ n => match j.desc with
    | .int k => mustP (eqI (wrapF k n) n) >>= fun _ => pure (.int k n)
    | _ => failP
  | _, _, _ => failP

def putP (b off : Nat) (ys : List Value) : PM Unit :=
  liftP (rd b) >>= fun o => match o with
  | .cells xs e k => match k with
    | .ro => failP
    | k => mustP (Nat.ble (off + ys.length) xs.length && ys.all one) >>= fun _ => liftP (wr b (.cells (splice xs off ys) e k))
  | _ => failP

def storeP (t : TypeId) (a v : Value) : PM Value :=
  match E.ti t, a with
  | some i, .pointer (some ⟨b, off, none⟩) => liftP (guardM (Nat.beq (cellsL v).length i.size)) >>= fun _ => putP b off (cellsL v) >>= fun _ => pure undef
  | _, _ => failP

def updateP (t : TypeId) (x k v : Value) : PM Value :=
  match E.ti t with
  | none => failP
  | some i => match i.desc with
    | .map kt _ => match E.ti kt with
      | some ki => liftP (guardM (keyD ki.desc k)) >>= fun _ => match x with
        | .map (some b) => liftP (rd b) >>= fun o => match o with
          | .map es clock => findP k es 0 >>= fun r => (match r with
            | some (j, _) => liftP (wr b (.map (setNth es j fun e => (k, v, e.2.2)) clock))
            | none => liftP (wr b (.map (es ++ [(k, v, clock)]) (clock + 1)))) >>= fun _ => pure undef
          | _ => failP
        | _ => failP
      | none => failP
    | _ => failP

def removeP (t : TypeId) (x k : Value) : PM Value :=
  match E.ti t with
  | none => failP
  | some i => match i.desc with
    | .map kt _ => match E.ti kt with
      | some ki => liftP (guardM (keyD ki.desc k)) >>= fun _ => match x with
        | .map (some b) => liftP (rd b) >>= fun o => match o with
          | .map es clock => findP k es 0 >>= fun r => (match r with
            | some (j, _) => liftP (wr b (.map (delNth es j) clock))
            | none => liftP (wr b (.map es clock))) >>= fun _ => pure (.tuple ⟨[]⟩)
          | _ => failP
        | _ => failP
      | none => failP
    | _ => failP

/-- Fields that are the same, each taken for granted. -/
def eqFieldsP (eq : TypeId → Value → Value → Option Bool) : List Field → List Value → List Value → PM Bool
  | [], _, _ => pure true
  | f :: r, xs, ys => match E.ti f.type with
    | none => failP
    | some j => match takeV j xs f.offset, takeV j ys f.offset with
      | some a, some b => match eq f.type a b with
        | some t => mustP t >>= fun _ => eqFieldsP eq r xs ys
        | none => failP
      | _, _ => failP

/-- Two structs that are the same. -/
def eqP (t : TypeId) (a b : Value) : PM Value :=
  match E.ti t with
  | none => failP
  | some i => match i.desc, a, b with
    | .struct fields, .agg x, .agg y => liftP (guardM (noIface E 12 t)) >>= fun _ => cond i.eq (eqFieldsP E (eqD E 11) fields.toList x.toList y.toList >>= fun v => pure (.bool v)) failP
    | _, _, _ => failP

def binP (op : BinOp) (t : TypeId) (a b : Value) : PM Value :=
  match op, a with
  | .eql, .agg _ => eqP E t a b
  | _, _ => arithP op a b

/-- An operation by its free way. -/
def freeOp (ev : Operand → Option Value) (o : Op) : PM Value :=
  match o with
  | .lookup t x k ok => do lookupP E t (← liftP (liftO (ev x))) (← liftP (liftO (ev k))) ok
  | .indexAddr t x i => do indexAddrP E t (← liftP (liftO (ev x))) (← liftP (liftO (ev i)))
  | .load t a => do loadP E t (← liftP (liftO (ev a)))
  | .index t x i => do indexP E t (← liftP (liftO (ev x))) (← liftP (liftO (ev i)))
  | .next x b => liftP (liftO (ev x)) >>= fun a => nextP a b
  | .binOp op t x y _ => liftP (liftO (ev x)) >>= fun a => liftP (liftO (ev y)) >>= fun b => binP E op t a b
  | .convert s d x => liftP (liftO (ev x)) >>= fun a => convP E s d a
  | .store t a x => liftP (liftO (ev a)) >>= fun a => liftP (liftO (ev x)) >>= fun b => storeP E t a b
  | .mapUpdate t m k x | .insert t m k x => liftP (liftO (ev m)) >>= fun m => liftP (liftO (ev k)) >>= fun k => liftP (liftO (ev x)) >>= fun x => updateP E t m k x
  | .call c => match c.callee with
    | .builtin .delete => liftP (liftO (evalL ev c.args.toList)) >>= fun args => match args, c.argTypes.toList with
      | [m, k], t :: _ => removeP E t m k
      | _, _ => failP
    | _ => liftP (opM E ev o)
  | o => liftP (opM E ev o)

/-- A number, as the script says. -/
def numP (n : Nat) (v : Value) : PM Value :=
  match v with
  | .int k z => mustP (eqI z (.ofNat n)) >>= fun _ => pure (.int k (.ofNat n))
  | _ => failP

/-- An operation of the machine's own, as the script says. -/
def wayOp (q : Option Turn) (ev : Operand → Option Value) (o : Op) : PM Value :=
  match q with
  | some .free => freeOp E ev o
  | some .left => match o with
    | .pick c a b => pickP ev true c a b
    | _ => failP
  | some .right => match o with
    | .pick c a b => pickP ev false c a b
    | _ => failP
  | some (.num n) => match o with
    | .slice t x lo hi mx => segP E ev t x lo hi mx n
    | .load t a => liftP (liftO (ev a)) >>= fun a => loadNP E t a n
    | o => liftP (opM E ev o) >>= numP n
  | some .tru => liftP (opM E ev o) >>= truP
  | some .fal => liftP (opM E ev o) >>= falP
  | _ => liftP (opM E ev o)

def isFree : Option Turn → Bool
  | some .free => true
  | _ => false

abbrev CallP := Bool → FuncId → List Value → PM Value

/-- The free ways of functions that are one step. -/
structure Ways where
  intr : FuncId → Option (List Value → PM Value)
  ext : FuncId → Option (List Value → PM Value)

variable (X : Ways)

def operP (call : CallP) (q : Option Turn) (ev : Operand → Option Value) (o : Op) : PM Value :=
  match o with
  | .call c => match c.callee with
    | .value f => liftP (liftO (ev f)) >>= fun f => liftP (liftO (evalL ev c.args.toList)) >>= fun args => liftP (liftO (target f args)) >>= fun (g, l) =>
      match E.ext g with
      | some e => cond (isFree q) (match X.ext g with
        | some p => p l
        | none => liftP (e l)) (liftP (e l))
      | none => call (isFree q) g l
    | _ => wayOp E q ev o
  | _ => wayOp E q ev o

def stepP (call : CallP) (n : Nat) (ops : Array Oper) (o : Oper) (tm : Tr Value) : PM (Tr Value) :=
  tickP >>= fun q => liftP (liftO (wantedI ops tm o)) >>= fun w =>
    turnP q w (operP E X call q (evalI E tm) o.op >>= fun v => liftP (liftO (putT n tm o.dst v))) (liftP (liftO (putT n tm o.dst undef)))

def runOpsP (call : CallP) (n : Nat) (ops : Array Oper) (l : List Oper) : Tr Value → PM (Tr Value) :=
  @List.rec Oper (fun _ => Tr Value → PM (Tr Value)) (fun tm => pure tm) (fun o _ ih tm => (stepP E X call n ops o tm) >>= ih) l

/-- A step by itself: what it touched. -/
def isoP {α : Type} (m : PM α) : PM (α × Nat × Nat) := fun t =>
  match m ⟨⟨t.s.h, t.s.nx, 0, 0⟩, t.ct, t.sc, t.ob⟩ with
  | none => none
  | some (a, t') => some ((a, t'.s.r, t'.s.w), ⟨⟨t'.s.h, t'.s.nx, t.s.r ||| t'.s.r, t.s.w ||| t'.s.w⟩, t'.ct, t'.sc, t'.ob⟩)

def runDrawP (call : CallP) (n : Nat) (ops : Array Oper) (l : List Oper) : Nat → Seen → Tr Value → PM (Tr Value) :=
  @List.rec Oper (fun _ => Nat → Seen → Tr Value → PM (Tr Value)) (fun _ _ tm => pure tm) (fun o _ ih i seen tm =>
    isoP (stepP E X call n ops o tm) >>= fun (tm', r, w) =>
    liftP (guardM (!clash seen.r seen.w r w || clears ((Region.before ops).getD i 0) r w seen.l)) >>= fun _ =>
    ih (i + 1) ⟨(i, r, w) :: seen.l, seen.r ||| r, seen.w ||| w⟩ tm') l

def runRegionP (call : CallP) (n : Nat) (ops : Array Oper) (draw : Bool) (tm : Tr Value) : PM (Tr Value) :=
  cond draw (liftP (guardM (regOK ops)) >>= fun _ => runDrawP E X call n ops ops.toList 0 ⟨[], 0, 0⟩ tm) (runOpsP E X call n ops ops.toList tm)

def yRegion (call : CallP) (n : Nat) (ops : Array Oper) (d : Bool) (tm : Tr Value) : PM (Ex × Tr Value) := runRegionP E X call n ops d tm >>= fun tm => pure (.normal, tm)
def ySeq (ih : Code → Tr Value → PM (Ex × Tr Value)) (a b : Code) (tm : Tr Value) : PM (Ex × Tr Value) := ih a tm >>= fun r =>
  match r with
  | (.normal, tm) => ih b tm
  | r => pure r
def yCond (ih : Code → Tr Value → PM (Ex × Tr Value)) (c : Operand) (a b : Code) (tm : Tr Value) : PM (Ex × Tr Value) := liftP (liftO (evalI E tm c)) >>= fun v =>
  match v with
  | .bool t => tickP >>= fun q => turnP q t (ih a tm) (ih b tm)
  | _ => failP
def yBlock (ih : Code → Tr Value → PM (Ex × Tr Value)) (id : Nat) (c : Code) (tm : Tr Value) : PM (Ex × Tr Value) := ih c tm >>= fun r =>
  match r with
  | (.exit id', tm) => cond (Nat.beq id' id) (pure (.normal, tm)) (pure (.exit id', tm))
  | r => pure r
def yLoop (ih : Code → Tr Value → PM (Ex × Tr Value)) (c : Code) (tm : Tr Value) : PM (Ex × Tr Value) := ih c tm >>= fun r =>
  match r with
  | (.normal, tm) => ih (.loop c) tm
  | r => pure r

def execPF (call : CallP) (n : Nat) (ih : Code → Tr Value → PM (Ex × Tr Value)) (c : Code) (tm : Tr Value) : PM (Ex × Tr Value) :=
  match c with
  | .skip => pure (.normal, tm)
  | .label _ => pure (.normal, tm)
  | .region _ ops d => yRegion E X call n ops d tm
  | .seq a b => ySeq ih a b tm
  | .cond c a b => yCond E ih c a b tm
  | .block id c => yBlock ih id c tm
  | .loop c => yLoop ih c tm
  | .scope c => ih c tm
  | .exit id => pure (.exit id, tm)
  | .ret => pure (.ret, tm)
  | _ => failP

def execP (call : CallP) (n : Nat) (k : Nat) : Code → Tr Value → PM (Ex × Tr Value) :=
  @Nat.rec (fun _ => Code → Tr Value → PM (Ex × Tr Value)) (fun _ _ => failP) (fun _ ih => execPF E X call n ih) k

theorem execP_succ (call : CallP) (n k : Nat) (c : Code) (tm : Tr Value) : execP E X call n (k + 1) c tm = execPF E X call n (execP E X call n k) c tm := rfl

/-- What a body's end hands back. -/
def endP (fn : Func) (r : Ex × Tr Value) : PM Value :=
  match r with
  | (.exit _, _) => failP
  | (_, tm) => liftP (resultsM E tm fn.results.toList) >>= fun l => pure (oneOf l)

def callP : Nat → CallP
  | 0, _, _, _ => failP
  | k + 1, fr, f, args =>
    match E.intr f with
    | some g => cond fr (match X.intr f with
      | some p => p args
      | none => liftP (g args)) (liftP (g args))
    | none => match E.fn f with
      | none => failP
      | some fn => match fn.body with
        | none => failP
        | some c => liftP (guardM (Nat.ble args.length fn.ntmps)) >>= fun _ =>
          execP E X (callP k) fn.ntmps E.fuel c (argsT args 0 .nil) >>= endP E fn

end

/-! soundness -/
section
variable {E : Env} {X : Ways}

theorem Snd.cond {α : Type} {b : Bool} {x y : PM α} {m1 m2 : M α} (hx : Snd x m1) (hy : Snd y m2) : Snd (cond b x y) (cond b m1 m2) := by cases b <;> assumption

theorem snd_findP (k : Value) : ∀ (l : List (Value × Value × Nat)) (i : Nat), Snd (findP k l i) (liftO (findK k l i))
  | [], _ => Snd.pure _
  | (a, v, n) :: r, i => by
    have e : (liftO (findK k ((a, v, n) :: r) i) : M (Option (Nat × Value))) = liftO (keyEq k a) >>= fun b => _root_.cond b (Pure.pure (some (i, v))) (liftO (findK k r (i + 1))) := by
      cases hk : keyEq k a with
      | none => have e1 : findK k ((a, v, n) :: r) i = none := by simp only [findK, hk]
                rw [e1]; rfl
      | some b => cases b with
        | true => have e1 : findK k ((a, v, n) :: r) i = some (some (i, v)) := by simp only [findK, hk]
                  rw [e1]; rfl
        | false => have e1 : findK k ((a, v, n) :: r) i = findK k r (i + 1) := by simp only [findK, hk]
                   rw [e1]; rfl
    rw [e]
    unfold findP
    exact Snd.bind (Snd.lift _) fun b => Snd.tick fun q => Snd.turn_cond (Snd.pure _) (snd_findP k r (i + 1))

theorem snd_lookupP (t : TypeId) (x k : Value) (ok : Bool) : Snd (lookupP E t x k ok) (lookupM E t x k ok) := by
  unfold lookupP lookupM
  cases hi : E.ti t with
  | none => simp only [hi]; exact Snd.fail _
  | some i =>
    simp only [hi]
    cases hd : i.desc <;> simp only [hd] <;> first | exact Snd.fail _ | skip
    rename_i kt et
    cases hk : E.ti kt with
    | none => simp only [hk]; exact Snd.fail _
    | some ki =>
      cases he : E.ti et with
      | none => simp only [hk, he]; exact Snd.fail _
      | some ei =>
        simp only [hk, he]
        refine Snd.bind (Snd.lift _) fun _ => Snd.bind (Snd.lift _) fun es => Snd.bind (snd_findP _ _ _) fun r => ?_
        cases r with
        | none => exact Snd.pure _
        | some q => exact Snd.pure _

theorem isNat_eq {z : Int} (h : isNat z = true) : z = Int.ofNat (natOf z) := by
  cases z with
  | ofNat n => rfl
  | negSucc n => cases h

theorem snd_indexAddrP (t : TypeId) (x ix : Value) : Snd (indexAddrP E t x ix) (liftO (indexAddrV E t x ix)) := by
  unfold indexAddrP
  split
  · rename_i i k z hi
    split
    · rename_i len e b off hd
      split
      · rename_i j hj
        refine Snd.must (Keeps.pure _) fun h => ?_
        simp only [Bool.and_eq_true] at h
        have : indexAddrV E t (.pointer (some ⟨b, off, none⟩)) (.int k z) = some (ptrTo b (off + natOf z * j.size)) := by
          obtain ⟨n, rfl⟩ : ∃ n, z = Int.ofNat n := ⟨_, isNat_eq h.1⟩
          have h2 : Nat.blt n len = true := h.2
          simp only [indexAddrV, hi, hd, hj, h2, cond_true]; rfl
        rw [this]; exact Snd.pure _
      · exact Snd.fail _
    · rename_i e b off len c hd
      split
      · rename_i j hj
        refine Snd.must (Keeps.pure _) fun h => ?_
        simp only [Bool.and_eq_true] at h
        have : indexAddrV E t (.slice (some ⟨b, off, none⟩) len c) (.int k z) = some (ptrTo b (off + natOf z * j.size)) := by
          obtain ⟨n, rfl⟩ : ∃ n, z = Int.ofNat n := ⟨_, isNat_eq h.1⟩
          have h2 : Nat.blt n len = true := h.2
          simp only [indexAddrV, hi, hd, hj, h2, cond_true]; rfl
        rw [this]; exact Snd.pure _
      · exact Snd.fail _
    · exact Snd.fail _
  · exact Snd.fail _

theorem nth_atD {xs : List Value} {n : Nat} (h : Nat.blt n xs.length = true) : nth xs n = some (atD xs n) := by
  have := blt_iff.1 h
  unfold atD
  rw [nth_eq, List.getElem?_eq_getElem this]

theorem sameK_eq {k k' : IntKind} (h : sameK k k' = true) : k = k' := by cases k <;> cases k' <;> first | rfl | cases h

theorem snd_cellP (i : TI) (xs : List Value) (off : Nat) : Snd (cellP i xs off) (liftO (takeV i xs off)) := by
  have one : isAggD i.desc = false → Nat.blt off xs.length = true → takeV i xs off = some (atD xs off) := by
    intro hd hb
    unfold takeV; rw [hd, cond_false, nth_atD hb]
  unfold cellP
  split
  · rename_i k hd
    refine Snd.must (Keeps.pure _) fun h => ?_
    simp only [Bool.and_eq_true] at h
    rw [one (by rw [hd]; rfl) h.1]
    have h2 := h.2
    cases hv : atD xs off <;> rw [hv] at h2 <;> first | (cases h2; done) | skip
    rename_i k' n
    rw [sameK_eq h2]; exact Snd.pure _
  · rename_i hd
    refine Snd.must (Keeps.pure _) fun h => ?_
    simp only [Bool.and_eq_true] at h
    rw [one (by rw [hd]; rfl) h.1]
    have h2 := h.2
    cases hv : atD xs off <;> rw [hv] at h2 <;> first | (cases h2; done) | skip
    exact Snd.pure _
  · rename_i hd
    refine Snd.must (Keeps.pure _) fun h => ?_
    simp only [Bool.and_eq_true] at h
    rw [one (by rw [hd]; rfl) h.1]
    have h2 := h.2
    cases hv : atD xs off <;> rw [hv] at h2 <;> first | (cases h2; done) | skip
    exact Snd.pure _
  · exact Snd.fail _
  · exact Snd.fail _
  · rename_i h1 h2 h3 h4 h5
    refine Snd.must (Keeps.pure _) fun h => ?_
    rw [one ?_ h]
    · exact Snd.pure _
    · cases hd : i.desc <;> first | rfl | exact absurd hd (h4 _) | exact absurd hd (h5 _ _)

theorem snd_loadP (t : TypeId) (a : Value) : Snd (loadP E t a) (loadM E t a) := by
  unfold loadP
  split
  · rename_i i b off hi
    have e : loadM E t (.pointer (some ⟨b, off, none⟩)) = rd b >>= fun o => match o with
        | .cells xs _ _ => liftO (takeV i xs off)
        | _ => fail := by
      unfold loadM; simp only [hi]
      congr 1
    rw [e]
    refine Snd.bind (Snd.lift _) fun o => ?_
    cases o <;> first | exact snd_cellP _ _ _ | exact Snd.fail _
  · exact Snd.fail _

theorem nth_byteAt {l : List UInt8} {n : Nat} (h : Nat.blt n l.length = true) : nth l n = some (byteAt l n) := by
  have := blt_iff.1 h
  unfold byteAt
  rw [nth_eq, List.getElem?_eq_getElem this]

theorem snd_indexP (t : TypeId) (x ix : Value) : Snd (indexP E t x ix) (liftO (indexV E t x ix)) := by
  unfold indexP
  split
  · rename_i i k z hi
    split
    · rename_i s hd
      refine Snd.must (Keeps.pure _) fun h => ?_
      simp only [Bool.and_eq_true] at h
      have : indexV E t (.string s) (.int k z) = some (.int .u8 (Int.ofNat (byteAt (bl s) (natOf z)).toNat)) := by
        obtain ⟨n, rfl⟩ : ∃ n, z = Int.ofNat n := ⟨_, isNat_eq h.1⟩
        simp only [indexV, hi, hd, nth_byteAt (show Nat.blt n (bl s).length = true from h.2)]; rfl
      rw [this]; exact Snd.pure _
    · exact Snd.fail _
  · exact Snd.fail _

theorem segOf_eq (l : List UInt8) : ∀ (n k : Nat), k + n ≤ l.length → segOf l k n = (l.drop k).take n
  | 0, k, _ => by simp [segOf]
  | n + 1, k, h => by
    unfold segOf
    rw [segOf_eq l n (k + 1) (by omega), List.drop_eq_getElem_cons (i := k) (by omega), List.take_succ_cons]
    congr 1
    unfold byteAt
    rw [nth_eq, List.getElem?_eq_getElem (by omega)]

theorem snd_segP (ev : Operand → Option Value) (t : TypeId) (x : Operand) (lo hi mx : Option Operand) (n : Nat) : Snd (segP E ev t x lo hi mx n) (oS E ev t x lo hi mx) := by
  unfold segP oS
  refine Snd.bind (Snd.lift _) fun a => Snd.bind (Snd.lift _) fun u => Snd.bind (Snd.lift _) fun v => Snd.bind (Snd.lift _) fun m => ?_
  split
  · rename_i i hti
    split
    · rename_i s kp p kq q hd
      refine Snd.must (Keeps.pure _) fun h => ?_
      simp only [Bool.and_eq_true] at h
      obtain ⟨⟨⟨h1, h2⟩, h3⟩, h4⟩ := h
      obtain ⟨l, rfl⟩ : ∃ l, p = Int.ofNat l := ⟨_, isNat_eq h1⟩
      obtain ⟨m, rfl⟩ : ∃ m, q = Int.ofNat m := ⟨_, isNat_eq h2⟩
      have h3 : m = l + n := Nat.eq_of_beq_eq_true h3
      have h4 : m ≤ (bl s).length := ble_iff.1 h4
      subst h3
      have hb : bndsV (bl s).length (bl s).length (some (.int kp (Int.ofNat l))) (some (.int kq (Int.ofNat (l + n)))) none = some (l, l + n, (bl s).length) := by
        simp only [bndsV, bndV, ble_iff.2 h4, cond_true, ble_iff.2 (Nat.le_add_right l n)]
      have : sliceV E t (.string s) (some (.int kp (Int.ofNat l))) (some (.int kq (Int.ofNat (l + n)))) none = some (.string (mkS (segOf (bl s) (natOf (Int.ofNat l)) n))) := by
        simp only [sliceV, hti, hd, hb, natOf]
        rw [segOf_eq _ _ _ h4, Nat.add_sub_cancel_left]
      rw [this]; exact Snd.pure _
    · exact Snd.fail _
  · exact Snd.fail _

theorem snd_nextP (x : Value) (b : Bool) : Snd (nextP x b) (nextM x b) := by
  unfold nextP
  split
  · rename_i k
    have e : nextM (.pointer (some ⟨k, 0, none⟩)) true = rd k >>= fun o => match o with
        | .iter s pos => match nth (bl s) pos with
          | some c => nextAt k s pos c
          | none => pure (.tuple ⟨[.bool false]⟩)
        | _ => fail := by
      unfold nextM; congr 1
    rw [e]
    refine Snd.bind (Snd.lift _) fun o => ?_
    cases o <;> first | exact Snd.fail _ | skip
    rename_i s pos
    simp only
    cases hn : nth (bl s) pos with
    | none => exact Snd.pure _
    | some c =>
      simp only
      unfold nextAt
      refine Snd.must (Keeps.bind (Keeps.lift _) fun _ => Keeps.pure _) fun h => ?_
      rw [h]
      exact Snd.bind (m := guardM true) (p := pure ()) (Snd.pure ()) fun _ => Snd.bind (Snd.lift _) fun _ => Snd.pure _
  · exact Snd.fail _

theorem segOf_all {l : List UInt8} {n : Nat} (h : l.length = n) : segOf l 0 n = l := by
  subst h
  rw [segOf_eq l _ 0 (by omega), List.drop_zero, List.take_length]

theorem snd_loadNP (t : TypeId) (a : Value) (n : Nat) : Snd (loadNP E t a n) (loadM E t a) := by
  unfold loadNP
  split
  · rename_i i b off hi
    have e : loadM E t (.pointer (some ⟨b, off, none⟩)) = rd b >>= fun o => match o with
        | .cells xs _ _ => liftO (takeV i xs off)
        | _ => fail := by
      unfold loadM; simp only [hi]
      congr 1
    rw [e]
    refine Snd.bind (Snd.lift _) fun o => ?_
    cases o <;> first | exact Snd.fail _ | skip
    rename_i xs _ _
    simp only
    split
    · rename_i hd
      refine Snd.must (Keeps.pure _) fun h => ?_
      simp only [Bool.and_eq_true] at h
      obtain ⟨⟨h1, h2⟩, h3⟩ := h
      have : takeV i xs off = some (atD xs off) := by
        unfold takeV; rw [show isAggD i.desc = false by rw [hd]; rfl, cond_false, nth_atD h1]
      rw [this]
      cases hv : atD xs off <;> rw [hv] at h2 <;> first | (cases h2; done) | skip
      rename_i s
      rw [hv] at h3
      have h3 := Nat.eq_of_beq_eq_true h3
      simp only [vStr] at h3 ⊢
      rw [segOf_all h3]
      exact Snd.pure _
    · exact Snd.fail _
  · exact Snd.fail _

theorem snd_arithP (op : BinOp) (t : TypeId) (xc yc : Bool) (a b : Value) : Snd (arithP op a b) (binM E op t xc yc a b) := by
  unfold arithP
  split
  · rename_i k x k' y
    cases hk : sameK k k' with
    | false => exact Snd.fail _
    | true =>
      simp only [cond_true]
      have e : isShift op = false → binM E op t xc yc (.int k x) (.int k' y) = liftO (intOp op k x y) := fun h => by
        unfold binM; simp only [h, cond_false, hk, cond_true]
      split
      · rw [e rfl]
        refine Snd.must (Keeps.pure _) fun h => ?_
        rw [eqI_eq] at h
        simp only [intOp]; rw [of_decide_eq_true h]; exact Snd.pure _
      · rw [e rfl]
        refine Snd.must (Keeps.pure _) fun h => ?_
        rw [eqI_eq] at h
        simp only [intOp]; rw [of_decide_eq_true h]; exact Snd.pure _
      · rw [e rfl]
        refine Snd.must (Keeps.pure _) fun h => ?_
        rw [eqI_eq] at h
        simp only [intOp]; rw [of_decide_eq_true h]; exact Snd.pure _
      · exact Snd.fail _
  · exact Snd.fail _

theorem snd_convP (s d : TypeId) (x : Value) : Snd (convP E s d x) (convertM E s d x) := by
  unfold convP
  split
  · rename_i i j k' n hi hj
    split
    · rename_i k hd
      refine Snd.must (Keeps.pure _) fun h => ?_
      rw [eqI_eq] at h
      have e : convertM E s d (.int k' n) = pure (.int k (wrapF k n)) := by
        unfold convertM; simp only [hi, hj, hd]
      rw [e, of_decide_eq_true h]; exact Snd.pure _
    · exact Snd.fail _
  · exact Snd.fail _

theorem keeps_putP (b off : Nat) (ys : List Value) : Keeps (putP b off ys) := by
  unfold putP
  refine Keeps.bind (Keeps.lift _) fun o => ?_
  cases o <;> first | exact Keeps.fail | skip
  rename_i xs e k
  cases k <;> first | exact Keeps.fail | exact Keeps.bind (Keeps.must _) fun _ => Keeps.lift _

theorem snd_putP (b off : Nat) (ys : List Value) : Snd (putP b off ys) (putCells b off ys) := by
  unfold putP putCells
  refine Snd.bind (Snd.lift _) fun o => ?_
  cases o <;> first | exact Snd.fail _ | skip
  rename_i xs e k
  cases k <;> first
    | exact Snd.fail _
    | (simp only
       refine Snd.must (Keeps.lift _) fun h => ?_
       rw [h]
       exact Snd.bind (m := guardM true) (p := Pure.pure ()) (Snd.pure ()) fun _ => Snd.lift _)

theorem snd_storeP (t : TypeId) (a v : Value) : Snd (storeP E t a v) (storeM E t a v) := by
  unfold storeP
  split
  · rename_i i b off hi
    have e : storeM E t (.pointer (some ⟨b, off, none⟩)) v = guardM (Nat.beq (cellsL v).length i.size) >>= fun _ => putCells b off (cellsL v) >>= fun _ => pure undef := by
      unfold storeM; simp only [hi]
    rw [e]
    exact Snd.bind (Snd.lift _) fun _ => Snd.bind (snd_putP _ _ _) fun _ => Snd.pure _
  · exact Snd.fail _

theorem snd_updateP (t : TypeId) (x k v : Value) : Snd (updateP E t x k v) (mapUpdateM E t x k v) := by
  unfold updateP mapUpdateM
  cases hi : E.ti t with
  | none => simp only [hi]; exact Snd.fail _
  | some i =>
    simp only [hi]
    cases hd : i.desc <;> simp only [hd] <;> first | exact Snd.fail _ | skip
    rename_i kt et
    cases hk : E.ti kt with
    | none => simp only [hk]; exact Snd.fail _
    | some ki =>
      simp only [hk]
      refine Snd.bind (Snd.lift _) fun _ => ?_
      cases x <;> first | exact Snd.fail _ | skip
      rename_i m
      cases m with
      | none => exact Snd.fail _
      | some b =>
        simp only
        refine Snd.bind (Snd.lift _) fun o => ?_
        cases o <;> first | exact Snd.fail _ | skip
        rename_i es clock
        simp only
        refine Snd.bind (snd_findP _ _ _) fun r => ?_
        cases r with
        | none => exact Snd.bind (Snd.lift _) fun _ => Snd.pure _
        | some q => exact Snd.bind (Snd.lift _) fun _ => Snd.pure _

theorem snd_removeP (t : TypeId) (x k : Value) : Snd (removeP E t x k) (deleteM E t x k) := by
  unfold removeP deleteM
  cases hi : E.ti t with
  | none => simp only [hi]; exact Snd.fail _
  | some i =>
    simp only [hi]
    cases hd : i.desc <;> simp only [hd] <;> first | exact Snd.fail _ | skip
    rename_i kt et
    cases hk : E.ti kt with
    | none => simp only [hk]; exact Snd.fail _
    | some ki =>
      simp only [hk]
      refine Snd.bind (Snd.lift _) fun _ => ?_
      cases x <;> first | exact Snd.fail _ | skip
      rename_i m
      cases m with
      | none => exact Snd.fail _
      | some b =>
        simp only
        refine Snd.bind (Snd.lift _) fun o => ?_
        cases o <;> first | exact Snd.fail _ | skip
        rename_i es clock
        simp only
        refine Snd.bind (snd_findP _ _ _) fun r => ?_
        cases r with
        | none => exact Snd.bind (Snd.lift _) fun _ => Snd.pure _
        | some q => exact Snd.bind (Snd.lift _) fun _ => Snd.pure _

theorem bindM_assoc {α β γ : Type} (m : M α) (f : α → M β) (g : β → M γ) : ((m >>= f) >>= g) = (m >>= fun x => f x >>= g) := by
  funext s
  show M.bind (M.bind m f) g s = M.bind m (fun x => M.bind (f x) g) s
  unfold M.bind
  cases m s with
  | none => rfl
  | some q => obtain ⟨a, s1⟩ := q; rfl

theorem snd_eqFieldsP (eq : TypeId → Value → Value → Option Bool) : ∀ (fs : List Field) (xs ys : List Value), Snd (eqFieldsP E eq fs xs ys) (liftO (eqFields E eq fs xs ys))
  | [], _, _ => Snd.pure _
  | f :: r, xs, ys => by
    unfold eqFieldsP eqFields
    cases E.ti f.type with
    | none => exact Snd.fail _
    | some j =>
      simp only
      cases takeV j xs f.offset with
      | none => exact Snd.fail _
      | some a =>
        cases takeV j ys f.offset with
        | none => exact Snd.fail _
        | some b =>
          simp only
          cases eq f.type a b with
          | none => exact Snd.fail _
          | some t =>
            simp only
            refine Snd.must (snd_eqFieldsP eq r xs ys).keeps fun h => ?_
            subst h
            exact snd_eqFieldsP eq r xs ys

theorem snd_eqP (t : TypeId) (xc yc : Bool) (a b : Value) : Snd (eqP E t a b) (binM E .eql t xc yc a b) := by
  unfold eqP
  cases hi : E.ti t with
  | none => exact Snd.fail _
  | some i =>
    simp only
    split
    · rename_i fields x y hd
      have e : binM E .eql t xc yc (.agg x) (.agg y) = guardM (noIface E 12 t) >>= fun _ => liftO (cond i.eq (eqFields E (eqD E 11) fields.toList x.toList y.toList) none) >>= fun v => pure (.bool v) := by
        have e1 : eqD E 12 t (.agg x) (.agg y) = cond i.eq (eqFields E (eqD E 11) fields.toList x.toList y.toList) none := by
          rw [eqD]; simp only [hi, hd]
        have e2 : eqM E t xc yc (.agg x) (.agg y) = guardM (noIface E 12 t) >>= fun _ => liftO (cond i.eq (eqFields E (eqD E 11) fields.toList x.toList y.toList) none) := by
          rw [← e1]
          unfold eqM
          simp only [hi, hd, isAggV, bothNil, Bool.not_true, Bool.false_or, Bool.not_false, Bool.and_true]
        unfold binM
        simp only [otherV, cond_true, e2]
        exact bindM_assoc _ _ _
      rw [e]
      refine Snd.bind (Snd.lift _) fun _ => ?_
      cases i.eq with
      | false => exact Snd.fail _
      | true => exact Snd.bind (snd_eqFieldsP _ _ _ _) fun _ => Snd.pure _
    · exact Snd.fail _

theorem snd_binP (op : BinOp) (t : TypeId) (xc yc : Bool) (a b : Value) : Snd (binP E op t a b) (binM E op t xc yc a b) := by
  unfold binP
  split
  · exact snd_eqP _ _ _ _ _
  · exact snd_arithP _ _ _ _ _ _

theorem snd_freeOp (ev : Operand → Option Value) (o : Op) : Snd (freeOp E ev o) (opM E ev o) := by
  unfold freeOp
  split
  · exact Snd.bind (Snd.lift _) fun _ => Snd.bind (Snd.lift _) fun _ => snd_lookupP _ _ _ _
  · exact Snd.bind (Snd.lift _) fun _ => Snd.bind (Snd.lift _) fun _ => snd_indexAddrP _ _ _
  · exact Snd.bind (Snd.lift _) fun _ => snd_loadP _ _
  · exact Snd.bind (Snd.lift _) fun _ => Snd.bind (Snd.lift _) fun _ => snd_indexP _ _ _
  · exact Snd.bind (Snd.lift _) fun _ => snd_nextP _ _
  · exact Snd.bind (Snd.lift _) fun _ => Snd.bind (Snd.lift _) fun _ => snd_binP _ _ _ _ _ _
  · exact Snd.bind (Snd.lift _) fun _ => snd_convP _ _ _
  · exact Snd.bind (Snd.lift _) fun _ => Snd.bind (Snd.lift _) fun _ => snd_storeP _ _ _
  · exact Snd.bind (Snd.lift _) fun _ => Snd.bind (Snd.lift _) fun _ => Snd.bind (Snd.lift _) fun _ => snd_updateP _ _ _ _
  · exact Snd.bind (Snd.lift _) fun _ => Snd.bind (Snd.lift _) fun _ => Snd.bind (Snd.lift _) fun _ => snd_updateP _ _ _ _
  · rename_i c
    split
    · rename_i hcal
      have e : opM E ev (.call c) = liftO (evalL ev c.args.toList) >>= builtinM E .delete c.argTypes.toList := by
        show oCall E ev c = _
        unfold oCall; rw [hcal]; rfl
      rw [e]
      refine Snd.bind (Snd.lift _) fun args => ?_
      split
      · rename_i m k t r h2
        have : builtinM E .delete c.argTypes.toList [m, k] = deleteM E t m k := by
          unfold builtinM; rw [h2]
        rw [this]; exact snd_removeP _ _ _
      · exact Snd.fail _
    · exact Snd.lift _
  · exact Snd.lift _

/-- The free ways of functions that are one step are sound. -/
structure WaysOK (E : Env) (X : Ways) : Prop where
  intr : ∀ f g p, E.intr f = some g → X.intr f = some p → ∀ l, Snd (p l) (g l)
  ext : ∀ f g p, E.ext f = some g → X.ext f = some p → ∀ l, Snd (p l) (g l)

variable (hX : WaysOK E X) {call : CallP} {callm : CallM}

theorem snd_pickP (ev : Operand → Option Value) (left : Bool) (c a b : Operand) : Snd (pickP ev left c a b) (oPick ev c a b) := by
  unfold pickP oPick
  refine Snd.bind (Snd.lift _) fun v => ?_
  cases v <;> first | exact Snd.fail _ | skip
  rename_i t
  cases left with
  | true =>
    refine Snd.must (Keeps.lift _) fun e => ?_
    rw [e]; exact Snd.lift _
  | false =>
    refine Snd.must (Keeps.lift _) fun e => ?_
    have e : t = false := by simpa using e
    rw [e]; exact Snd.lift _

theorem Snd.then_pure {α : Type} {m : M α} {f : α → PM α} (h : ∀ v, Snd (f v) (Pure.pure v : M α)) : Snd (liftP m >>= f) m := by
  have e1 : (m >>= fun v => Pure.pure v) = m := by
    funext s
    show M.bind _ _ s = _
    unfold M.bind
    cases m s with
    | none => rfl
    | some q => rfl
  have : Snd (liftP m >>= f) (m >>= fun v => Pure.pure v) := Snd.bind (Snd.lift _) h
  rw [e1] at this; exact this

theorem snd_wayOp (q : Option Turn) (ev : Operand → Option Value) (o : Op) : Snd (wayOp E q ev o) (opM E ev o) := by
  unfold wayOp
  split
  · exact snd_freeOp _ _
  · cases o <;> first | exact Snd.fail _ | exact snd_pickP _ _ _ _ _
  · cases o <;> first | exact Snd.fail _ | exact snd_pickP _ _ _ _ _
  · rename_i n
    split
    · exact snd_segP _ _ _ _ _ _ _
    · exact Snd.bind (Snd.lift _) fun _ => snd_loadNP _ _ _
    · refine Snd.then_pure fun v => ?_
      unfold numP
      cases v <;> first | exact Snd.fail _ | skip
      refine Snd.must (Keeps.pure _) fun h => ?_
      rw [eqI_eq] at h
      rw [of_decide_eq_true h]; exact Snd.pure _
  · refine Snd.then_pure fun v => ?_
    unfold truP
    cases v <;> first | exact Snd.fail _ | skip
    refine Snd.must (Keeps.pure _) fun h => ?_
    rw [h]; exact Snd.pure _
  · refine Snd.then_pure fun v => ?_
    unfold falP
    cases v <;> first | exact Snd.fail _ | skip
    rename_i b
    refine Snd.must (Keeps.pure _) fun h => ?_
    have h : b = false := by simpa using h
    rw [h]; exact Snd.pure _
  · exact Snd.lift _

include hX in
theorem snd_operP (hc : ∀ fr f l, Snd (call fr f l) (callm f l)) (q : Option Turn) (ev : Operand → Option Value) (o : Op) : Snd (operP E X call q ev o) (operM E callm ev o) := by
  have hf : Snd (wayOp E q ev o) (opM E ev o) := snd_wayOp _ _ _
  unfold operP operM
  cases o <;> first | exact hf | skip
  rename_i c
  cases hcal : c.callee <;> simp only [hcal] <;> first | exact hf | skip
  refine Snd.bind (Snd.lift _) fun f => Snd.bind (Snd.lift _) fun args => Snd.bind (Snd.lift _) fun p => ?_
  obtain ⟨g, l⟩ := p
  cases he : E.ext g with
  | none => simp only [he]; exact hc _ g l
  | some e =>
    simp only [he]
    cases hq : isFree q with
    | false => exact Snd.lift _
    | true =>
      simp only [cond_true]
      cases hx : X.ext g with
      | none => exact Snd.lift _
      | some p => exact hX.ext g e p he hx l

include hX in
theorem snd_stepP (hc : ∀ fr f l, Snd (call fr f l) (callm f l)) (n : Nat) (ops : Array Oper) (o : Oper) (tm : Tr Value) : Snd (stepP E X call n ops o tm) (stepM E callm n ops o tm) := by
  unfold stepP stepM
  refine Snd.tick fun q => Snd.bind (Snd.lift _) fun w => ?_
  have h1 : Snd (operP E X call q (evalI E tm) o.op >>= fun v => liftP (liftO (putT n tm o.dst v))) (do
      let v ← operM E callm (evalI E tm) o.op
      liftO (putT n tm o.dst v)) := Snd.bind (snd_operP hX hc _ _ _) fun v => Snd.lift _
  have h2 : Snd (liftP (liftO (putT n tm o.dst undef))) (liftO (putT n tm o.dst undef)) := Snd.lift _
  cases w with
  | true => exact Snd.turn (.inl h1) (.inr rfl) h1.keeps h2.keeps
  | false => exact Snd.turn (.inr rfl) (.inl h2) h1.keeps h2.keeps

include hX in
theorem snd_runOpsP (hc : ∀ fr f l, Snd (call fr f l) (callm f l)) (n : Nat) (ops : Array Oper) : ∀ (l : List Oper) (tm : Tr Value), Snd (runOpsP E X call n ops l tm) (runOps E callm n ops l tm)
  | [], _ => Snd.pure _
  | _ :: r, _ => Snd.bind (snd_stepP hX hc _ _ _ _) fun _ => snd_runOpsP hc n ops r _

theorem Snd.iso {α : Type} {p : PM α} {m : M α} (h : Snd p m) : Snd (isoP p) (iso m) := by
  intro t a t' e ho
  unfold isoP at e
  cases hp : p ⟨⟨t.s.h, t.s.nx, 0, 0⟩, t.ct, t.sc, t.ob⟩ with
  | none => rw [hp] at e; cases e
  | some q =>
    obtain ⟨b, t1⟩ := q
    rw [hp] at e
    simp only [Option.some.injEq, Prod.mk.injEq] at e
    obtain ⟨rfl, rfl⟩ := e
    obtain ⟨o1, e1⟩ := h _ _ _ hp ho
    refine ⟨o1, ?_⟩
    unfold Ideal.iso
    simp only at e1
    rw [e1]

include hX in
theorem snd_runDrawP (hc : ∀ fr f l, Snd (call fr f l) (callm f l)) (n : Nat) (ops : Array Oper) : ∀ (l : List Oper) (i : Nat) (seen : Seen) (tm : Tr Value),
    Snd (runDrawP E X call n ops l i seen tm) (runDraw E callm n ops l i seen tm)
  | [], _, _, _ => Snd.pure _
  | _ :: r, _, _, _ => Snd.bind (snd_stepP hX hc _ _ _ _).iso fun ⟨_, _, _⟩ => Snd.bind (Snd.lift _) fun _ => snd_runDrawP hc n ops r _ _ _

include hX in
theorem snd_runRegionP (hc : ∀ fr f l, Snd (call fr f l) (callm f l)) (n : Nat) (ops : Array Oper) (d : Bool) (tm : Tr Value) : Snd (runRegionP E X call n ops d tm) (runRegion E callm n ops d tm) := by
  unfold runRegionP runRegion
  exact Snd.cond (Snd.bind (Snd.lift _) fun _ => snd_runDrawP hX hc _ _ _ _ _ _) (snd_runOpsP hX hc _ _ _ _)

include hX in
theorem snd_execP (hc : ∀ fr f l, Snd (call fr f l) (callm f l)) (n : Nat) : ∀ (k : Nat) (c : Code) (tm : Tr Value), Snd (execP E X call n k c tm) (exec E callm n k c tm) := by
  intro k
  induction k with
  | zero => intro c tm; exact Snd.fail _
  | succ k ih =>
    intro c tm
    simp only [execP_succ, exec_succ]
    cases c <;> simp only [execPF, execF, yRegion, ySeq, yCond, yBlock, yLoop, xRegion, xSeq, xCond, xBlock, xLoop] <;> first | exact Snd.fail _ | exact Snd.pure _ | skip
    case region id ops d => exact Snd.bind (snd_runRegionP hX hc n ops d tm) fun _ => Snd.pure _
    case seq a b =>
      refine Snd.bind (ih a tm) fun r => ?_
      obtain ⟨x, tm1⟩ := r
      cases x <;> first | exact ih b tm1 | exact Snd.pure _
    case cond c a b =>
      refine Snd.bind (Snd.lift _) fun v => ?_
      cases v <;> first | exact Snd.fail _ | skip
      rename_i t
      exact Snd.tick fun q => Snd.turn_cond (ih a tm) (ih b tm)
    case block id c =>
      refine Snd.bind (ih c tm) fun r => ?_
      obtain ⟨x, tm1⟩ := r
      cases x <;> first | exact Snd.cond (Snd.pure _) (Snd.pure _) | exact Snd.pure _
    case loop c =>
      refine Snd.bind (ih c tm) fun r => ?_
      obtain ⟨x, tm1⟩ := r
      cases x <;> first | exact ih (.loop c) tm1 | exact Snd.pure _
    case scope c => exact ih c tm

include hX in
theorem snd_callP : ∀ (k : Nat) (fr : Bool) (f : FuncId) (l : List Value), Snd (callP E X k fr f l) (callM E k f l) := by
  intro k
  induction k with
  | zero => intro fr f l; exact Snd.fail _
  | succ k ih =>
    intro fr f l
    unfold callP callM
    cases hi : E.intr f with
    | some g =>
      simp only [hi]
      cases fr with
      | false => exact Snd.lift _
      | true =>
        simp only [cond_true]
        cases hx : X.intr f with
        | none => exact Snd.lift _
        | some p => exact hX.intr f g p hi hx l
    | none =>
      simp only [hi]
      cases hfn : E.fn f with
      | none => exact Snd.fail _
      | some fn =>
        simp only [hfn]
        cases hb : fn.body with
        | none => exact Snd.fail _
        | some c =>
          simp only [hb]
          refine Snd.bind (Snd.lift _) fun _ => Snd.bind (snd_execP hX ih _ _ _ _) fun r => ?_
          obtain ⟨x, tm⟩ := r
          cases x <;> simp only [endP] <;> first | exact Snd.fail _ | exact Snd.bind (Snd.lift _) fun _ => Snd.pure _

/-- What a run along a path took for granted. -/
def obOf {α : Type} (r : Option (α × PS)) : Bool :=
  match r with
  | some (_, t) => t.ob
  | none => false
/-- Does a run along a path answer true? -/
def yesOf (r : Option (Value × PS)) : Bool :=
  match r with
  | some (.bool true, _) => true
  | _ => false

include hX in
/-- A path that answers true, of which all that it takes for granted holds. -/
theorem path_true {k : Nat} {f : FuncId} {l : List Value} {s : S} {sc : List (Nat × Turn)} (h : yesOf (callP E X k false f l ⟨s, 0, sc, true⟩) = true)
    (ho : obOf (callP E X k false f l ⟨s, 0, sc, true⟩) = true) : isTrue (callM E k f l s) = true := by
  cases hr : callP E X k false f l ⟨s, 0, sc, true⟩ with
  | none => rw [hr] at h; cases h
  | some q =>
    obtain ⟨v, t⟩ := q
    rw [hr] at h ho
    have := (snd_callP hX k false f l _ _ _ hr ho).2
    simp only at this
    rw [this]
    unfold yesOf at h
    split at h
    · rename_i heq
      simp only [Option.some.injEq, Prod.mk.injEq] at heq
      rw [heq.1]; rfl
    · cases h


/-- What a run along a path comes to, and what it takes for granted. -/
def outOf (r : Option (Value × PS)) : Option (Value × Bool) :=
  match r with
  | some (v, t) => some (v, t.ob)
  | none => none

include hX in
theorem path_out {k : Nat} {f : FuncId} {l : List Value} {s : S} {sc : List (Nat × Turn)} {v : Value} {b : Bool} (h : outOf (callP E X k false f l ⟨s, 0, sc, true⟩) = some (v, b)) (hb : b = true) : ∃ s', callM E k f l s = some (v, s') := by
  cases hr : callP E X k false f l ⟨s, 0, sc, true⟩ with
  | none => rw [hr] at h; cases h
  | some q =>
    obtain ⟨u, t⟩ := q
    rw [hr] at h
    cases h
    exact ⟨_, (snd_callP hX k false f l _ _ _ hr hb).2⟩

/-- What a run along a path that answers true takes for granted. -/
def pathOf (r : Option (Value × PS)) : Option Bool :=
  match r with
  | some (.bool true, t) => some t.ob
  | _ => none

include hX in
theorem path_yes {k : Nat} {f : FuncId} {l : List Value} {s : S} {sc : List (Nat × Turn)} {b : Bool} (h : pathOf (callP E X k false f l ⟨s, 0, sc, true⟩) = some b) (hb : b = true) : isTrue (callM E k f l s) = true := by
  refine path_true hX (sc := sc) ?_ ?_
  · unfold pathOf at h
    split at h
    · rename_i heq; rw [heq]; rfl
    · cases h
  · unfold pathOf at h
    split at h
    · rename_i heq; rw [heq]; cases h; exact hb
    · cases h

/-! memos, and what runs where none is kept -/
def memosOrP (call : List Value → PM Value) : List Memo → List Value → PM Value
  | [], l => call l
  | m :: r, l => fun t => cond (Nat.beq t.s.nx m.nx && eqL l m.args) (liftP (memoM m l) t) (memosOrP call r l t)

theorem snd_memosOrP {call : List Value → PM Value} {callm : List Value → M Value} (hc : ∀ l, Snd (call l) (callm l)) : ∀ (ms : List Memo) (l : List Value), Snd (memosOrP call ms l) (memosOr callm ms l)
  | [], l => hc l
  | m :: r, l => by
    intro t a t' e ho
    unfold memosOrP at e
    unfold memosOr
    cases hb : Nat.beq t.s.nx m.nx && eqL l m.args with
    | true => rw [hb] at e; exact Snd.lift (memoM m l) t a t' e ho
    | false => rw [hb] at e; exact snd_memosOrP hc r l t a t' e ho

def waysF (B : Env) (XB : Ways) (d : Nat) : List (FuncId × List Memo) → FuncId → Option (List Value → PM Value)
  | [], f => XB.intr f
  | (k, ms) :: r, f => cond (Nat.beq k f) (some (memosOrP (callP B XB d true k) ms)) (waysF B XB d r f)

theorem waysF_ok {P : Program} {glob : Nat → Bool} {base ext : FuncId → Option (List Value → M Value)} {XB : Ways} (h : WaysOK (mkEnv P glob base ext) XB) (d : Nat) (ms : List (FuncId × List Memo)) :
    WaysOK (mkEnv P glob (pickF base (callM (mkEnv P glob base ext) d) ms) ext) ⟨waysF (mkEnv P glob base ext) XB d ms, XB.ext⟩ := by
  refine ⟨fun f g p hg hp => ?_, h.ext⟩
  have hg : pickF base (callM (mkEnv P glob base ext) d) ms f = some g := hg
  have hp : waysF (mkEnv P glob base ext) XB d ms f = some p := hp
  induction ms with
  | nil => exact h.intr f g p hg hp
  | cons q r ih =>
    obtain ⟨k, l⟩ := q
    unfold pickF at hg
    unfold waysF at hp
    cases hk : Nat.beq k f with
    | true =>
      rw [hk] at hg hp
      cases hg; cases hp
      exact snd_memosOrP (fun l => snd_callP h d true k l) _
    | false => rw [hk] at hg hp; exact ih hg hp hg hp

def noWays : Ways := ⟨fun _ => none, fun _ => none⟩
theorem noWaysOK (E : Env) : WaysOK E noWays := ⟨fun _ _ _ _ h => (by cases h), fun _ _ _ _ h => (by cases h)⟩

end
end
end Go.Ideal
