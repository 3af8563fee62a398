/- The ideal machine: what each operation does, a region, code, a call. It answers only where no order that Go leaves open and no capacity can turn what comes out. -/
import Derived.Test.YtdkofgkmhgmmmaaGreatDoorRun
namespace Go.Ideal
set_option linter.all false
set_option linter.unusedSimpArgs false
set_option linter.unusedVariables false
noncomputable section
open Go Go.RowKit

def wrapF : IntKind → Int → Int
  | .u8, n => n % 256
  | .u16, n => n % 65536
  | .u32, n => n % 4294967296
  | .u64, n => n % 18446744073709551616
  | .i8, n => let m := n % 256; if m ≥ 128 then m - 256 else m
  | .i16, n => let m := n % 65536; if m ≥ 32768 then m - 65536 else m
  | .i32, n => let m := n % 4294967296; if m ≥ 2147483648 then m - 4294967296 else m
  | .i64, n => let m := n % 18446744073709551616; if m ≥ 9223372036854775808 then m - 18446744073709551616 else m

def modF : IntKind → Int → Nat
  | .u8, n | .i8, n => (n % 256).toNat
  | .u16, n | .i16, n => (n % 65536).toNat
  | .u32, n | .i32, n => (n % 4294967296).toNat
  | .u64, n | .i64, n => (n % 18446744073709551616).toNat

def sameK : IntKind → IntKind → Bool
  | .i8, .i8 | .i16, .i16 | .i32, .i32 | .i64, .i64 | .u8, .u8 | .u16, .u16 | .u32, .u32 | .u64, .u64 => true
  | _, _ => false

def bitsK : IntKind → Nat
  | .i8 | .u8 => 8
  | .i16 | .u16 => 16
  | .i32 | .u32 => 32
  | .i64 | .u64 => 64

def bytesEq : List UInt8 → List UInt8 → Bool
  | [], [] => true
  | a :: x, b :: y => cond (Nat.beq a.toNat b.toNat) (bytesEq x y) false
  | _, _ => false

def bytesLt : List UInt8 → List UInt8 → Bool
  | _, [] => false
  | [], _ :: _ => true
  | a :: x, b :: y => cond (Nat.blt a.toNat b.toNat) true (cond (Nat.beq a.toNat b.toNat) (bytesLt x y) false)

def bl (s : ByteArray) : List UInt8 := s.data.toList
def mkS (l : List UInt8) : ByteArray := ⟨⟨l⟩⟩

def takeV (i : TI) (xs : List Value) (off : Nat) : Option Value :=
  cond (isAggD i.desc)
    (let ys := (xs.drop off).take i.size; cond (Nat.beq ys.length i.size) (some (.agg ⟨ys⟩)) none)
    (nth xs off)

/-- '==' of the fields of two structs, of the elements of two arrays. -/
def eqFields (E : Env) (eq : TypeId → Value → Value → Option Bool) : List Field → List Value → List Value → Option Bool
  | [], _, _ => some true
  | f :: r, xs, ys => match E.ti f.type with
    | none => none
    | some j => match takeV j xs f.offset, takeV j ys f.offset with
      | some a, some b => match eq f.type a b with
        | some true => eqFields E eq r xs ys
        | some false => some false
        | none => none
      | _, _ => none

def eqElems (j : TI) (eq : Value → Value → Option Bool) : Nat → Nat → List Value → List Value → Option Bool
  | 0, _, _, _ => some true
  | n + 1, i, xs, ys => match takeV j xs (i * j.size), takeV j ys (i * j.size) with
    | some a, some b => match eq a b with
      | some true => eqElems j eq n (i + 1) xs ys
      | some false => some false
      | none => none
    | _, _ => none

/-- '==' of two values of a type, where no memory is asked. -/
def eqD (E : Env) : Nat → TypeId → Value → Value → Option Bool
  | 0, _, _, _ => none
  | d + 1, t, a, b =>
    match E.ti t with
    | none => none
    | some i => match i.desc, a, b with
      | .bool, .bool a, .bool b => some (a == b)
      | .int _, .int k a, .int k' b => cond (sameK k k') (some (decide (a = b))) none
      | .string, .string a, .string b => some (bytesEq (bl a) (bl b))
      | .pointer _, .pointer none, .pointer b => some b.isNone
      | .pointer _, .pointer (some _), .pointer none => some false
      | .slice _, .slice none _ _, .slice b _ _ => some b.isNone
      | .slice _, .slice (some _) _ _, .slice none _ _ => some false
      | .map _ _, .map none, .map b => some b.isNone
      | .map _ _, .map (some _), .map none => some false
      | .func _ _ _, .nilFunc, .nilFunc => some true
      | .func _ _ _, .nilFunc, .func _ _ _ => some false
      | .func _ _ _, .func _ _ _, .nilFunc => some false
      | .interface _, .nilIface, .iface _ _ => some false
      | .interface _, .iface _ _, .nilIface => some false
      | .struct fields, .agg x, .agg y => cond i.eq (eqFields E (eqD E d) fields.toList x.toList y.toList) none
      | .array n e, .agg x, .agg y => match E.ti e with
        | none => none
        | some j => eqElems j (eqD E d e) n 0 x.toList y.toList
      | _, _, _ => none

/-- Is there no interface in it? (Then the model's own guard says nothing.) -/
def noIface (E : Env) : Nat → TypeId → Bool
  | 0, _ => false
  | d + 1, t => match E.ti t with
    | none => false
    | some i => match i.desc with
      | .interface _ => false
      | .struct fs => fs.toList.all fun f => noIface E d f.type
      | .array _ e => noIface E d e
      | _ => true

def isAggV : Value → Bool
  | .agg _ => true
  | _ => false

def bothNil : Value → Value → Bool
  | .nilIface, .nilIface => true
  | _, _ => false

def otherV : Value → Bool
  | .int _ _ | .string _ | .float _ _ | .complex _ _ _ => false
  | _ => true

def isConst : Operand → Bool
  | .const _ => true
  | _ => false

/-- '==' of two values: two pointers ask whether they lead to variables of the program's own. -/
def eqM (E : Env) (t : TypeId) (xc yc : Bool) (a b : Value) : M Bool :=
  match E.ti t with
  | none => fail
  | some i =>
    match i.desc, a, b with
    | .pointer e, .pointer (some ⟨b1, o1, none⟩), .pointer (some ⟨b2, o2, none⟩) => do
      match E.ti e with
      | none => fail
      | some j => do
        guardM (Nat.blt 0 j.size)
        match ← rd b1, ← rd b2 with
        | .cells _ _ .var, .cells _ _ .var => pure (Nat.beq b1 b2 && Nat.beq o1 o2)
        | _, _ => fail
    | .interface _, .nilIface, .nilIface => cond (xc || yc) (pure true) fail
    | _, _, _ => do
      guardM ((!isAggV a || noIface E 12 t) && !bothNil a b)
      liftO (eqD E 12 t a b)

def eqI : Int → Int → Bool
  | .ofNat a, .ofNat b => Nat.beq a b
  | .negSucc a, .negSucc b => Nat.beq a b
  | _, _ => false
def leI : Int → Int → Bool
  | .ofNat a, .ofNat b => Nat.ble a b
  | .ofNat _, .negSucc _ => false
  | .negSucc _, .ofNat _ => true
  | .negSucc a, .negSucc b => Nat.ble b a
def ltI : Int → Int → Bool
  | .ofNat a, .ofNat b => Nat.blt a b
  | .ofNat _, .negSucc _ => false
  | .negSucc _, .ofNat _ => true
  | .negSucc a, .negSucc b => Nat.blt b a

def intOp (op : BinOp) (k : IntKind) (a b : Int) : Option Value :=
  match op with
  | .add => some (.int k (wrapF k (a + b)))
  | .sub => some (.int k (wrapF k (a - b)))
  | .mul => some (.int k (wrapF k (a * b)))
  | .quo => if b = 0 then none else some (.int k (wrapF k (a.tdiv b)))
  | .rem => cond (eqI b 0) none (cond (eqI b 1) (some (.int k 0)) (some (.int k (a.tmod b))))
  | .and => some (.int k (wrapF k ((modF k a &&& modF k b : Nat) : Int)))
  | .or => some (.int k (wrapF k ((modF k a ||| modF k b : Nat) : Int)))
  | .xor => some (.int k (wrapF k ((modF k a ^^^ modF k b : Nat) : Int)))
  | .eql => some (.bool (eqI a b))
  | .neq => some (.bool (!eqI a b))
  | .lss => some (.bool (ltI a b))
  | .leq => some (.bool (leI a b))
  | .gtr => some (.bool (ltI b a))
  | .geq => some (.bool (leI b a))
  | _ => none

def shiftOp (op : BinOp) (k : IntKind) (a b : Int) : Option Value :=
  match b with
  | .negSucc _ => none
  | .ofNat n =>
    let n := cond (Nat.ble n (bitsK k)) n (bitsK k)
    match op with
    | .shl => some (.int k (wrapF k (a * ((2 ^ n : Nat) : Int))))
    | .shr => some (.int k (a.fdiv ((2 ^ n : Nat) : Int)))
    | _ => none

def strOp (op : BinOp) (a b : ByteArray) : Option Value :=
  match op with
  | .add => cond (Nat.blt ((bl a).length + (bl b).length) UNK) (some (.string (mkS (bl a ++ bl b)))) none
  | .eql => some (.bool (bytesEq (bl a) (bl b)))
  | .neq => some (.bool (!bytesEq (bl a) (bl b)))
  | .lss => some (.bool (bytesLt (bl a) (bl b)))
  | .leq => some (.bool (bytesLt (bl a) (bl b) || bytesEq (bl a) (bl b)))
  | .gtr => some (.bool (!(bytesLt (bl a) (bl b) || bytesEq (bl a) (bl b))))
  | .geq => some (.bool (!bytesLt (bl a) (bl b)))
  | _ => none

def isShift : BinOp → Bool
  | .shl | .shr => true
  | _ => false

def binM (E : Env) (op : BinOp) (t : TypeId) (xc yc : Bool) (a b : Value) : M Value :=
  match a, b with
  | .int k x, .int k' y => cond (isShift op) (liftO (shiftOp op k x y)) (cond (sameK k k') (liftO (intOp op k x y)) fail)
  | .string x, .string y => liftO (strOp op x y)
  | a, b => cond (otherV a) (match op with
    | .eql => do pure (.bool (← eqM E t xc yc a b))
    | .neq => do pure (.bool (!(← eqM E t xc yc a b)))
    | _ => fail) fail

def unV (op : UnOp) (a : Value) : Option Value :=
  match op, a with
  | .neg, .int k n => some (.int k (wrapF k (0 - n)))
  | .xor, .int k n => some (.int k (wrapF k ((modF k (if k.signed then -1 else k.max) ^^^ modF k n : Nat) : Int)))
  | .not, .bool b => some (.bool !b)
  | _, _ => none

def loadM (E : Env) (t : TypeId) (a : Value) : M Value :=
  match E.ti t, a with
  | some i, .pointer (some ⟨b, off, none⟩) => do
    match ← rd b with
    | .cells xs _ _ => liftO (takeV i xs off)
    | _ => fail
  | _, _ => fail

/-- Cells of a block are written. -/
def putCells (b off : Nat) (ys : List Value) : M Unit := do
  match ← rd b with
  | .cells xs e k =>
    match k with
    | .ro => fail
    | k => do
      guardM (Nat.ble (off + ys.length) xs.length && ys.all one)
      wr b (.cells (splice xs off ys) e k)
  | _ => fail

def storeM (E : Env) (t : TypeId) (a v : Value) : M Value :=
  match E.ti t, a with
  | some i, .pointer (some ⟨b, off, none⟩) => do
    guardM (Nat.beq (cellsL v).length i.size)
    putCells b off (cellsL v)
    pure undef
  | _, _ => fail

def ptrTo (b off : Nat) : Value := .pointer (some ⟨b, off, none⟩)

def boxM (t : TypeId) (v : Value) : M Value := do
  let b ← new (.cells (cellsL v) t .var)
  pure (ptrTo b 0)

def allocM (E : Env) (t : TypeId) : M Value :=
  match E.ti t with
  | some i => boxM t i.zero
  | none => fail

def fillL (place : Nat → Option (Nat × Nat)) (cells : List Value) : List (Nat × Value) → Option (List Value)
  | [] => some cells
  | (i, v) :: r => match place i with
    | none => none
    | some (off, size) =>
      let ys := cellsL v
      cond (Nat.beq ys.length size && Nat.ble (off + size) cells.length) (fillL place (splice cells off ys) r) none

def elemSize (E : Env) (e : TypeId) : Option Nat := (E.ti e).map (·.size)

def buildV (E : Env) (t : TypeId) (parts : List (Nat × Value)) : Option Value :=
  match E.ti t with
  | none => none
  | some i =>
    match i.desc with
    | .struct _ => (fillL (fun j => nth i.fs j) (cellsL i.zero) parts).map fun cs => .agg ⟨cs⟩
    | .array _ e => match E.ti e with
      | none => none
      | some j => (fillL (fun n => some (n * j.size, j.size)) (cellsL i.zero) parts).map fun cs => .agg ⟨cs⟩
    | _ => none

def repL (xs : List Value) : Nat → List Value
  | 0 => []
  | n + 1 => xs ++ repL xs n

def buildSliceM (E : Env) (t : TypeId) (len : Nat) (parts : List (Nat × Value)) : M Value :=
  match E.ti t with
  | none => fail
  | some i =>
    match i.desc with
    | .slice e => match E.ti e with
      | none => fail
      | some j => do
        guardM (Nat.ble (len * j.size) 16777216 && Nat.blt len UNK)
        let cells ← liftO (fillL (fun n => some (n * j.size, j.size)) (repL (cellsL j.zero) len) parts)
        let b ← new (.cells cells e .var)
        pure (.slice (some ⟨b, 0, none⟩) len len)
    | _ => fail

def nilCheckV : Value → Option Value
  | .pointer (some a) => some (.pointer (some a))
  | .func (.func f) x y => some (.func (.func f) x y)
  | .iface t v => some (.iface t v)
  | _ => none

def strBytes (s : ByteArray) : List Value := (bl s).map fun b => .int .u8 b.toNat

def byteL : List Value → Option (List UInt8)
  | [] => some []
  | .int .u8 n :: r => match byteL r with
    | some l => some (UInt8.ofNat n.toNat :: l)
    | none => none
  | _ => none

/-- So many cells of a slice from its front (of a string: bytes). -/
def firstM (n size : Nat) : Value → M (List Value)
  | .slice (some a) len _ => cond (Nat.beq (n * size) 0) (pure []) (cond (Nat.ble n len) (match a with
    | ⟨b, off, none⟩ => do
      match ← rd b with
      | .cells xs _ _ => do
        let ys := (xs.drop off).take (n * size)
        guardM (Nat.beq ys.length (n * size))
        pure ys
      | _ => fail
    | _ => fail) fail)
  | .slice none _ _ => cond (Nat.beq n 0) (pure []) fail
  | .string s => do
    let ys := (strBytes s).take n
    guardM (Nat.beq ys.length (n * size))
    pure ys
  | _ => fail

def convertM (E : Env) (s d : TypeId) (x : Value) : M Value :=
  match E.ti s, E.ti d with
  | some i, some j =>
    match j.desc, x with
    | .int k, .int _ n => pure (.int k (wrapF k n))
    | .string, .string x => pure (.string x)
    | .string, .slice a n c => match i.desc with
      | .slice e => match E.ti e with
        | some q => match q.desc with
          | .int .u8 => do
            let ys ← firstM n 1 (.slice a n c)
            let l ← liftO (byteL ys)
            pure (.string (mkS l))
          | _ => fail
        | none => fail
      | _ => fail
    | .slice e, .string x => match E.ti e with
      | some q => match q.desc with
        | .int .u8 => do
          guardM (Nat.beq q.size 1)
          guardM (Nat.blt (bl x).length 1099511627776)
          let b ← new (.cells (strBytes x) e .str)
          pure (.slice (some ⟨b, 0, none⟩) (bl x).length (capOf (bl x).length 1))
        | _ => fail
      | none => fail
    | .slice e, .slice (some ⟨b, off, none⟩) n c => match i.desc, E.ti e with
      | .slice _, some q => match q.desc, Nat.beq s d with
        | .int .u8, true => do
          guardM (Nat.blt 0 n)
          match ← rd b with
          | .cells xs e' .var => do
            wr b (.cells xs e' .vst)
            pure (.slice (some ⟨b, off, none⟩) n c)
          | _ => fail
        | _, _ => fail
      | _, _ => fail
    | _, _ => fail
  | _, _ => fail

def mkIface (E : Env) (t : TypeId) (x : Value) : Option Value :=
  match E.ti t with
  | some i => match i.desc with
    | .interface _ => none
    | _ => some (.iface t x)
  | none => none

def makeMapM (hint : Option Value) : M Value :=
  match hint with
  | none => do
    let b ← new (.map [] 0)
    pure (.map (some b))
  | some _ => fail

def makeSliceM (E : Env) (t : TypeId) (l c : Value) : M Value :=
  match E.ti t, l, c with
  | some i, .int _ l, .int _ c => match i.desc with
    | .slice e => match E.ti e, l, c with
      | some j, .ofNat l, .ofNat c => do
        guardM (Nat.ble l c && Nat.blt c 1099511627776 && Nat.blt (c * j.bytes) 1099511627776)
        let b ← new (.cells (repL (cellsL j.zero) c) e .var)
        pure (.slice (some ⟨b, 0, none⟩) l c)
      | _, _, _ => fail
    | _ => fail
  | _, _, _ => fail

def bndV (v : Option Value) (dflt lim : Nat) : Option Nat :=
  match v with
  | none => some dflt
  | some (.int _ (.ofNat n)) => cond (Nat.ble n lim) (some n) none
  | _ => none

/-- low, high, max of a slice expression: under 'cap' (known, or at least so much). -/
def bndsV (len cap : Nat) (lo hi mx : Option Value) : Option (Nat × Nat × Nat) :=
  match bndV mx cap cap with
  | none => none
  | some m => match hi, mx with
    | none, some _ => none
    | _, _ => match bndV hi len m with
      | none => none
      | some h => match bndV lo 0 h with
        | none => none
        | some l => some (l, h, m)

def sliceV (E : Env) (t : TypeId) (x : Value) (lo hi mx : Option Value) : Option Value :=
  match E.ti t with
  | none => none
  | some i =>
    match i.desc, x with
    | .string, .string s => match mx with
      | some _ => none
      | none => match bndsV (bl s).length (bl s).length lo hi none with
        | some (l, h, _) => some (.string (mkS (((bl s).drop l).take (h - l))))
        | none => none
    | .slice e, .slice a len cap => match E.ti e with
      | none => none
      | some j => cond (Nat.blt cap UNK)
        (match bndsV len cap lo hi mx with
         | some (l, h, m) => match a with
           | none => some (.slice none (h - l) (m - l))
           | some ⟨b, off, none⟩ => some (.slice (some ⟨b, cond (Nat.beq m l) off (off + l * j.size), none⟩) (h - l) (m - l))
           | _ => none
         | none => none)
        (match a with
         | some ⟨b, off, none⟩ => cond (Nat.beq j.size (esOf cap)) (match bndsV len (lbOf cap) lo hi mx with
           | some (l, h, m) => match mx with
             | none => some (.slice (some ⟨b, off + l * j.size, none⟩) (h - l) (capOf (lbOf cap - l) j.size))
             | some _ => some (.slice (some ⟨b, cond (Nat.beq m l) off (off + l * j.size), none⟩) (h - l) (m - l))
           | none => none) none
         | _ => none)
    | .array n e, .pointer (some ⟨b, off, none⟩) => match E.ti e with
      | none => none
      | some j => match cond (Nat.blt n UNK) (bndsV n n lo hi mx) none with
        | some (l, h, m) => some (.slice (some ⟨b, cond (Nat.beq m l) off (off + l * j.size), none⟩) (h - l) (m - l))
        | none => none
    | _, _ => none

def fieldAddrV (E : Env) (t : TypeId) (x : Value) (f : Nat) : Option Value :=
  match E.ti t, x with
  | some i, .pointer (some ⟨b, off, none⟩) => match i.desc with
    | .struct _ => match nth i.fs f with
      | some (o, sz) => cond (Nat.beq sz 0) none (some (ptrTo b (off + o)))
      | none => none
    | _ => none
  | _, _ => none

def partV (i : TI) (xs : List Value) (off : Nat) : Option Value := takeV i xs off

def fieldV (E : Env) (t : TypeId) (x : Value) (f : Nat) : Option Value :=
  match E.ti t, x with
  | some i, .agg cs => match i.desc with
    | .struct fields => match fields[f]? with
      | some fd => match E.ti fd.type with
        | some j => partV j cs.toList fd.offset
        | none => none
      | none => none
    | _ => none
  | _, _ => none

def indexAddrV (E : Env) (t : TypeId) (x ix : Value) : Option Value :=
  match E.ti t, ix with
  | some i, .int _ (.ofNat n) => match i.desc, x with
    | .array len e, .pointer (some ⟨b, off, none⟩) => match E.ti e with
      | some j => cond (Nat.blt n len) (some (ptrTo b (off + n * j.size))) none
      | none => none
    | .slice e, .slice (some ⟨b, off, none⟩) len _ => match E.ti e with
      | some j => cond (Nat.blt n len) (some (ptrTo b (off + n * j.size))) none
      | none => none
    | _, _ => none
  | _, _ => none

def indexV (E : Env) (t : TypeId) (x ix : Value) : Option Value :=
  match E.ti t, ix with
  | some i, .int _ (.ofNat n) => match i.desc, x with
    | .array len e, .agg cs => match E.ti e with
      | some j => cond (Nat.blt n len) (partV j cs.toList (n * j.size)) none
      | none => none
    | .string, .string s => match nth (bl s) n with
      | some b => some (.int .u8 b.toNat)
      | none => none
    | _, _ => none
  | _, _ => none

/-! maps -/
def keyEq : Value → Value → Option Bool
  | .int k a, .int k' b => cond (sameK k k') (some (decide (a = b))) none
  | .string a, .string b => some (bytesEq (bl a) (bl b))
  | _, _ => none

def findK (k : Value) : List (Value × Value × Nat) → Nat → Option (Option (Nat × Value))
  | [], _ => some none
  | (a, v, _) :: r, i => match keyEq k a with
    | some true => some (some (i, v))
    | some false => findK k r (i + 1)
    | none => none

def keyD : TypeDesc → Value → Bool
  | .int _, .int _ _ => true
  | .string, .string _ => true
  | _, _ => false

/-- A map's entries. -/
def entriesM : Value → M (List (Value × Value × Nat))
  | .map none => pure []
  | .map (some b) => do
    match ← rd b with
    | .map es _ => pure es
    | _ => fail
  | _ => fail

def lookupM (E : Env) (t : TypeId) (x k : Value) (ok : Bool) : M Value :=
  match E.ti t with
  | none => fail
  | some i => match i.desc with
    | .map kt et => match E.ti kt, E.ti et with
      | some ki, some ei => do
        guardM (keyD ki.desc k)
        let es ← entriesM x
        match ← liftO (findK k es 0) with
        | some (_, v) => pure (cond ok (.tuple ⟨[v, .bool true]⟩) v)
        | none => pure (cond ok (.tuple ⟨[ei.zero, .bool false]⟩) ei.zero)
      | _, _ => fail
    | _ => fail

def setNth {α : Type} : List α → Nat → (α → α) → List α
  | [], _, _ => []
  | x :: r, 0, f => f x :: r
  | x :: r, n + 1, f => x :: setNth r n f

def delNth {α : Type} : List α → Nat → List α
  | [], _ => []
  | _ :: r, 0 => r
  | x :: r, n + 1 => x :: delNth r n

def mapUpdateM (E : Env) (t : TypeId) (x k v : Value) : M Value :=
  match E.ti t with
  | none => fail
  | some i => match i.desc with
    | .map kt _ => match E.ti kt with
      | some ki => do
        guardM (keyD ki.desc k)
        match x with
        | .map (some b) => do
          match ← rd b with
          | .map es clock => do
            match ← liftO (findK k es 0) with
            | some (j, _) => wr b (.map (setNth es j fun e => (k, v, e.2.2)) clock)
            | none => wr b (.map (es ++ [(k, v, clock)]) (clock + 1))
            pure undef
          | _ => fail
        | _ => fail
      | none => fail
    | _ => fail

def deleteM (E : Env) (t : TypeId) (x k : Value) : M Value :=
  match E.ti t with
  | none => fail
  | some i => match i.desc with
    | .map kt _ => match E.ti kt with
      | some ki => do
        guardM (keyD ki.desc k)
        match x with
        | .map none => pure (.tuple ⟨[]⟩)
        | .map (some b) => do
          match ← rd b with
          | .map es clock => do
            match ← liftO (findK k es 0) with
            | some (j, _) => wr b (.map (delNth es j) clock)
            | none => wr b (.map es clock)
            pure (.tuple ⟨[]⟩)
          | _ => fail
        | _ => fail
      | none => fail
    | _ => fail

/-! ranging over a string, over a map -/
def rangeMapM : Option Nat → M Value
  | none => do
    let b ← new (.miter none 0 [] 0)
    pure (ptrTo b 0)
  | some m => do
    match ← rd m with
    | .map _ clock => do
      let b ← new (.miter (some m) clock [] clock)
      pure (ptrTo b 0)
    | _ => fail

def rangeM (E : Env) (t : TypeId) (x : Value) : M Value :=
  match E.ti t, x with
  | some i, .map mo => match i.desc with
    | .map _ _ => rangeMapM mo
    | _ => fail
  | some i, .string s => match i.desc with
    | .string => do
      let b ← new (.iter s 0)
      pure (ptrTo b 0)
    | _ => fail
  | _, _ => fail

def nextAt (b : Nat) (s : ByteArray) (pos : Nat) (c : UInt8) : M Value := do
  guardM (Nat.blt c.toNat 128)
  wr b (.iter s (pos + 1))
  pure (.tuple ⟨[.bool true, .int .i64 (Int.ofNat pos), .int .i32 (Int.ofNat c.toNat)]⟩)

def hasN : List Nat → Nat → Bool
  | [], _ => false
  | a :: r, n => Nat.beq a n || hasN r n

/-- The entries that an iterator has not handed out. -/
def leftE : List (Value × Value × Nat) → List Nat → List (Value × Value × Nat)
  | [], _ => []
  | e :: r, seen => cond (hasN seen e.2.2) (leftE r seen) (e :: leftE r seen)

def elder : List (Value × Value × Nat) → Nat → Bool
  | [], _ => false
  | e :: r, n => Nat.blt e.2.2 n || elder r n

def isNilL {α : Type} : List α → Bool
  | [] => true
  | _ => false

/-- The next entry of a map, where just one may come. -/
def nextMapM (b : Nat) (m : Option Nat) (since : Nat) (seen : List Nat) (last : Nat) : M Value :=
  match m with
  | none => pure (.tuple ⟨[.bool false]⟩)
  | some mb => do
    match ← rd mb with
    | .map es clock => do
      guardM (isNilL seen || isNilL es || elder es last)
      match leftE es seen with
      | [] => pure (.tuple ⟨[.bool false]⟩)
      | [e] => do
        guardM (Nat.blt e.2.2 since)
        wr b (.miter (some mb) since (seen ++ [e.2.2]) clock)
        pure (.tuple ⟨[.bool true, e.1, e.2.1]⟩)
      | _ => fail
    | _ => fail

def lastN : List Nat → Option Nat
  | [] => none
  | [a] => some a
  | _ :: r => lastN r

def bornE : List (Value × Value × Nat) → Nat → Option (Value × Value)
  | [], _ => none
  | e :: r, n => cond (Nat.beq e.2.2 n) (some (e.1, e.2.1)) (bornE r n)

/-- The entry that an iterator handed out last. -/
def entryM (x : Value) : M Value :=
  match x with
  | .pointer (some ⟨b, 0, none⟩) => do
    match ← rd b with
    | .miter (some mb) _ seen last => do
      let n ← liftO (lastN seen)
      match ← rd mb with
      | .map es clock => do
        guardM (Nat.beq clock last)
        let (k, v) ← liftO (bornE es n)
        pure (.tuple ⟨[k, v]⟩)
      | _ => fail
    | _ => fail
  | _ => fail

def nextM (x : Value) (isString : Bool) : M Value :=
  match x, isString with
  | .pointer (some ⟨b, 0, none⟩), false => do
    match ← rd b with
    | .miter m since seen last => nextMapM b m since seen last
    | _ => fail
  | .pointer (some ⟨b, 0, none⟩), true => do
    match ← rd b with
    | .iter s pos => match nth (bl s) pos with
      | some c => nextAt b s pos c
      | none => pure (.tuple ⟨[.bool false]⟩)
    | _ => fail
  | _, _ => fail

def typeAssertV (E : Env) (x : Value) (t : TypeId) (ok : Bool) : Option Value :=
  match E.ti t, x with
  | some i, .iface u v => match i.desc with
    | .interface _ => none
    | _ => cond (Nat.beq u t) (some (cond ok (.tuple ⟨[v, .bool true]⟩) v)) (cond ok (some (.tuple ⟨[i.zero, .bool false]⟩)) none)
  | _, _ => none

def extractV (x : Value) (n : Nat) : Option Value :=
  match x with
  | .tuple vs => nth vs.toList n
  | _ => none

/-! built-in functions -/
def lenV (E : Env) (t : TypeId) (x : Value) : Option Value :=
  match E.ti t with
  | none => none
  | some i => match i.desc, x with
    | .string, .string s => some (.int .i64 (Int.ofNat (bl s).length))
    | .array n _, _ => some (.int .i64 (Int.ofNat n))
    | .slice _, .slice _ n _ => some (.int .i64 (Int.ofNat n))
    | .map _ _, .map none => some (.int .i64 0)
    | _, _ => none

def lenM (E : Env) (t : TypeId) (x : Value) : M Value :=
  match x with
  | .map (some b) => match E.ti t with
    | some i => match i.desc with
      | .map _ _ => do
        match ← rd b with
        | .map es _ => pure (.int .i64 (Int.ofNat es.length))
        | _ => fail
      | _ => fail
    | none => fail
  | x => liftO (lenV E t x)

def capV (E : Env) (t : TypeId) (x : Value) : Option Value :=
  match E.ti t with
  | none => none
  | some i => match i.desc, x with
    | .slice _, .slice _ _ c => cond (Nat.blt c UNK) (some (.int .i64 (Int.ofNat c))) none
    | _, _ => none

def min2 : Value → Value → Option Value
  | .int k x, .int _ y => some (.int k (cond (ltI y x) y x))
  | _, _ => none
def max2 : Value → Value → Option Value
  | .int k x, .int _ y => some (.int k (cond (ltI x y) y x))
  | _, _ => none
def foldV (f : Value → Value → Option Value) : Value → List Value → Option Value
  | x, [] => some x
  | x, y :: r => match f x y with
    | some z => foldV f z r
    | none => none

def lenOfV : Value → Option Nat
  | .slice _ n _ => some n
  | .string s => some (bl s).length
  | _ => none

def isIntD : TypeDesc → Bool
  | .int _ => true
  | _ => false

/-- How many are appended, and their cells. -/
def newCells (E : Env) (j : TI) (xt : Option TypeId) (x : Value) : M (Nat × List Value) :=
  match xt with
  | none => fail
  | some xt => match E.ti xt with
    | none => fail
    | some xi => cond (isIntD xi.desc)
      (match x with
       | .int _ (.ofNat n) => do
         guardM (Nat.blt n 1099511627776 && Nat.blt (n * j.bytes) 1099511627776)
         pure (n, repL (cellsL j.zero) n)
       | _ => fail)
      (do
        let n ← liftO (lenOfV x)
        let ys ← firstM n j.size x
        pure (n, ys))

def appendM (E : Env) (st : Option TypeId) (xt : Option TypeId) (s x : Value) : M Value :=
  match st with
  | none => fail
  | some st => match E.ti st with
    | none => fail
    | some i => match i.desc, s with
      | .slice e, .slice base len cap => match E.ti e with
        | none => fail
        | some j => do
          guardM (Nat.blt 0 j.size && Nat.blt 0 j.bytes)
          let (n, ys) ← newCells E j xt x
          let need := len + n
          cond (Nat.ble need (cond (Nat.blt cap UNK) cap (lbOf cap)))
            (match base with
             | none => pure (.slice none need cap)
             | some a => cond (Nat.beq (n * j.size) 0) (pure (.slice (some a) need cap)) (match a with
               | ⟨b, off, none⟩ => do
                 putCells b (off + len * j.size) ys
                 pure (.slice (some ⟨b, off, none⟩) need cap)
               | _ => fail))
            (do
              guardM (Nat.blt (need * j.bytes) 68719476736 && Nat.blt need 1099511627776)
              let old ← firstM len j.size s
              guardM ((old ++ ys).all one)
              cond (Nat.blt cap UNK)
                (do
                  let b ← new (.cells (old ++ ys) e .grow)
                  pure (.slice (some ⟨b, 0, none⟩) need (capOf need j.size)))
                (match base with
                 | some ⟨b0, _, none⟩ => do
                   match ← rd b0 with
                   | .cells _ e' k => do
                     guardM (k.growing && Nat.beq e e' && Nat.beq j.size (esOf cap))
                     wr b0 .dead
                     let b ← new (.cells (old ++ ys) e k)
                     pure (.slice (some ⟨b, 0, none⟩) need (capOf need j.size))
                   | _ => fail
                 | _ => fail))
      | _, _ => fail

def copyM (E : Env) (dt : TypeId) (d x : Value) : M Value :=
  match E.ti dt with
  | none => fail
  | some i => match i.desc, d with
    | .slice e, .slice base len _ => match E.ti e with
      | none => fail
      | some j => do
        let m ← liftO (lenOfV x)
        let n := cond (Nat.ble m len) m len
        let ys ← firstM n j.size x
        match ys, base with
        | [], _ => pure (.int .i64 (Int.ofNat n))
        | ys, some ⟨b, off, none⟩ => do
          putCells b off ys
          pure (.int .i64 (Int.ofNat n))
        | _, _ => fail
    | _, _ => fail

def clearM (E : Env) (t : TypeId) (x : Value) : M Value :=
  match E.ti t with
  | none => fail
  | some i => match i.desc, x with
    | .slice e, .slice base n _ => cond (Nat.beq n 0) (pure (.tuple ⟨[]⟩)) (match E.ti e, base with
      | some j, some ⟨b, off, none⟩ => do
        putCells b off (repL (cellsL j.zero) n)
        pure (.tuple ⟨[]⟩)
      | _, _ => fail)
    | _, _ => fail

def builtinM (E : Env) (b : Builtin) (ts : List TypeId) (args : List Value) : M Value :=
  match b, args with
  | .append, [s, x] => appendM E (nth ts 0) (nth ts 1) s x
  | .len, [x] => match ts with
    | t :: _ => lenM E t x
    | [] => fail
  | .cap, [x] => match ts with
    | t :: _ => liftO (capV E t x)
    | [] => fail
  | .min, x :: r => liftO (foldV min2 x r)
  | .max, x :: r => liftO (foldV max2 x r)
  | .copy, [d, x] => match ts with
    | t :: _ => copyM E t d x
    | [] => fail
  | .delete, [m, k] => match ts with
    | t :: _ => deleteM E t m k
    | [] => fail
  | .clear, [x] => match ts with
    | t :: _ => clearM E t x
    | [] => fail
  | _, _ => fail

/-! operands -/
def evalI (E : Env) (tm : Tr Value) : Operand → Option Value
  | .tmp t => tm.get t
  | .const v => cond (simple v) (some v) none
  | .global g => cond (E.glob g) (some (ptrTo g 0)) none
  | .func f => some (.func (.func f) ⟨[]⟩ ⟨[]⟩)

def evalL (ev : Operand → Option Value) : List Operand → Option (List Value)
  | [] => some []
  | x :: r => match ev x with
    | some v => match evalL ev r with
      | some l => some (v :: l)
      | none => none
    | none => none

def evalP (ev : Operand → Option Value) : List (Nat × Operand) → Option (List (Nat × Value))
  | [] => some []
  | (i, x) :: r => match ev x with
    | some v => match evalP ev r with
      | some l => some ((i, v) :: l)
      | none => none
    | none => none

def evalO (ev : Operand → Option Value) : Option Operand → Option (Option Value)
  | none => some none
  | some x => match ev x with
    | some v => some (some v)
    | none => none

/-! an operation's operands, then what it does: short words, so that the kernel has little to copy at each step -/
def o1 (ev : Operand → Option Value) (x : Operand) (k : Value → M Value) : M Value := liftO (ev x) >>= k
def o2 (ev : Operand → Option Value) (x y : Operand) (k : Value → Value → M Value) : M Value := liftO (ev x) >>= fun a => liftO (ev y) >>= fun b => k a b
def o3 (ev : Operand → Option Value) (x y z : Operand) (k : Value → Value → Value → M Value) : M Value := liftO (ev x) >>= fun a => liftO (ev y) >>= fun b => liftO (ev z) >>= fun c => k a b c
def oP (ev : Operand → Option Value) (ps : Array (Nat × Operand)) (k : List (Nat × Value) → M Value) : M Value := liftO (evalP ev ps.toList) >>= k
def oL (ev : Operand → Option Value) (ps : Array Operand) (k : List Value → M Value) : M Value := liftO (evalL ev ps.toList) >>= k
def oO (ev : Operand → Option Value) (x : Option Operand) (k : Option Value → M Value) : M Value := liftO (evalO ev x) >>= k
def oS (E : Env) (ev : Operand → Option Value) (t : TypeId) (x : Operand) (lo hi mx : Option Operand) : M Value := do
  liftO (sliceV E t (← liftO (ev x)) (← liftO (evalO ev lo)) (← liftO (evalO ev hi)) (← liftO (evalO ev mx)))
def oPick (ev : Operand → Option Value) (c a b : Operand) : M Value := do
  match ← liftO (ev c) with
  | .bool t => cond t (liftO (ev a)) (liftO (ev b))
  | _ => fail
def oFn (ev : Operand → Option Value) (fn : Fn) (a c : Array Operand) : M Value := do
  pure (.func fn ⟨← liftO (evalL ev a.toList)⟩ ⟨← liftO (evalL ev c.toList)⟩)
def oCall (E : Env) (ev : Operand → Option Value) (c : Call) : M Value :=
  match c.callee with
  | .builtin b => oL ev c.args (builtinM E b c.argTypes.toList)
  | _ => fail
def lO1 (f : Value → Option Value) (a : Value) : M Value := liftO (f a)
def lO2 (f : Value → Value → Option Value) (a b : Value) : M Value := liftO (f a b)

/-- An operation that is no call of a function. -/
def opM (E : Env) (ev : Operand → Option Value) (o : Op) : M Value :=
  match o with
  | .move x | .assign x => liftO (ev x)
  | .pick c a b => oPick ev c a b
  | .alloc t => allocM E t
  | .box t x => o1 ev x (boxM t)
  | .build t ps => oP ev ps (fun l => liftO (buildV E t l))
  | .buildSlice t n ps => oP ev ps (buildSliceM E t n)
  | .load t a => o1 ev a (loadM E t)
  | .store t a x => o2 ev a x (storeM E t)
  | .nilCheck x => o1 ev x (lO1 nilCheckV)
  | .binOp op t x y _ => o2 ev x y (binM E op t (isConst x) (isConst y))
  | .unOp op _ x => o1 ev x (lO1 (unV op))
  | .convert s d x => o1 ev x (convertM E s d)
  | .makeInterface t x => o1 ev x (lO1 (mkIface E t))
  | .makeFunc fn a c => oFn ev fn a c
  | .makeMap _ r => oO ev r makeMapM
  | .makeSlice t l c => o2 ev l c (makeSliceM E t)
  | .slice t x lo hi mx => oS E ev t x lo hi mx
  | .fieldAddr t x f => o1 ev x (fun a => liftO (fieldAddrV E t a f))
  | .field t x f => o1 ev x (fun a => liftO (fieldV E t a f))
  | .indexAddr t x i => o2 ev x i (lO2 (indexAddrV E t))
  | .index t x i => o2 ev x i (lO2 (indexV E t))
  | .lookup t x k ok => o2 ev x k (fun a b => lookupM E t a b ok)
  | .mapUpdate t m k x | .insert t m k x => o3 ev m k x (mapUpdateM E t)
  | .range t x => o1 ev x (rangeM E t)
  | .next x s => o1 ev x (fun a => nextM a s)
  | .entry x => o1 ev x entryM
  | .typeAssert x _ t ok => o1 ev x (fun a => liftO (typeAssertV E a t ok))
  | .extract x n => o1 ev x (fun a => liftO (extractV a n))
  | .call c => oCall E ev c
  | _ => fail

/-- Which function is called, on what. -/
def target (f : Value) (args : List Value) : Option (FuncId × List Value) :=
  match f with
  | .func (.func g) first cap => some (g, first.toList ++ args ++ cap.toList)
  | _ => none

abbrev CallM := FuncId → List Value → M Value

def operM (E : Env) (call : CallM) (ev : Operand → Option Value) (o : Op) : M Value :=
  match o with
  | .call c => match c.callee with
    | .value f => do
      let f ← liftO (ev f)
      let args ← liftO (evalL ev c.args.toList)
      let (g, l) ← liftO (target f args)
      match E.ext g with
      | some e => e l
      | none => call g l
    | _ => opM E ev o
  | _ => opM E ev o

def putT (n : Nat) (tm : Tr Value) (dst : Option Tmp) (v : Value) : Option (Tr Value) :=
  match dst with
  | none => some tm
  | some d => cond (Nat.blt d n) (some (tm.set 5 d v)) none

def wantedI (ops : Array Oper) (tm : Tr Value) (o : Oper) : Option Bool :=
  match o.guard with
  | none => some true
  | some (j, want) => match (ops[j]?).bind (·.dst) with
    | none => none
    | some d => match tm.get d with
      | some (.bool b) => some (b == want)
      | some (.tuple ⟨[]⟩) => some false
      | _ => none

def stepM (E : Env) (call : CallM) (n : Nat) (ops : Array Oper) (o : Oper) (tm : Tr Value) : M (Tr Value) := do
  match ← liftO (wantedI ops tm o) with
  | true => do
    let v ← operM E call (evalI E tm) o.op
    liftO (putT n tm o.dst v)
  | false => liftO (putT n tm o.dst undef)

/-- A region in its own order. -/
def runOps (E : Env) (call : CallM) (n : Nat) (ops : Array Oper) (l : List Oper) : Tr Value → M (Tr Value) :=
  @List.rec Oper (fun _ => Tr Value → M (Tr Value)) (fun tm => pure tm) (fun o _ ih tm => (stepM E call n ops o tm) >>= ih) l

theorem runOps_cons (E : Env) (call : CallM) (n : Nat) (ops : Array Oper) (o : Oper) (r : List Oper) (tm : Tr Value) :
    runOps E call n ops (o :: r) tm = (do runOps E call n ops r (← stepM E call n ops o tm)) := rfl

def clash (r1 w1 r2 w2 : Nat) : Bool := !Nat.beq ((w1 &&& (r2 ||| w2)) ||| (w2 &&& r1)) 0

def clears (before : Nat) (r2 w2 : Nat) : List (Nat × Nat × Nat) → Bool
  | [] => true
  | (i, r1, w1) :: l => cond (clash r1 w1 r2 w2 && !Nat.testBit before i) false (clears before r2 w2 l)

/-- A step by itself: what it touched. -/
def iso {α : Type} (m : M α) : M (α × Nat × Nat) := fun s =>
  match m ⟨s.h, s.nx, 0, 0⟩ with
  | none => none
  | some (a, s') => some ((a, s'.r, s'.w), ⟨s'.h, s'.nx, s.r ||| s'.r, s.w ||| s'.w⟩)

/-- What was touched by the operations so far: number, masks read and written; and all of them together. -/
structure Seen where
  l : List (Nat × Nat × Nat)
  r : Nat
  w : Nat

/-- A region whose order is drawn: what its operations touch must not hang on the order. -/
def runDraw (E : Env) (call : CallM) (n : Nat) (ops : Array Oper) (l : List Oper) : Nat → Seen → Tr Value → M (Tr Value) :=
  @List.rec Oper (fun _ => Nat → Seen → Tr Value → M (Tr Value)) (fun _ _ tm => pure tm) (fun o _ ih i seen tm => do
    let (tm', r, w) ← iso (stepM E call n ops o tm)
    guardM (!clash seen.r seen.w r w || clears ((Region.before ops).getD i 0) r w seen.l)
    ih (i + 1) ⟨(i, r, w) :: seen.l, seen.r ||| r, seen.w ||| w⟩ tm') l

theorem runDraw_cons (E : Env) (call : CallM) (n : Nat) (ops : Array Oper) (o : Oper) (rest : List Oper) (i : Nat) (seen : Seen) (tm : Tr Value) :
    runDraw E call n ops (o :: rest) i seen tm = (do
      let (tm', r, w) ← iso (stepM E call n ops o tm)
      guardM (!clash seen.r seen.w r w || clears ((Region.before ops).getD i 0) r w seen.l)
      runDraw E call n ops rest (i + 1) ⟨(i, r, w) :: seen.l, seen.r ||| r, seen.w ||| w⟩ tm') := rfl

/-- The operations that stand ahead of one. -/
def predMask (b : Array Nat) : List Edge → Nat
  | [] => 0
  | e :: r => cond (Region.binds .any e) (bit e.on ||| b.getD e.on 0 ||| predMask b r) (predMask b r)

def edgesOK (j : Nat) : List Edge → Bool
  | [] => true
  | e :: r => cond (Region.binds .any e) (Nat.blt e.on j && edgesOK j r) (edgesOK j r)

def tmpsMask : List Operand → Nat
  | [] => 0
  | .tmp t :: r => bit t ||| tmpsMask r
  | _ :: r => tmpsMask r

def lookMask (ops : Array Oper) (o : Oper) : Nat :=
  tmpsMask o.op.operands.toList ||| match o.guard with
    | none => 0
    | some (j, _) => match (ops[j]?).bind (·.dst) with
      | some d => bit d
      | none => 0

def dstMask (o : Oper) : Nat :=
  match o.dst with
  | some d => bit d
  | none => 0

def regT (ops : Array Oper) (b : Array Nat) : List Oper → Nat → List (Nat × Nat × Nat) → Bool
  | [], _, _ => true
  | o :: r, j, prev => cond (Nat.beq (b.getD j 0) (predMask b o.after.toList) && edgesOK j o.after.toList && clears (b.getD j 0) (lookMask ops o) (dstMask o) prev)
      (regT ops b r (j + 1) ((j, lookMask ops o, dstMask o) :: prev)) false

def regOK (ops : Array Oper) : Bool := regT ops (Region.before ops) ops.toList 0 []

def runRegion (E : Env) (call : CallM) (n : Nat) (ops : Array Oper) (draw : Bool) (tm : Tr Value) : M (Tr Value) :=
  cond draw (do
    guardM (regOK ops)
    runDraw E call n ops ops.toList 0 ⟨[], 0, 0⟩ tm) (runOps E call n ops ops.toList tm)

inductive Ex where
  | normal
  | exit (id : Nat)
  | ret

def xRegion (E : Env) (call : CallM) (n : Nat) (ops : Array Oper) (d : Bool) (tm : Tr Value) : M (Ex × Tr Value) := do pure (.normal, ← runRegion E call n ops d tm)
def xSeq (ih : Code → Tr Value → M (Ex × Tr Value)) (a b : Code) (tm : Tr Value) : M (Ex × Tr Value) := do
  match ← ih a tm with
  | (.normal, tm) => ih b tm
  | r => pure r
def xCond (E : Env) (ih : Code → Tr Value → M (Ex × Tr Value)) (c : Operand) (a b : Code) (tm : Tr Value) : M (Ex × Tr Value) := do
  match ← liftO (evalI E tm c) with
  | .bool t => cond t (ih a tm) (ih b tm)
  | _ => fail
def xBlock (ih : Code → Tr Value → M (Ex × Tr Value)) (id : Nat) (c : Code) (tm : Tr Value) : M (Ex × Tr Value) := do
  match ← ih c tm with
  | (.exit id', tm) => cond (Nat.beq id' id) (pure (.normal, tm)) (pure (.exit id', tm))
  | r => pure r
def xLoop (ih : Code → Tr Value → M (Ex × Tr Value)) (c : Code) (tm : Tr Value) : M (Ex × Tr Value) := do
  match ← ih c tm with
  | (.normal, tm) => ih (.loop c) tm
  | r => pure r

/-- One level of a piece of code. -/
def execF (E : Env) (call : CallM) (n : Nat) (ih : Code → Tr Value → M (Ex × Tr Value)) (c : Code) (tm : Tr Value) : M (Ex × Tr Value) :=
  match c with
  | .skip => pure (.normal, tm)
  | .label _ => pure (.normal, tm)
  | .region _ ops d => xRegion E call n ops d tm
  | .seq a b => xSeq ih a b tm
  | .cond c a b => xCond E ih c a b tm
  | .block id c => xBlock ih id c tm
  | .loop c => xLoop ih c tm
  | .scope c => ih c tm
  | .exit id => pure (.exit id, tm)
  | .ret => pure (.ret, tm)
  | _ => fail

def exec (E : Env) (call : CallM) (n : Nat) (k : Nat) : Code → Tr Value → M (Ex × Tr Value) :=
  @Nat.rec (fun _ => Code → Tr Value → M (Ex × Tr Value)) (fun _ _ => fail) (fun _ ih => execF E call n ih) k

theorem exec_succ (E : Env) (call : CallM) (n k : Nat) (c : Code) (tm : Tr Value) : exec E call n (k + 1) c tm = execF E call n (exec E call n k) c tm := rfl

/-- bytes.Compare's body-less core: two rows of bytes. -/
def cmpBytes (a b : List UInt8) : Int := cond (bytesLt a b) (-1) (cond (bytesEq a b) 0 1)
def compareM (args : List Value) : M Value :=
  match args with
  | [.slice a n c, .slice b m d] => do
    let x ← liftO (byteL (← firstM n 1 (.slice a n c)))
    let y ← liftO (byteL (← firstM m 1 (.slice b m d)))
    pure (.int .i64 (cmpBytes x y))
  | _ => fail

def argsT : List Value → Nat → Tr Value → Tr Value
  | [], _, t => t
  | v :: r, i, t => argsT r (i + 1) (t.set 5 i v)

def resultsM (E : Env) (tm : Tr Value) : List ResultVar → M (List Value)
  | [] => pure []
  | .tmp t :: r => do
    let v ← liftO (tm.get t)
    pure (v :: (← resultsM E tm r))
  | .cell a t :: r => do
    let v ← loadM E t (← liftO (tm.get a))
    pure (v :: (← resultsM E tm r))

def oneOf : List Value → Value
  | [v] => v
  | l => .tuple ⟨l⟩

def callM (E : Env) : Nat → CallM
  | 0, _, _ => fail
  | k + 1, f, args =>
    match E.intr f with
    | some g => g args
    | none => match E.fn f with
      | none => fail
      | some fn => match fn.body with
        | none => fail
        | some c => do
          guardM (Nat.ble args.length fn.ntmps)
          match ← exec E (callM E k) fn.ntmps E.fuel c (argsT args 0 .nil) with
          | (.exit _, _) => fail
          | (_, tm) => do pure (oneOf (← resultsM E tm fn.results.toList))

end
end Go.Ideal
