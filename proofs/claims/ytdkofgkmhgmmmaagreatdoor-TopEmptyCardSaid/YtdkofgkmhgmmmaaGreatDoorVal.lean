/- The ideal memory: blocks by numbers that no tape turns; how an ideal value, an ideal block, an ideal memory stand for the model's own. -/
import Derived.Test.YtdkofgkmhgmmmaaGreatDoorTree
namespace Go.Ideal
set_option linter.all false
set_option linter.unusedSimpArgs false
set_option linter.unusedVariables false
noncomputable section
open Go Go.RowKit

/-- A capacity from here on is not known: modulo this number it is the least that it can be; divided by it, less one, how many cells an element has. -/
def UNK : Nat := 9223372036854775808
def capOf (lb es : Nat) : Nat := UNK * (es + 1) + lb
def lbOf (cap : Nat) : Nat := cap % UNK
def esOf (cap : Nat) : Nat := cap / UNK - 1

theorem capOf_unk (lb es : Nat) : UNK ≤ capOf lb es := by
  unfold capOf
  have : UNK * 1 ≤ UNK * (es + 1) := Nat.mul_le_mul_left _ (by omega)
  omega
theorem lbOf_capOf {lb es : Nat} (h : lb < UNK) : lbOf (capOf lb es) = lb := by
  unfold lbOf capOf
  rw [Nat.mul_add_mod]; exact Nat.mod_eq_of_lt h
theorem esOf_capOf {lb es : Nat} (h : lb < UNK) : esOf (capOf lb es) = es := by
  unfold esOf capOf
  rw [Nat.mul_add_div (by unfold UNK; omega), Nat.div_eq_of_lt h]; omega

/-- What a row of cells is: a variable's own; a row behind an append, whose end is not known; the bytes of a string, copied; memory that is only read. -/
inductive Kd where
  | var | vst | grow | str | ro

def Kd.isRo : Kd → Bool
  | .ro => true
  | _ => false

def Kd.growing : Kd → Bool
  | .grow | .str => true
  | _ => false

/-- An ideal block. -/
inductive Blk where
  | cells (xs : List Value) (elem : TypeId) (k : Kd)
  | map (es : List (Value × Value × Nat)) (clock : Nat)
  | iter (s : ByteArray) (pos : Nat)
  | miter (m : Option Nat) (since : Nat) (seen : List Nat) (last : Nat)
  | dead

def Blk.live : Blk → Bool
  | .dead => false
  | _ => true

def Blk.isRo : Blk → Bool
  | .cells _ _ .ro => true
  | _ => false

/-- Where an ideal block lies: the model's block, how far in, how many cells that has. -/
structure Loc where
  r : Nat
  sh : Nat
  tot : Nat

abbrev Bij := Nat → Option Loc

structure CapOK (L : Loc) (off len cap cap' : Nat) : Prop where
  known : cap < UNK → cap' = cap
  least : UNK ≤ cap → lbOf cap ≤ cap'
  fits : UNK ≤ cap → L.sh + off + cap' * esOf cap ≤ L.tot
  small : UNK ≤ cap → cap' < UNK
  len : len ≤ cap'

mutual
/-- An ideal value stands for a value. -/
inductive V (β : Bij) : Value → Value → Prop where
  | bool (b : Bool) : V β (.bool b) (.bool b)
  | int (k : IntKind) (n : Int) : V β (.int k n) (.int k n)
  | string (s : ByteArray) : V β (.string s) (.string s)
  | nilptr : V β (.pointer none) (.pointer none)
  | ptr {b off : Nat} {L : Loc} : β b = some L → V β (.pointer (some ⟨b, off, none⟩)) (.pointer (some ⟨L.r, L.sh + off, none⟩))
  | nilsl : V β (.slice none 0 0) (.slice none 0 0)
  | sl {b off len cap cap' : Nat} {L : Loc} : β b = some L → CapOK L off len cap cap' →
      V β (.slice (some ⟨b, off, none⟩) len cap) (.slice (some ⟨L.r, L.sh + off, none⟩) len cap')
  | slz (A A' : Addr) {cap : Nat} : UNK ≤ cap → lbOf cap = 0 → V β (.slice (some A) 0 cap) (.slice (some A') 0 0)
  | sl0 (A A' : Addr) : V β (.slice (some A) 0 0) (.slice (some A') 0 0)
  | nilmap : V β (.map none) (.map none)
  | map {b : Nat} {L : Loc} : β b = some L → V β (.map (some b)) (.map (some L.r))
  | nilfunc : V β .nilFunc .nilFunc
  | func (fn : Fn) {a a' c c' : Array Value} : VL β a.toList a'.toList → VL β c.toList c'.toList → V β (.func fn a c) (.func fn a' c')
  | nilif : V β .nilIface .nilIface
  | iface (t : TypeId) {v v' : Value} : V β v v' → V β (.iface t v) (.iface t v')
  | agg {a a' : Array Value} : VL β a.toList a'.toList → V β (.agg a) (.agg a')
  | tuple {a a' : Array Value} : VL β a.toList a'.toList → V β (.tuple a) (.tuple a')
inductive VL (β : Bij) : List Value → List Value → Prop where
  | nil : VL β [] []
  | cons {x x' : Value} {r r' : List Value} : V β x x' → VL β r r' → VL β (x :: r) (x' :: r')
end

/-- What is added to a map of blocks. -/
structure Ext (β β' : Bij) (lo hi : Nat) : Prop where
  keep : ∀ b L, β b = some L → β' b = some L
  new : ∀ b L, β' b = some L → β b = none → lo ≤ b ∧ b < hi

theorem Ext.refl (β : Bij) (lo hi : Nat) : Ext β β lo hi := ⟨fun _ _ h => h, fun _ _ h h' => by rw [h] at h'; cases h'⟩

theorem Ext.trans {β β' β'' : Bij} {a b c : Nat} (h : Ext β β' a b) (h' : Ext β' β'' b c) (h1 : a ≤ b) (h2 : b ≤ c) : Ext β β'' a c := by
  refine ⟨fun x L hx => h'.keep _ _ (h.keep _ _ hx), fun x L hx hn => ?_⟩
  cases e : β' x with
  | none => have := h'.new x L hx e; omega
  | some L' => have := h.new x L' e hn; omega

mutual
theorem V.mono {β β' : Bij} (h : ∀ b L, β b = some L → β' b = some L) : ∀ {v v' : Value}, V β v v' → V β' v v'
  | _, _, .bool b => .bool b
  | _, _, .int k n => .int k n
  | _, _, .string s => .string s
  | _, _, .nilptr => .nilptr
  | _, _, .ptr e => .ptr (h _ _ e)
  | _, _, .nilsl => .nilsl
  | _, _, .sl e c => .sl (h _ _ e) c
  | _, _, .slz A A' h h' => .slz A A' h h'
  | _, _, .sl0 A A' => .sl0 A A'
  | _, _, .nilmap => .nilmap
  | _, _, .map e => .map (h _ _ e)
  | _, _, .nilfunc => .nilfunc
  | _, _, .func fn e c => .func fn (e.mono h) (c.mono h)
  | _, _, .nilif => .nilif
  | _, _, .iface t e => .iface t (e.mono h)
  | _, _, .agg e => .agg (e.mono h)
  | _, _, .tuple e => .tuple (e.mono h)
theorem VL.mono {β β' : Bij} (h : ∀ b L, β b = some L → β' b = some L) : ∀ {v v' : List Value}, VL β v v' → VL β' v v'
  | _, _, .nil => .nil
  | _, _, .cons x r => .cons (x.mono h) (r.mono h)
end

section lists
variable {β : Bij}

theorem VL.length {l l' : List Value} (h : VL β l l') : l.length = l'.length := by
  induction l generalizing l' with
  | nil => cases h; rfl
  | cons x r ih => cases h with | cons h1 h2 => simp [ih h2]

theorem VL.get {l l' : List Value} (h : VL β l l') {i : Nat} {v : Value} (hi : l[i]? = some v) : ∃ v', l'[i]? = some v' ∧ V β v v' := by
  induction l generalizing l' i with
  | nil => simp at hi
  | cons x r ih =>
    cases h with
    | cons h1 h2 =>
      cases i with
      | zero => simp at hi; subst hi; exact ⟨_, rfl, h1⟩
      | succ i => simpa using ih h2 (by simpa using hi)

theorem VL.of_get {l l' : List Value} (hl : l.length = l'.length) (h : ∀ (i : Nat) v v', l[i]? = some v → l'[i]? = some v' → V β v v') : VL β l l' := by
  induction l generalizing l' with
  | nil => cases l' with | nil => exact .nil | cons _ _ => simp at hl
  | cons x r ih =>
    cases l' with
    | nil => simp at hl
    | cons x' r' =>
      refine .cons (h 0 x x' rfl rfl) (ih (by simpa using hl) fun i v v' a b => h (i + 1) v v' (by simpa using a) (by simpa using b))

theorem VL.append {a a' b b' : List Value} (h : VL β a a') (k : VL β b b') : VL β (a ++ b) (a' ++ b') := by
  induction a generalizing a' with
  | nil => cases h; exact k
  | cons x r ih => cases h with | cons h1 h2 => exact .cons h1 (ih h2)

theorem VL.take {l l' : List Value} (h : VL β l l') (n : Nat) : VL β (l.take n) (l'.take n) := by
  induction l generalizing l' n with
  | nil => cases h; simp; exact .nil
  | cons x r ih => cases h with | cons h1 h2 => cases n with
    | zero => simp; exact .nil
    | succ n => simpa using VL.cons h1 (ih h2 n)

theorem VL.drop {l l' : List Value} (h : VL β l l') (n : Nat) : VL β (l.drop n) (l'.drop n) := by
  induction l generalizing l' n with
  | nil => cases h; simp; exact .nil
  | cons x r ih => cases h with | cons h1 h2 => cases n with
    | zero => exact .cons h1 h2
    | succ n => simpa using ih h2 n

theorem VL.reverse {l l' : List Value} (h : VL β l l') : VL β l.reverse l'.reverse := by
  induction l generalizing l' with
  | nil => cases h; exact .nil
  | cons x r ih => cases h with | cons h1 h2 => simpa using (ih h2).append (.cons h1 .nil)

/-- A value that names no block. -/
def simple : Value → Bool
  | .bool _ | .int _ _ | .string _ | .pointer none | .slice none 0 0 | .map none | .nilFunc | .nilIface => true
  | _ => false

theorem V.of_simple {v : Value} (h : simple v = true) : V β v v := by
  cases v with
  | bool b => exact .bool b
  | int k n => exact .int k n
  | string s => exact .string s
  | pointer a => cases a with | none => exact .nilptr | some a => simp [simple] at h
  | slice a n c =>
    cases a with
    | none =>
      cases n with
      | zero => cases c with | zero => exact .nilsl | succ c => simp [simple] at h
      | succ n => simp [simple] at h
    | some a => simp [simple] at h
  | map r => cases r with | none => exact .nilmap | some a => simp [simple] at h
  | nilFunc => exact .nilfunc
  | nilIface => exact .nilif
  | _ => simp [simple] at h

theorem VL.of_simple {l : List Value} (h : l.all simple = true) : VL β l l := by
  induction l with
  | nil => exact .nil
  | cons x r ih =>
    simp only [List.all_cons, Bool.and_eq_true] at h
    exact .cons (V.of_simple h.1) (ih h.2)

def cellsL : Value → List Value
  | .agg cs => cs.toList
  | v => [v]

theorem cellsL_eq (v : Value) : cellsL v = v.cells.toList := by cases v <;> rfl

theorem V.cells {v v' : Value} (h : V β v v') : VL β (cellsL v) (cellsL v') := by
  cases h with
  | agg h => exact h
  | bool b => exact .cons (.bool b) .nil
  | int k n => exact .cons (.int k n) .nil
  | string s => exact .cons (.string s) .nil
  | nilptr => exact .cons .nilptr .nil
  | ptr e => exact .cons (.ptr e) .nil
  | nilsl => exact .cons .nilsl .nil
  | sl e c => exact .cons (.sl e c) .nil
  | slz A A' h h' => exact .cons (.slz A A' h h') .nil
  | sl0 A A' => exact .cons (.sl0 A A') .nil
  | nilmap => exact .cons .nilmap .nil
  | map e => exact .cons (.map e) .nil
  | nilfunc => exact .cons .nilfunc .nil
  | func fn a c => exact .cons (.func fn a c) .nil
  | nilif => exact .cons .nilif .nil
  | iface t e => exact .cons (.iface t e) .nil
  | tuple e => exact .cons (.tuple e) .nil

def one : Value → Bool
  | .agg _ | .tuple _ => false
  | _ => true

theorem V.one {v v' : Value} (h : V β v v') (ho : one v = true) : v'.oneCell' = true := by
  cases h <;> first | rfl | simp [Ideal.one] at ho

end lists

end
end Go.Ideal
