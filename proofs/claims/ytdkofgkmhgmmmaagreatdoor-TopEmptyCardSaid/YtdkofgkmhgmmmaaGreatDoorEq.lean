/- Equality of ideal values and blocks, as a test that the kernel runs. -/
import Derived.Test.YtdkofgkmhgmmmaaGreatDoorResp
namespace Go.Ideal
set_option linter.all false
set_option linter.unusedSimpArgs false
set_option linter.unusedVariables false
noncomputable section
open Go Go.RowKit
set_option maxHeartbeats 1000000

def intEq : Int → Int → Bool
  | .ofNat a, .ofNat b => Nat.beq a b
  | .negSucc a, .negSucc b => Nat.beq a b
  | _, _ => false

theorem intEq_eq : ∀ {a b : Int}, intEq a b = true → a = b
  | .ofNat _, .ofNat _, h => by rw [Nat.eq_of_beq_eq_true h]
  | .negSucc _, .negSucc _, h => by rw [Nat.eq_of_beq_eq_true h]
  | .ofNat _, .negSucc _, h => by cases h
  | .negSucc _, .ofNat _, h => by cases h

theorem bytesEq_sound : ∀ {a b : List UInt8}, bytesEq a b = true → a = b
  | [], [], _ => rfl
  | x :: a, y :: b, h => by
    unfold bytesEq at h
    cases e : Nat.beq x.toNat y.toNat with
    | false => rw [e] at h; cases h
    | true =>
      rw [e] at h
      rw [UInt8.toNat_inj.1 (Nat.eq_of_beq_eq_true e), bytesEq_sound h]
  | [], _ :: _, h => by cases h
  | _ :: _, [], h => by cases h

def addrEq : Addr → Addr → Bool
  | ⟨a, i, none⟩, ⟨b, j, none⟩ => Nat.beq a b && Nat.beq i j
  | _, _ => false

theorem addrEq_eq : ∀ {a b : Addr}, addrEq a b = true → a = b
  | ⟨a, i, none⟩, ⟨b, j, none⟩, h => by
    simp only [addrEq, Bool.and_eq_true] at h
    rw [Nat.eq_of_beq_eq_true h.1, Nat.eq_of_beq_eq_true h.2]
  | ⟨_, _, some _⟩, ⟨_, _, _⟩, h => by cases h
  | ⟨_, _, none⟩, ⟨_, _, some _⟩, h => by cases h

mutual
def eqV : Value → Value → Bool
  | .bool a, .bool b => a == b
  | .int j a, .int k b => sameK j k && intEq a b
  | .string a, .string b => bytesEq (bl a) (bl b)
  | .pointer none, .pointer none => true
  | .pointer (some a), .pointer (some b) => addrEq a b
  | .slice none n c, .slice none m d => Nat.beq n m && Nat.beq c d
  | .slice (some a) n c, .slice (some b) m d => addrEq a b && Nat.beq n m && Nat.beq c d
  | .map none, .map none => true
  | .map (some a), .map (some b) => Nat.beq a b
  | .func (.func f) ⟨a⟩ ⟨c⟩, .func (.func g) ⟨b⟩ ⟨d⟩ => Nat.beq f g && eqL a b && eqL c d
  | .nilFunc, .nilFunc => true
  | .iface t v, .iface u w => Nat.beq t u && eqV v w
  | .nilIface, .nilIface => true
  | .agg ⟨a⟩, .agg ⟨b⟩ => eqL a b
  | .tuple ⟨a⟩, .tuple ⟨b⟩ => eqL a b
  | _, _ => false
  termination_by structural x => x
def eqL : List Value → List Value → Bool
  | [], [] => true
  | x :: a, y :: b => eqV x y && eqL a b
  | _, _ => false
  termination_by structural x => x
end

theorem bl_inj {a b : ByteArray} (h : bl a = bl b) : a = b := by
  obtain ⟨⟨a⟩⟩ := a
  obtain ⟨⟨b⟩⟩ := b
  simp only [bl] at h
  rw [h]

mutual
theorem eqV_eq : ∀ (v w : Value), eqV v w = true → v = w := by
  intro v w h
  cases v with
  | bool a => cases w <;> simp_all [eqV]
  | int j a =>
    cases w <;> try (simp [eqV] at h; done)
    simp only [eqV, Bool.and_eq_true] at h
    have hk : ∀ j k : IntKind, sameK j k = true → j = k := by intro j k; cases j <;> cases k <;> simp [sameK]
    rw [hk _ _ h.1, intEq_eq h.2]
  | string a =>
    cases w <;> try (simp [eqV] at h; done)
    simp only [eqV] at h
    rw [bl_inj (bytesEq_sound h)]
  | pointer a =>
    cases w <;> try (simp [eqV] at h; done)
    rename_i b
    cases a <;> cases b <;> try (simp [eqV] at h; done)
    · rfl
    · simp only [eqV] at h; rw [addrEq_eq h]
  | slice a n c =>
    cases w <;> try (simp [eqV] at h; done)
    rename_i b m d
    cases a <;> cases b <;> try (simp [eqV] at h; done)
    · simp only [eqV, Bool.and_eq_true] at h; rw [Nat.eq_of_beq_eq_true h.1, Nat.eq_of_beq_eq_true h.2]
    · simp only [eqV, Bool.and_eq_true] at h; rw [addrEq_eq h.1.1, Nat.eq_of_beq_eq_true h.1.2, Nat.eq_of_beq_eq_true h.2]
  | map a =>
    cases w <;> try (simp [eqV] at h; done)
    rename_i b
    cases a <;> cases b <;> try (simp [eqV] at h; done)
    · rfl
    · simp only [eqV] at h; rw [Nat.eq_of_beq_eq_true h]
  | func f a c =>
    cases w <;> try (simp [eqV] at h; done)
    rename_i g b d
    obtain ⟨a⟩ := a; obtain ⟨b⟩ := b; obtain ⟨c⟩ := c; obtain ⟨d⟩ := d
    cases f <;> cases g <;> try (simp [eqV] at h; done)
    simp only [eqV, Bool.and_eq_true] at h
    rw [Nat.eq_of_beq_eq_true h.1.1, eqL_eq _ _ h.1.2, eqL_eq _ _ h.2]
  | nilFunc => cases w <;> simp_all [eqV]
  | iface t v =>
    cases w <;> try (simp [eqV] at h; done)
    simp only [eqV, Bool.and_eq_true] at h
    rw [Nat.eq_of_beq_eq_true h.1, eqV_eq _ _ h.2]
  | nilIface => cases w <;> simp_all [eqV]
  | agg a =>
    cases w <;> try (simp [eqV] at h; done)
    rename_i b
    obtain ⟨a⟩ := a; obtain ⟨b⟩ := b
    simp only [eqV] at h
    rw [eqL_eq _ _ h]
  | tuple a =>
    cases w <;> try (simp [eqV] at h; done)
    rename_i b
    obtain ⟨a⟩ := a; obtain ⟨b⟩ := b
    simp only [eqV] at h
    rw [eqL_eq _ _ h]
  | _ => cases w <;> simp [eqV] at h
theorem eqL_eq : ∀ (a b : List Value), eqL a b = true → a = b
  | [], [], _ => rfl
  | x :: a, y :: b, h => by
    simp only [eqL, Bool.and_eq_true] at h
    rw [eqV_eq x y h.1, eqL_eq a b h.2]
  | [], _ :: _, h => by simp [eqL] at h
  | _ :: _, [], h => by simp [eqL] at h
end

def eqK : Kd → Kd → Bool
  | .var, .var | .vst, .vst | .grow, .grow | .str, .str | .ro, .ro => true
  | _, _ => false
theorem eqK_eq {a b : Kd} (h : eqK a b = true) : a = b := by cases a <;> cases b <;> first | rfl | cases h

def eqE : List (Value × Value × Nat) → List (Value × Value × Nat) → Bool
  | [], [] => true
  | (k, v, n) :: a, (l, w, m) :: b => eqV k l && eqV v w && Nat.beq n m && eqE a b
  | _, _ => false
theorem eqE_eq : ∀ {a b : List (Value × Value × Nat)}, eqE a b = true → a = b
  | [], [], _ => rfl
  | (k, v, n) :: a, (l, w, m) :: b, h => by
    simp only [eqE, Bool.and_eq_true] at h
    rw [eqV_eq _ _ h.1.1.1, eqV_eq _ _ h.1.1.2, Nat.eq_of_beq_eq_true h.1.2, eqE_eq h.2]
  | [], _ :: _, h => by cases h
  | _ :: _, [], h => by cases h

def eqN : List Nat → List Nat → Bool
  | [], [] => true
  | a :: x, b :: y => Nat.beq a b && eqN x y
  | _, _ => false
theorem eqN_eq : ∀ {a b : List Nat}, eqN a b = true → a = b
  | [], [], _ => rfl
  | a :: x, b :: y, h => by
    simp only [eqN, Bool.and_eq_true] at h
    rw [Nat.eq_of_beq_eq_true h.1, eqN_eq h.2]
  | [], _ :: _, h => by cases h
  | _ :: _, [], h => by cases h
def eqON : Option Nat → Option Nat → Bool
  | none, none => true
  | some a, some b => Nat.beq a b
  | _, _ => false
theorem eqON_eq : ∀ {a b : Option Nat}, eqON a b = true → a = b
  | none, none, _ => rfl
  | some _, some _, h => by rw [Nat.eq_of_beq_eq_true h]
  | none, some _, h => by cases h
  | some _, none, h => by cases h

def eqB : Blk → Blk → Bool
  | .cells a e k, .cells b f l => eqL a b && Nat.beq e f && eqK k l
  | .map a c, .map b d => eqE a b && Nat.beq c d
  | .iter s i, .iter t j => bytesEq (bl s) (bl t) && Nat.beq i j
  | .miter m i s k, .miter n j t l => eqON m n && Nat.beq i j && eqN s t && Nat.beq k l
  | .dead, .dead => true
  | _, _ => false
theorem eqB_eq {a b : Blk} (h : eqB a b = true) : a = b := by
  cases a <;> cases b <;> simp only [eqB, Bool.and_eq_true] at h <;> first | (cases h; done) | skip
  · rw [eqL_eq _ _ h.1.1, Nat.eq_of_beq_eq_true h.1.2, eqK_eq h.2]
  · rw [eqE_eq h.1, Nat.eq_of_beq_eq_true h.2]
  · rw [bl_inj (bytesEq_sound h.1), Nat.eq_of_beq_eq_true h.2]
  · rw [eqON_eq h.1.1.1, Nat.eq_of_beq_eq_true h.1.1.2, eqN_eq h.1.2, Nat.eq_of_beq_eq_true h.2]
  · rfl

end
end Go.Ideal
