/- Finite maps from numbers, as binary trees that the kernel reads fast; and small facts on bit masks. -/
import Derived.Orders
import Derived.Below
namespace Go.Ideal

/-- A map from numbers: by their bits, the lowest first. -/
inductive Tr (α : Type) where
  | nil
  | bin (l r : Tr α)
  | tip (l : List (Nat × α))

section
variable {α : Type}

def lk : List (Nat × α) → Nat → Option α
  | [], _ => none
  | (k, v) :: r, n => cond (Nat.beq k n) (some v) (lk r n)

def ins : List (Nat × α) → Nat → α → List (Nat × α)
  | [], n, v => [(n, v)]
  | (k, u) :: r, n, v => cond (Nat.beq k n) ((n, v) :: r) ((k, u) :: ins r n v)

def Tr.get : Tr α → Nat → Option α
  | .nil, _ => none
  | .bin l r, n => cond (Nat.beq (n % 2) 0) (l.get (n / 2)) (r.get (n / 2))
  | .tip l, n => lk l n

def Tr.path : Nat → Nat → α → Tr α
  | 0, n, v => .tip [(n, v)]
  | d + 1, n, v => cond (Nat.beq (n % 2) 0) (.bin (Tr.path d (n / 2) v) .nil) (.bin .nil (Tr.path d (n / 2) v))

def Tr.set : Tr α → Nat → Nat → α → Tr α
  | .nil, d, n, v => .path d n v
  | .bin l r, d, n, v => cond (Nat.beq (n % 2) 0) (.bin (l.set (d - 1) (n / 2) v) r) (.bin l (r.set (d - 1) (n / 2) v))
  | .tip l, _, n, v => .tip (ins l n v)

theorem beq_ff {n m : Nat} (h : ¬ n = m) : Nat.beq n m = false := by
  cases e : Nat.beq n m with
  | false => rfl
  | true => exact absurd (Nat.eq_of_beq_eq_true e) h

theorem lk_ins (l : List (Nat × α)) (n m : Nat) (v : α) : lk (ins l n v) m = if n = m then some v else lk l m := by
  induction l with
  | nil =>
    simp only [ins, lk]
    by_cases h : n = m
    · subst h; simp
    · rw [if_neg h]; have := beq_ff h
      rw [this]; rfl
  | cons p r ih =>
    obtain ⟨k, u⟩ := p
    simp only [ins, lk]
    by_cases h1 : k = n
    · subst h1
      simp only [Nat.beq_refl, cond_true, lk]
      by_cases h : k = m
      · subst h; simp
      · have := beq_ff h
        rw [this, if_neg h]; rfl
    · have h2 := beq_ff h1
      rw [h2]; simp only [cond_false, lk, ih]
      by_cases h : k = m
      · subst h; simp only [Nat.beq_refl, cond_true]; rw [if_neg (fun e => h1 e.symm)]
      · have := beq_ff h
        rw [this]; rfl

theorem half_eq {n m : Nat} (h1 : n % 2 = m % 2) (h2 : n / 2 = m / 2) : n = m := by omega

theorem Tr.get_path (d n m : Nat) (v : α) : (Tr.path d n v).get m = if n = m then some v else none := by
  induction d generalizing n m with
  | zero =>
    simp only [Tr.path, Tr.get, lk]
    by_cases h : n = m
    · subst h; simp
    · have := beq_ff h
      rw [this, if_neg h]; rfl
  | succ d ih =>
    simp only [Tr.path]
    by_cases hn : n % 2 = 0
    · have e : Nat.beq (n % 2) 0 = true := by simp [hn]
      rw [e]; simp only [cond_true, Tr.get]
      by_cases hm : m % 2 = 0
      · have e' : Nat.beq (m % 2) 0 = true := by simp [hm]
        rw [e']; simp only [cond_true, ih]
        by_cases h : n = m
        · subst h; simp
        · rw [if_neg h, if_neg (fun e => h (half_eq (hn.trans hm.symm) e))]
      · have e' := beq_ff hm
        rw [e']; simp only [cond_false]
        rw [if_neg (fun (e : n = m) => hm (e ▸ hn))]
    · have e := beq_ff hn
      rw [e]; simp only [cond_false, Tr.get]
      by_cases hm : m % 2 = 0
      · have e' : Nat.beq (m % 2) 0 = true := by simp [hm]
        rw [e']; simp only [cond_true]
        rw [if_neg (fun (e : n = m) => hn (e ▸ hm))]
      · have e' := beq_ff hm
        rw [e']; simp only [cond_false, ih]
        by_cases h : n = m
        · subst h; simp
        · rw [if_neg h, if_neg (fun e => h (half_eq (by omega) e))]

theorem Tr.get_set (t : Tr α) (d n m : Nat) (v : α) : (t.set d n v).get m = if n = m then some v else t.get m := by
  induction t generalizing d n m with
  | nil => simp only [Tr.set, Tr.get_path, Tr.get]
  | tip l => simp only [Tr.set, Tr.get, lk_ins]
  | bin l r ihl ihr =>
    simp only [Tr.set]
    by_cases hn : n % 2 = 0
    · have e : Nat.beq (n % 2) 0 = true := by simp [hn]
      rw [e]; simp only [cond_true, Tr.get]
      by_cases hm : m % 2 = 0
      · have e' : Nat.beq (m % 2) 0 = true := by simp [hm]
        rw [e']; simp only [cond_true, ihl]
        by_cases h : n = m
        · subst h; simp
        · rw [if_neg h, if_neg (fun e => h (half_eq (hn.trans hm.symm) e))]
      · have e' := beq_ff hm
        rw [e']; simp only [cond_false]
        rw [if_neg (fun (e : n = m) => hm (e ▸ hn))]
    · have e := beq_ff hn
      rw [e]; simp only [cond_false, Tr.get]
      by_cases hm : m % 2 = 0
      · have e' : Nat.beq (m % 2) 0 = true := by simp [hm]
        rw [e']; simp only [cond_true]
        rw [if_neg (fun (e : n = m) => hn (e ▸ hm))]
      · have e' := beq_ff hm
        rw [e']; simp only [cond_false, ihr]
        by_cases h : n = m
        · subst h; simp
        · rw [if_neg h, if_neg (fun e => h (half_eq (by omega) e))]

theorem Tr.get_nil (m : Nat) : (Tr.nil : Tr α).get m = none := rfl

end

/-! masks -/
def bit (n : Nat) : Nat := 1 <<< n

theorem testBit_bit (n m : Nat) : (bit n).testBit m = decide (n = m) := by
  unfold bit
  rw [Nat.shiftLeft_eq, Nat.one_mul, Nat.testBit_two_pow]

theorem testBit_or (a b m : Nat) : (a ||| b).testBit m = (a.testBit m || b.testBit m) := Nat.testBit_or ..
theorem testBit_and (a b m : Nat) : (a &&& b).testBit m = (a.testBit m && b.testBit m) := Nat.testBit_and ..
theorem testBit_zero (m : Nat) : (0 : Nat).testBit m = false := Nat.zero_testBit m
theorem land_zero {a b : Nat} (h : (a &&& b) = 0) (m : Nat) (ha : a.testBit m = true) : b.testBit m = false := by
  have := congrArg (·.testBit m) h
  simp only [testBit_and, testBit_zero, ha, Bool.true_and] at this
  exact this
theorem lor_zero {a b : Nat} (h : (a ||| b) = 0) : a = 0 ∧ b = 0 := by
  constructor <;>
  · apply Nat.eq_of_testBit_eq
    intro m
    have := congrArg (·.testBit m) h
    simp only [testBit_or, testBit_zero, Bool.or_eq_false_iff] at this
    simp [this.1, this.2]

end Go.Ideal
