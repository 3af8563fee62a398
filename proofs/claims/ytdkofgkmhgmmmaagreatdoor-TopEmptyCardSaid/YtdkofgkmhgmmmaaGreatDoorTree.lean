/- Finite maps from numbers, as binary trees that the kernel reads fast; and small facts on bit masks. -/
import Derived.Orders
import Derived.Below
namespace Go.Ideal
set_option linter.all false
set_option linter.unusedSimpArgs false
set_option linter.unusedVariables false
noncomputable section

/-- A map from numbers: by their bits, the lowest first. -/
inductive Tr (α : Type) where
  | nil
  | bin (l r : Tr α)
  | tip (l : List (Nat × α))

section
variable {α : Type}

def lk (l : List (Nat × α)) : Nat → Option α :=
  @List.rec (Nat × α) (fun _ => Nat → Option α) (fun _ => none) (fun p _ ih n => @Bool.rec (fun _ => Option α) (ih n) (some p.2) (Nat.beq p.1 n)) l

def ins (l : List (Nat × α)) : Nat → α → List (Nat × α) :=
  @List.rec (Nat × α) (fun _ => Nat → α → List (Nat × α)) (fun n v => [(n, v)]) (fun p r ih n v => @Bool.rec (fun _ => List (Nat × α)) (p :: ih n v) ((n, v) :: r) (Nat.beq p.1 n)) l

def Tr.get (t : Tr α) : Nat → Option α :=
  @Tr.rec α (fun _ => Nat → Option α) (fun _ => none) (fun _ _ gl gr n => @Bool.rec (fun _ => Option α) (gr (Nat.div n 2)) (gl (Nat.div n 2)) (Nat.beq (Nat.mod n 2) 0)) (fun l n => lk l n) t

def Tr.path (d : Nat) : Nat → α → Tr α :=
  @Nat.rec (fun _ => Nat → α → Tr α) (fun n v => .tip [(n, v)]) (fun _ ih n v => @Bool.rec (fun _ => Tr α) (.bin .nil (ih (Nat.div n 2) v)) (.bin (ih (Nat.div n 2) v) .nil) (Nat.beq (Nat.mod n 2) 0)) d

def Tr.set (t : Tr α) : Nat → Nat → α → Tr α :=
  @Tr.rec α (fun _ => Nat → Nat → α → Tr α) (fun d n v => Tr.path d n v)
    (fun l r sl sr d n v => @Bool.rec (fun _ => Tr α) (.bin l (sr (Nat.pred d) (Nat.div n 2) v)) (.bin (sl (Nat.pred d) (Nat.div n 2) v) r) (Nat.beq (Nat.mod n 2) 0))
    (fun l _ n v => .tip (ins l n v)) t

theorem lk_nil (n : Nat) : lk ([] : List (Nat × α)) n = none := rfl
theorem lk_cons (k : Nat) (v : α) (r : List (Nat × α)) (n : Nat) : lk ((k, v) :: r) n = cond (Nat.beq k n) (some v) (lk r n) := by
  show @Bool.rec (fun _ => Option α) (lk r n) (some v) (Nat.beq k n) = _
  cases Nat.beq k n <;> rfl
theorem ins_nil (n : Nat) (v : α) : ins ([] : List (Nat × α)) n v = [(n, v)] := rfl
theorem ins_cons (k : Nat) (u : α) (r : List (Nat × α)) (n : Nat) (v : α) : ins ((k, u) :: r) n v = cond (Nat.beq k n) ((n, v) :: r) ((k, u) :: ins r n v) := by
  show @Bool.rec (fun _ => List (Nat × α)) ((k, u) :: ins r n v) ((n, v) :: r) (Nat.beq k n) = _
  cases Nat.beq k n <;> rfl
theorem Tr.get_nil (n : Nat) : (Tr.nil : Tr α).get n = none := rfl
theorem Tr.get_tip (l : List (Nat × α)) (n : Nat) : (Tr.tip l).get n = lk l n := rfl
theorem Tr.get_bin (l r : Tr α) (n : Nat) : (Tr.bin l r).get n = cond (Nat.beq (n % 2) 0) (l.get (n / 2)) (r.get (n / 2)) := by
  show @Bool.rec (fun _ => Option α) (r.get (n / 2)) (l.get (n / 2)) (Nat.beq (n % 2) 0) = _
  cases Nat.beq (n % 2) 0 <;> rfl
theorem Tr.path_zero (n : Nat) (v : α) : Tr.path 0 n v = .tip [(n, v)] := rfl
theorem Tr.path_succ (d n : Nat) (v : α) : Tr.path (d + 1) n v = cond (Nat.beq (n % 2) 0) (.bin (Tr.path d (n / 2) v) .nil) (.bin .nil (Tr.path d (n / 2) v)) := by
  show @Bool.rec (fun _ => Tr α) (.bin .nil (Tr.path d (n / 2) v)) (.bin (Tr.path d (n / 2) v) .nil) (Nat.beq (n % 2) 0) = _
  cases Nat.beq (n % 2) 0 <;> rfl
theorem Tr.set_nil (d n : Nat) (v : α) : (Tr.nil : Tr α).set d n v = .path d n v := rfl
theorem Tr.set_tip (l : List (Nat × α)) (d n : Nat) (v : α) : (Tr.tip l).set d n v = .tip (ins l n v) := rfl
theorem Tr.set_bin (l r : Tr α) (d n : Nat) (v : α) : (Tr.bin l r).set d n v = cond (Nat.beq (n % 2) 0) (.bin (l.set (d - 1) (n / 2) v) r) (.bin l (r.set (d - 1) (n / 2) v)) := by
  show @Bool.rec (fun _ => Tr α) (.bin l (r.set (Nat.pred d) (n / 2) v)) (.bin (l.set (Nat.pred d) (n / 2) v) r) (Nat.beq (n % 2) 0) = _
  cases Nat.beq (n % 2) 0 <;> rfl

theorem beq_ff {n m : Nat} (h : ¬ n = m) : Nat.beq n m = false := by
  cases e : Nat.beq n m with
  | false => rfl
  | true => exact absurd (Nat.eq_of_beq_eq_true e) h

theorem lk_ins (l : List (Nat × α)) (n m : Nat) (v : α) : lk (ins l n v) m = if n = m then some v else lk l m := by
  induction l with
  | nil =>
    simp only [ins_nil, ins_cons, lk_nil, lk_cons]
    by_cases h : n = m
    · subst h; simp
    · rw [if_neg h]; have := beq_ff h
      rw [this]; rfl
  | cons p r ih =>
    obtain ⟨k, u⟩ := p
    simp only [ins_nil, ins_cons, lk_nil, lk_cons]
    by_cases h1 : k = n
    · subst h1
      simp only [Nat.beq_refl, cond_true, lk_nil, lk_cons]
      by_cases h : k = m
      · subst h; simp
      · have := beq_ff h
        rw [this, if_neg h]; rfl
    · have h2 := beq_ff h1
      rw [h2]; simp only [cond_false, lk_nil, lk_cons, ih]
      by_cases h : k = m
      · subst h; simp only [Nat.beq_refl, cond_true]; rw [if_neg (fun e => h1 e.symm)]
      · have := beq_ff h
        rw [this]; rfl

theorem half_eq {n m : Nat} (h1 : n % 2 = m % 2) (h2 : n / 2 = m / 2) : n = m := by omega

theorem Tr.get_path (d n m : Nat) (v : α) : (Tr.path d n v).get m = if n = m then some v else none := by
  induction d generalizing n m with
  | zero =>
    simp only [Tr.path_zero, Tr.path_succ, Tr.get_nil, Tr.get_bin, Tr.get_tip, lk_nil, lk_cons]
    by_cases h : n = m
    · subst h; simp
    · have := beq_ff h
      rw [this, if_neg h]; rfl
  | succ d ih =>
    simp only [Tr.path_zero, Tr.path_succ]
    by_cases hn : n % 2 = 0
    · have e : Nat.beq (n % 2) 0 = true := by simp [hn]
      rw [e]; simp only [cond_true, Tr.get_nil, Tr.get_bin, Tr.get_tip]
      by_cases hm : m % 2 = 0
      · have e' : Nat.beq (m % 2) 0 = true := by simp [hm]
        rw [e']; simp only [cond_true, ih]
        by_cases h : n = m
        · subst h; simp
        · rw [if_neg h, if_neg (fun e => h (half_eq (hn.trans hm.symm) e))]
      · have e' := beq_ff hm
        rw [e']; simp only [cond_false]
        rw [if_neg (fun (e : n = m) => hm (e ▸ hn))]
    · have e := beq_ff hn
      rw [e]; simp only [cond_false, Tr.get_nil, Tr.get_bin, Tr.get_tip]
      by_cases hm : m % 2 = 0
      · have e' : Nat.beq (m % 2) 0 = true := by simp [hm]
        rw [e']; simp only [cond_true]
        rw [if_neg (fun (e : n = m) => hn (e ▸ hm))]
      · have e' := beq_ff hm
        rw [e']; simp only [cond_false, ih]
        by_cases h : n = m
        · subst h; simp
        · rw [if_neg h, if_neg (fun e => h (half_eq (by omega) e))]

theorem Tr.get_set (t : Tr α) (d n m : Nat) (v : α) : (t.set d n v).get m = if n = m then some v else t.get m := by
  induction t generalizing d n m with
  | nil => simp only [Tr.set_nil, Tr.set_bin, Tr.set_tip, Tr.get_path, Tr.get_nil, Tr.get_bin, Tr.get_tip]
  | tip l => simp only [Tr.set_nil, Tr.set_bin, Tr.set_tip, Tr.get_nil, Tr.get_bin, Tr.get_tip, lk_ins]
  | bin l r ihl ihr =>
    simp only [Tr.set_nil, Tr.set_bin, Tr.set_tip]
    by_cases hn : n % 2 = 0
    · have e : Nat.beq (n % 2) 0 = true := by simp [hn]
      rw [e]; simp only [cond_true, Tr.get_nil, Tr.get_bin, Tr.get_tip]
      by_cases hm : m % 2 = 0
      · have e' : Nat.beq (m % 2) 0 = true := by simp [hm]
        rw [e']; simp only [cond_true, ihl]
        by_cases h : n = m
        · subst h; simp
        · rw [if_neg h, if_neg (fun e => h (half_eq (hn.trans hm.symm) e))]
      · have e' := beq_ff hm
        rw [e']; simp only [cond_false]
        rw [if_neg (fun (e : n = m) => hm (e ▸ hn))]
    · have e := beq_ff hn
      rw [e]; simp only [cond_false, Tr.get_nil, Tr.get_bin, Tr.get_tip]
      by_cases hm : m % 2 = 0
      · have e' : Nat.beq (m % 2) 0 = true := by simp [hm]
        rw [e']; simp only [cond_true]
        rw [if_neg (fun (e : n = m) => hn (e ▸ hm))]
      · have e' := beq_ff hm
        rw [e']; simp only [cond_false, ihr]
        by_cases h : n = m
        · subst h; simp
        · rw [if_neg h, if_neg (fun e => h (half_eq (by omega) e))]


end

/-! masks -/
def bit (n : Nat) : Nat := 1 <<< n

theorem testBit_bit (n m : Nat) : (bit n).testBit m = decide (n = m) := by
  unfold bit
  rw [Nat.shiftLeft_eq, Nat.one_mul, Nat.testBit_two_pow]

theorem testBit_or (a b m : Nat) : (a ||| b).testBit m = (a.testBit m || b.testBit m) := Nat.testBit_or ..
theorem testBit_and (a b m : Nat) : (a &&& b).testBit m = (a.testBit m && b.testBit m) := Nat.testBit_and ..
theorem testBit_zero (m : Nat) : (0 : Nat).testBit m = false := Nat.zero_testBit m
theorem land_zero {a b : Nat} (h : (a &&& b) = 0) (m : Nat) (ha : a.testBit m = true) : b.testBit m = false := by
  have := congrArg (·.testBit m) h
  simp only [testBit_and, testBit_zero, ha, Bool.true_and] at this
  exact this
theorem lor_zero {a b : Nat} (h : (a ||| b) = 0) : a = 0 ∧ b = 0 := by
  constructor <;>
  · apply Nat.eq_of_testBit_eq
    intro m
    have := congrArg (·.testBit m) h
    simp only [testBit_or, testBit_zero, Bool.or_eq_false_iff] at this
    simp [this.1, this.2]

end
end Go.Ideal
