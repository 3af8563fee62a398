/- sum.Sum as one step: the sum of bytes, each in eight rounds. -/
import Derived.Test.YtdkofgkmhgmmmaaGreatDoorFits
namespace Go.Ideal
set_option linter.all false
set_option linter.unusedSimpArgs false
set_option linter.unusedVariables false
noncomputable section
open Go Go.RowKit
set_option maxHeartbeats 1000000

/-- Works a number out before it goes on. -/
def forceN {α : Type} (n : Nat) (f : Nat → α) : α :=
  match n with
  | 0 => f 0
  | k + 1 => f (k + 1)
theorem forceN_eq {α : Type} (n : Nat) (f : Nat → α) : forceN n f = f n := by cases n <;> rfl

/-- One round. -/
def crcR (r : Nat) : Nat := Nat.xor (Nat.div r 2) (Nat.mul (Nat.land r 1) 2197175160)

def crc1 : Nat → Nat → Nat
  | 0, r => r
  | n + 1, r => forceN (crcR r) (crc1 n)

def crcL : List Nat → Nat → Nat
  | [], r => r
  | c :: l, r => forceN (crc1 8 (Nat.xor r c)) (crcL l)

/-- Bytes of a row. -/
def natL : List Value → Option (List Nat)
  | [] => some []
  | .int .u8 (.ofNat n) :: r => cond (Nat.blt n 256) (match natL r with
    | some l => some (n :: l)
    | none => none) none
  | _ => none

def sumM (args : List Value) : M Value :=
  match args with
  | [.slice a n c] => do
    guardM (Nat.blt n 1099511627776)
    let ys ← firstM n 1 (.slice a n c)
    let l ← liftO (natL ys)
    forceN (Nat.xor (crcL l 4294967295) 4294967295) fun r => pure (.int .u32 (Int.ofNat r))
  | _ => fail

theorem resp_sumM (l : List Value) : Resp (sumM l) := by
  unfold sumM
  split
  · refine Resp.bind (Resp.guardM _) fun _ => Resp.bind (resp_firstM _ _ _) fun _ => Resp.bind (Resp.liftO _) fun _ => ?_
    rw [forceN_eq]; exact Resp.pure _
  · exact Resp.fail

/-- What the walk through 'Sum' tells. -/
def SumAt (P : Program) (f : FuncId) : Prop :=
  (∀ (w : World) (b off len cap : Nat) (l : List Nat), l.length = len → len < 1099511627776 → (∀ x ∈ l, x < 256) →
    (∀ (j x : Nat), l[j]? = some x → w.cell? ⟨b, off + j, none⟩ = some (.int .u8 (x : Int))) →
    Calls P f #[.slice (some ⟨b, off, none⟩) len cap] w fun e w' => e = .returned (.int .u32 ((Nat.xor (crcL l 4294967295) 4294967295 : Nat) : Int)) ∧ Like w' w) ∧
  (∀ (w : World) (a : Option Addr) (cap : Nat),
    Calls P f #[.slice a 0 cap] w fun e w' => e = .returned (.int .u32 ((Nat.xor (crcL [] 4294967295) 4294967295 : Nat) : Int)) ∧ Like w' w)

theorem natL_get : ∀ {ys : List Value} {l : List Nat}, natL ys = some l → l.length = ys.length ∧ (∀ x ∈ l, x < 256) ∧ ∀ (j x : Nat), l[j]? = some x → ys[j]? = some (Value.int .u8 (x : Int))
  | [], l, h => by
    simp only [natL] at h; cases h
    refine ⟨rfl, ?_, ?_⟩
    · intro x hx; cases hx
    · intro j x hj; simp at hj
  | y :: r, l, h => by
    unfold natL at h
    split at h
    · rename_i heq; cases heq
    · rename_i n r' heq
      cases heq
      cases hb : Nat.blt n 256 with
      | false => rw [hb] at h; cases h
      | true =>
        rw [hb] at h
        cases hr : natL r with
        | none => rw [hr] at h; cases h
        | some l' =>
          rw [hr] at h; cases h
          obtain ⟨h1, h2, h3⟩ := natL_get hr
          refine ⟨by simp [h1], fun x hx => ?_, fun j x hj => ?_⟩
          · rcases List.mem_cons.1 hx with rfl | hx
            · exact blt_iff.1 hb
            · exact h2 x hx
          · cases j with
            | zero => simp at hj; subst hj; rfl
            | succ j => simpa using h3 j x (by simpa using hj)
    · cases h

section
variable {P : Program} {N0 : Nat → Prop} {E : Env}

theorem sum_ok {f : FuncId} (hen : Enters P f) (hS : SumAt P f) : FunOK P N0 E f sumM := by
  intro l s v s' β w l' h hI hf hg hl
  refine ⟨hen, ?_⟩
  unfold sumM at h
  split at h
  · rename_i a n c
    obtain ⟨hn, hx⟩ := guard_bind h; clear h; have h := hx; clear hx
    have hn := blt_iff.1 hn
    obtain ⟨ys, s2, h2, h9⟩ := bind_some.1 h
    obtain ⟨bs, s3, h3, h10⟩ := bind_some.1 h9
    obtain ⟨hbs, e3⟩ := liftO_some.1 h3
    rw [forceN_eq] at h10
    obtain ⟨hv, e4⟩ := pure_some.1 h10
    have hs' : s' = s2 := by rw [e4, e3]
    obtain ⟨l'⟩ := l'
    cases hl with
    | cons hx hr =>
    cases hr
    obtain ⟨g1, g2, g3⟩ := natL_get hbs
    have out : ∀ {w' : World}, s2.h = s.h → Like w' w → Out N0 β s w s' β w' := fun {w'} hh hw =>
      ⟨Ext.refl _ _ _, by rw [hs', hh]; exact hI.world hw.heap, hw.os, hw.tape, hw.output, by rw [hw.heap]; exact Nat.le_refl _, fun k hk => by rw [hw.heap]⟩
    have nil : ∀ {a' : Option Addr} {cap' : Nat}, ys = [] → s2.h = s.h → Calls P f #[.slice a' 0 cap'] w fun e w' => ∃ v', e = .returned v' ∧ ∃ β', V β' v v' ∧ Out N0 β s w s' β' w' := by
      intro a' cap' hy hh
      have : bs = [] := by
        subst hy
        cases hb : bs with
        | nil => rfl
        | cons _ _ => rw [hb] at g1; simp at g1
      refine (hS.2 w a' cap').mono ?_
      rintro e w' ⟨rfl, hw⟩
      exact ⟨_, rfl, β, by rw [hv, this]; exact .int _ _, out hh hw⟩
    cases hx with
    | nilsl =>
      simp only [firstM] at h2
      obtain ⟨e1, e2⟩ := pure_some.1 h2
      exact nil e1 (by rw [e2])
    | slz A A' e1 e2 =>
      simp only [firstM, Nat.zero_mul] at h2
      obtain ⟨e1, e2⟩ := pure_some.1 h2
      exact nil e1 (by rw [e2])
    | sl0 A A' =>
      simp only [firstM, Nat.zero_mul] at h2
      obtain ⟨e1, e2⟩ := pure_some.1 h2
      exact nil e1 (by rw [e2])
    | sl hL hcap =>
      rename_i b off cap' L
      simp only [firstM] at h2
      cases hz : Nat.beq (n * 1) 0 with
      | true =>
        rw [hz] at h2
        obtain ⟨e1, e2⟩ := pure_some.1 h2
        have : n = 0 := by have := Nat.eq_of_beq_eq_true hz; omega
        subst this
        exact nil e1 (by rw [e2])
      | false =>
        rw [hz] at h2
        have hle : Nat.ble n n = true := ble_iff.2 (Nat.le_refl _)
        rw [hle] at h2
        simp only [cond_true, cond_false] at h2
        obtain ⟨o, hlt, hgb, h5⟩ := rd_bind h2
        cases o with
        | cells xs e k =>
          obtain ⟨hlen, h7⟩ := guard_bind h5
          obtain ⟨hys, e2⟩ := pure_some.1 h7
          have hlen := Nat.eq_of_beq_eq_true hlen
          obtain ⟨cc, fz, q1, q2, q3, q4, q5⟩ := hI.cells hgb hL
          refine (hS.1 w L.r (L.sh + off) n cap' bs (by rw [g1, hys, hlen, Nat.mul_one]) hn g2 fun j x hj => ?_).mono ?_
          · have := g3 j x hj
            rw [hys, List.getElem?_take] at this
            split at this
            · rw [List.getElem?_drop] at this
              obtain ⟨u, u1, u2⟩ := q4 _ _ this
              cases u2
              rw [cell_at q1, Nat.add_assoc]; exact u1
            · cases this
          · rintro e w' ⟨rfl, hw⟩
            exact ⟨_, rfl, β, by rw [hv]; exact .int _ _, out (by rw [e2]) hw⟩
        | _ => exact (fail_some.1 h5).elim
  · exact (fail_some.1 h).elim

end

/-! the rounds, as the walk shows them -/
theorem xor_lt {a b : Nat} (ha : a < 4294967296) (hb : b < 4294967296) : a ^^^ b < 4294967296 := Nat.xor_lt_two_pow (n := 32) ha hb

theorem wrap32 {n : Nat} (h : n < 4294967296) : IntKind.u32.wrap (n : Int) = (n : Int) := by
  simp [IntKind.wrap, IntKind.bits, IntKind.signed]
  omega

theorem bits_xor32 (a b : Nat) (ha : a < 4294967296) (hb : b < 4294967296) : Go.bits .xor .u32 (a : Int) (b : Int) = ((a ^^^ b : Nat) : Int) := by
  have h1 : a % 4294967296 = a := Nat.mod_eq_of_lt ha
  have h2 : b % 4294967296 = b := Nat.mod_eq_of_lt hb
  show IntKind.u32.wrap ((BitVec.ofInt 32 (a : Int) ^^^ BitVec.ofInt 32 (b : Int)).toNat : Int) = _
  rw [BitVec.toNat_xor, BitVec.ofInt_natCast, BitVec.ofInt_natCast, BitVec.toNat_ofNat, BitVec.toNat_ofNat, h1, h2]
  exact wrap32 (xor_lt ha hb)

theorem bits_and32 (a b : Nat) (ha : a < 4294967296) (hb : b < 4294967296) : Go.bits .and .u32 (a : Int) (b : Int) = ((a &&& b : Nat) : Int) := by
  have h1 : a % 4294967296 = a := Nat.mod_eq_of_lt ha
  have h2 : b % 4294967296 = b := Nat.mod_eq_of_lt hb
  show IntKind.u32.wrap ((BitVec.ofInt 32 (a : Int) &&& BitVec.ofInt 32 (b : Int)).toNat : Int) = _
  rw [BitVec.toNat_and, BitVec.ofInt_natCast, BitVec.ofInt_natCast, BitVec.toNat_ofNat, BitVec.toNat_ofNat, h1, h2]
  exact wrap32 (Nat.lt_of_le_of_lt Nat.and_le_left ha)

theorem crcR_lt {r : Nat} (h : r < 4294967296) : crcR r < 4294967296 := by
  refine xor_lt (a := r / 2) (b := (r &&& 1) * 2197175160) (by omega) ?_
  have : r &&& 1 ≤ 1 := Nat.and_le_right
  omega

theorem crc1_succ (n r : Nat) : crc1 (n + 1) r = crc1 n (crcR r) := by
  show forceN (crcR r) (crc1 n) = _
  rw [forceN_eq]

theorem crc1_last : ∀ (n r : Nat), crc1 (n + 1) r = crcR (crc1 n r)
  | 0, r => by rw [crc1_succ]; rfl
  | n + 1, r => by rw [crc1_succ, crc1_last n (crcR r), ← crc1_succ]

theorem crc1_lt : ∀ {n r : Nat}, r < 4294967296 → crc1 n r < 4294967296
  | 0, _, h => h
  | n + 1, r, h => by rw [crc1_last]; exact crcR_lt (crc1_lt h)

theorem crcL_cons (c : Nat) (l : List Nat) (r : Nat) : crcL (c :: l) r = crcL l (crc1 8 (r ^^^ c)) := by
  show forceN (crc1 8 (Nat.xor r c)) (crcL l) = _
  rw [forceN_eq]; rfl

theorem crcL_snoc : ∀ (l : List Nat) (c r : Nat), crcL (l ++ [c]) r = crc1 8 (crcL l r ^^^ c)
  | [], c, r => by
    show crcL [c] r = _
    rw [crcL_cons]; rfl
  | x :: l, c, r => by rw [List.cons_append, crcL_cons, crcL_snoc l, ← crcL_cons]

theorem crcL_lt : ∀ {l : List Nat} {r : Nat}, r < 4294967296 → (∀ x ∈ l, x < 256) → crcL l r < 4294967296
  | [], _, h, _ => h
  | x :: l, r, h, hl => by
    rw [crcL_cons]
    refine crcL_lt (crc1_lt (xor_lt h ?_)) fun y hy => hl y (List.mem_cons_of_mem _ hy)
    have := hl x List.mem_cons_self
    omega

end
end Go.Ideal
