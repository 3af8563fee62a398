/- A call that was run once, kept: the same call at the same blocks comes to the same. -/
import Derived.Test.YtdkofgkmhgmmmaaGreatDoorClosed
import Derived.Test.YtdkofgkmhgmmmaaGreatDoorEq
namespace Go.Ideal
set_option linter.all false
set_option linter.unusedSimpArgs false
set_option linter.unusedVariables false
noncomputable section
open Go Go.RowKit
set_option maxHeartbeats 1000000

structure Memo where
  f : FuncId
  args : List Value
  nx : Nat
  pre : List (Nat × Blk)
  v : Value
  nx' : Nat
  post : List (Nat × Blk)

def setAll : Tr Blk → List (Nat × Blk) → Tr Blk
  | h, [] => h
  | h, (b, o) :: r => setAll (h.set depth b o) r

def keysMask : List (Nat × Blk) → Nat
  | [] => 0
  | (b, _) :: r => bit b ||| keysMask r

def heldAll (h : Tr Blk) : List (Nat × Blk) → Bool
  | [] => true
  | (b, o) :: r => (match h.get b with
    | some o' => eqB o' o
    | none => false) && heldAll h r

def belowAll (n : Nat) : List (Nat × Blk) → Bool
  | [] => true
  | (b, _) :: r => Nat.blt b n && belowAll n r

def inMask (w : Nat) : List (Nat × Blk) → Bool
  | [] => true
  | (b, _) :: r => Nat.testBit w b && inMask w r

def memoM (m : Memo) (l : List Value) : M Value := fun s =>
  cond (Nat.beq s.nx m.nx && eqL l m.args && heldAll s.h m.pre)
    (some (m.v, ⟨setAll s.h m.post, m.nx', s.r ||| keysMask m.pre, s.w ||| keysMask m.post⟩)) none

/-- The run that a memo keeps. -/
def memoRun (E : Env) (d : Nat) (m : Memo) : Bool :=
  match callM E d m.f m.args ⟨setAll .nil m.pre, m.nx, 0, 0⟩ with
  | some (v, s) => eqV v m.v && Nat.beq s.nx m.nx' && heldAll s.h m.post && inMask s.w m.post && Nat.beq (s.w ||| keysMask m.post) (keysMask m.post) &&
      Nat.beq (Nat.land (s.r ||| s.w) (2 ^ m.nx - 1) ||| keysMask m.pre) (keysMask m.pre) && belowAll m.nx m.pre && heldAll (setAll .nil m.pre) m.pre
  | none => false

section
variable {P : Program} {E : Env} {N0 : Nat → Prop}

theorem heldAll_mem {h : Tr Blk} : ∀ {l : List (Nat × Blk)}, heldAll h l = true → ∀ b o, (b, o) ∈ l → h.get b = some o
  | [], _, _, _, hm => by cases hm
  | (b', o') :: r, hh, b, o, hm => by
    simp only [heldAll, Bool.and_eq_true] at hh
    cases hm with
    | head =>
      cases hg : h.get b' with
      | none => rw [hg] at hh; cases hh.1
      | some x => rw [hg] at hh; rw [eqB_eq hh.1]
    | tail _ hm => exact heldAll_mem hh.2 b o hm

theorem keysMask_bit {l : List (Nat × Blk)} {b : Nat} : (keysMask l).testBit b = true ↔ ∃ o, (b, o) ∈ l := by
  induction l with
  | nil => simp [keysMask]
  | cons p r ih =>
    obtain ⟨b', o'⟩ := p
    simp only [keysMask, testBit_or, Bool.or_eq_true, testBit_bit, decide_eq_true_eq, ih, List.mem_cons, Prod.mk.injEq]
    constructor
    · rintro (rfl | ⟨o, h⟩)
      · exact ⟨o', .inl ⟨rfl, rfl⟩⟩
      · exact ⟨o, .inr h⟩
    · rintro ⟨o, ⟨rfl, _⟩ | h⟩
      · exact .inl rfl
      · exact .inr ⟨o, h⟩

theorem belowAll_mem {n : Nat} : ∀ {l : List (Nat × Blk)}, belowAll n l = true → ∀ b o, (b, o) ∈ l → b < n
  | [], _, _, _, hm => by cases hm
  | (b', o') :: r, hh, b, o, hm => by
    simp only [belowAll, Bool.and_eq_true] at hh
    cases hm with
    | head => exact blt_iff.1 hh.1
    | tail _ hm => exact belowAll_mem hh.2 b o hm

theorem inMask_mem {w : Nat} : ∀ {l : List (Nat × Blk)}, inMask w l = true → ∀ b o, (b, o) ∈ l → w.testBit b = true
  | [], _, _, _, hm => by cases hm
  | (b', o') :: r, hh, b, o, hm => by
    simp only [inMask, Bool.and_eq_true] at hh
    cases hm with
    | head => exact hh.1
    | tail _ hm => exact inMask_mem hh.2 b o hm

theorem setAll_out : ∀ {l : List (Nat × Blk)} {h : Tr Blk} {b : Nat}, (∀ o, (b, o) ∉ l) → (setAll h l).get b = h.get b
  | [], _, _, _ => rfl
  | (b', o') :: r, h, b, hn => by
    unfold setAll
    rw [setAll_out (l := r) fun o hm => hn o (List.mem_cons_of_mem _ hm), Tr.get_set]
    rw [if_neg]
    intro e; subst e
    exact hn o' List.mem_cons_self

theorem setAll_in : ∀ {l : List (Nat × Blk)} {h : Tr Blk} {b : Nat} {o : Blk}, (∀ o', (b, o') ∈ l → o' = o) → (∃ o', (b, o') ∈ l) → (setAll h l).get b = some o
  | [], _, _, _, _, hm => by obtain ⟨_, hm⟩ := hm; cases hm
  | (b', o') :: r, h, b, o, hu, hm => by
    unfold setAll
    by_cases hr : ∃ o', (b, o') ∈ r
    · exact setAll_in (l := r) (fun o' h => hu o' (List.mem_cons_of_mem _ h)) hr
    · rw [setAll_out (l := r) fun o hm => hr ⟨o, hm⟩, Tr.get_set]
      obtain ⟨x, hx⟩ := hm
      cases hx with
      | head => rw [if_pos rfl, hu _ List.mem_cons_self]
      | tail _ hx => exact absurd ⟨x, hx⟩ hr

theorem or_sub {a b : Nat} (h : (a ||| b) = b) {i : Nat} (ha : a.testBit i = true) : b.testBit i = true := by
  have : (a ||| b).testBit i = true := by rw [testBit_or, ha]; rfl
  rw [h] at this; exact this

/-- What a memo tells of the call itself, in every state that holds its blocks. -/
theorem memo_call {d : Nat} (hR : ∀ f l, Resp (callM E d f l)) {m : Memo} (hm : memoRun E d m = true) {l : List Value} {s s2 : S} {v : Value} (h : memoM m l s = some (v, s2)) :
    ∃ t, callM E d m.f l s = some (v, t) ∧ t.nx = s2.nx ∧ (∀ b, t.h.get b = s2.h.get b) := by
  unfold memoM at h
  cases hc : Nat.beq s.nx m.nx && eqL l m.args && heldAll s.h m.pre with
  | false => rw [hc] at h; cases h
  | true =>
    rw [hc] at h; cases h
    simp only [Bool.and_eq_true] at hc
    have hnx := Nat.eq_of_beq_eq_true hc.1.1
    have hl := eqL_eq _ _ hc.1.2
    subst hl
    unfold memoRun at hm
    cases hr : callM E d m.f m.args ⟨setAll .nil m.pre, m.nx, 0, 0⟩ with
    | none => rw [hr] at hm; cases hm
    | some q =>
      obtain ⟨v, s1⟩ := q
      rw [hr] at hm
      simp only [Bool.and_eq_true] at hm
      obtain ⟨⟨⟨⟨⟨⟨⟨m1, m2⟩, m3⟩, m4⟩, m5⟩, m6⟩, m7⟩, m8⟩ := hm
      have m1 := eqV_eq _ _ m1
      have m2 := Nat.eq_of_beq_eq_true m2
      have m5 := Nat.eq_of_beq_eq_true m5
      have m6 := Nat.eq_of_beq_eq_true m6
      obtain ⟨dr, dw, R⟩ := hR _ _ _ _ _ hr
      have er : s1.r = dr := by rw [R.r]; simp
      have ew : s1.w = dw := by rw [R.w]; simp
      obtain ⟨t, e1, e2, _, _, e3, e4⟩ := R.again s hnx (fun b hb hbit => by
        have hbit' : (s1.r ||| s1.w).testBit b = true := by rw [er, ew]; exact hbit
        have hb : b < m.nx := hb
        have : (Nat.land (s1.r ||| s1.w) (2 ^ m.nx - 1)).testBit b = true := by
          show ((s1.r ||| s1.w) &&& (2 ^ m.nx - 1)).testBit b = true
          rw [testBit_and, hbit', Nat.testBit_two_pow_sub_one]
          simp [hb]
        obtain ⟨o, ho⟩ := keysMask_bit.1 (or_sub m6 this)
        rw [heldAll_mem hc.2 b o ho]
        exact (heldAll_mem m8 b o ho).symm)
      refine ⟨t, by rw [e1, m1], by rw [e2, m2], fun b => ?_⟩
      cases hw : dw.testBit b with
      | true =>
        rw [e3 b hw]
        have hb : (keysMask m.post).testBit b = true := or_sub m5 (by rw [ew]; exact hw)
        obtain ⟨o, ho⟩ := keysMask_bit.1 hb
        have hg := heldAll_mem m3 b o ho
        rw [hg]
        refine (setAll_in (fun o' h' => ?_) ⟨o, ho⟩).symm
        have := heldAll_mem m3 b o' h'
        rw [hg] at this
        exact (Option.some.inj this).symm
      | false =>
        rw [e4 b hw]
        refine (setAll_out fun o ho => ?_).symm
        have := inMask_mem m4 b o ho
        rw [ew, hw] at this; cases this

theorem memo_ok {d : Nat} (hR : ∀ f l, Resp (callM E d f l)) {E' : Env} (hg : E'.glob = E.glob) (hC : CallOK P N0 E (callM E d)) {m : Memo} (hm : memoRun E d m = true) :
    FunOK P N0 E' m.f (memoM m) := by
  intro l s v s2 β w l' h hI hf hgl hl
  obtain ⟨t, e1, e2, e3⟩ := memo_call hR hm h
  have hgl' : Globs E β := fun g hg' => hgl g (by rw [hg]; exact hg')
  obtain ⟨hen, hcall⟩ := hC m.f l s v t β w l' e1 hI (by rw [e2]; exact hf) hgl' hl
  refine ⟨hen, hcall.mono ?_⟩
  rintro e w' ⟨v', rfl, β', hv, ho⟩
  exact ⟨v', rfl, β', hv, ⟨by rw [← e2]; exact ho.ext, ho.inv.congr fun b => (e3 b).symm, ho.below⟩⟩

theorem setAll_same : ∀ {l : List (Nat × Blk)} {h h' : Tr Blk} {b : Nat}, (h.get b = h'.get b ∨ ∃ o, (b, o) ∈ l) → (setAll h l).get b = (setAll h' l).get b
  | [], h, h', b, e => by
    rcases e with e | ⟨_, e⟩
    · exact e
    · cases e
  | (b', o') :: r, h, h', b, e => by
    unfold setAll
    refine setAll_same (l := r) ?_
    by_cases hb : b' = b
    · refine .inl ?_
      rw [Tr.get_set, Tr.get_set, if_pos hb, if_pos hb]
    · rcases e with e | ⟨o, e⟩
      · refine .inl ?_
        rw [Tr.get_set, Tr.get_set, if_neg hb, if_neg hb, e]
      · cases e with
        | head => exact absurd rfl hb
        | tail _ e => exact .inr ⟨o, e⟩

theorem heldAll_congr {h h' : Tr Blk} : ∀ {l : List (Nat × Blk)}, (∀ b o, (b, o) ∈ l → h'.get b = h.get b) → heldAll h' l = heldAll h l
  | [], _ => rfl
  | (b, o) :: r, e => by
    unfold heldAll
    rw [e b o List.mem_cons_self, heldAll_congr (l := r) fun b o hm => e b o (List.mem_cons_of_mem _ hm)]

/-- The form that a memo must have. -/
def memoShape (m : Memo) : Bool :=
  belowAll m.nx m.pre && Nat.ble m.nx m.nx' && belowAll m.nx' m.post && Nat.beq (Nat.shiftRight (keysMask m.post) m.nx) (2 ^ (m.nx' - m.nx) - 1)

theorem resp_memoM {m : Memo} (hm : memoShape m = true) (l : List Value) : Resp (memoM m l) := by
  unfold memoShape at hm
  simp only [Bool.and_eq_true] at hm
  obtain ⟨⟨⟨m1, m2⟩, m3⟩, m4⟩ := hm
  have m2 := ble_iff.1 m2
  have m4 := Nat.eq_of_beq_eq_true m4
  intro s v s' h
  unfold memoM at h
  cases hc : Nat.beq s.nx m.nx && eqL l m.args && heldAll s.h m.pre with
  | false => rw [hc] at h; cases h
  | true =>
    rw [hc] at h; cases h
    simp only [Bool.and_eq_true] at hc
    have hnx := Nat.eq_of_beq_eq_true hc.1.1
    refine ⟨keysMask m.pre, keysMask m.post, rfl, rfl, by rw [hnx]; exact m2, fun b hb => ?_, fun b hb => ?_, fun b h1 h2 => ?_, fun t ht hag => ?_⟩
    · refine setAll_out fun o ho => ?_
      rw [keysMask_bit.2 ⟨o, ho⟩] at hb; cases hb
    · simp only [testBit_or, Bool.or_eq_true] at hb
      rcases hb with hb | hb
      · obtain ⟨o, ho⟩ := keysMask_bit.1 hb
        exact Nat.lt_of_lt_of_le (belowAll_mem m1 b o ho) m2
      · obtain ⟨o, ho⟩ := keysMask_bit.1 hb
        exact belowAll_mem m3 b o ho
    · rw [hnx] at h1
      have h2 : b < m.nx' := h2
      have e : (Nat.shiftRight (keysMask m.post) m.nx).testBit (b - m.nx) = true := by
        rw [m4, Nat.testBit_two_pow_sub_one]
        simp; omega
      have e : (keysMask m.post >>> m.nx).testBit (b - m.nx) = true := e
      rw [Nat.testBit_shiftRight] at e
      have : m.nx + (b - m.nx) = b := by omega
      rw [this] at e; exact e
    · have hh : heldAll t.h m.pre = true := by
        rw [heldAll_congr (h := s.h) fun b o hm => hag b (by rw [hnx]; exact belowAll_mem m1 b o hm) (by
          simp only [testBit_or, Bool.or_eq_true]; exact .inl (keysMask_bit.2 ⟨o, hm⟩))]
        exact hc.2
      refine ⟨⟨setAll t.h m.post, m.nx', t.r ||| keysMask m.pre, t.w ||| keysMask m.post⟩, ?_, rfl, rfl, rfl, fun b hb => ?_, fun b hb => ?_⟩
      · unfold memoM
        rw [ht, hc.1.1, hc.1.2, hh]; rfl
      · exact setAll_same (.inr (keysMask_bit.1 hb))
      · refine setAll_out fun o ho => ?_
        rw [keysMask_bit.2 ⟨o, ho⟩] at hb; cases hb

/-- Several memos of one function: which one is told by the next block's number and the arguments. -/
def memosM : List Memo → List Value → M Value
  | [], _ => fail
  | m :: r, l => fun s => cond (Nat.beq s.nx m.nx && eqL l m.args) (memoM m l s) (memosM r l s)

theorem resp_memosM : ∀ {ms : List Memo}, ms.all memoShape = true → ∀ l, Resp (memosM ms l)
  | [], _, _ => Resp.fail
  | m :: r, h, l => by
    simp only [List.all_cons, Bool.and_eq_true] at h
    intro s v s' hs
    unfold memosM at hs
    cases hc : Nat.beq s.nx m.nx && eqL l m.args with
    | true =>
      rw [hc] at hs
      obtain ⟨dr, dw, R⟩ := resp_memoM h.1 l _ _ _ hs
      refine ⟨dr, dw, R.r, R.w, R.nx, R.old, R.lim, R.fresh, fun t ht hag => ?_⟩
      obtain ⟨t', e, rest⟩ := R.again t ht hag
      refine ⟨t', ?_, rest⟩
      unfold memosM
      rw [ht, hc]; exact e
    | false =>
      rw [hc] at hs
      obtain ⟨dr, dw, R⟩ := resp_memosM (ms := r) h.2 l _ _ _ hs
      refine ⟨dr, dw, R.r, R.w, R.nx, R.old, R.lim, R.fresh, fun t ht hag => ?_⟩
      obtain ⟨t', e, rest⟩ := R.again t ht hag
      refine ⟨t', ?_, rest⟩
      unfold memosM
      rw [ht, hc]; exact e

theorem memos_ok {f : FuncId} : ∀ {ms : List Memo}, (∀ m, m ∈ ms → FunOK P N0 E f (memoM m)) → FunOK P N0 E f (memosM ms)
  | [], _ => fun l s v s' β w l' h => (fail_some.1 (show (fail : M Value) s = some (v, s') from h)).elim
  | m :: r, hm => by
    intro l s v s' β w l' h
    unfold memosM at h
    cases hc : Nat.beq s.nx m.nx && eqL l m.args with
    | true => rw [hc] at h; exact hm m List.mem_cons_self l s v s' β w l' h
    | false => rw [hc] at h; exact memos_ok (ms := r) (fun m h => hm m (List.mem_cons_of_mem _ h)) l s v s' β w l' h

end
end
end Go.Ideal
