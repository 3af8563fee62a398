/- A region in its own order; what a drawn region's run and its checks tell. -/
import Derived.Test.YtdkofgkmhgmmmaaGreatDoorSimN
namespace Go.Ideal
set_option linter.all false
set_option linter.unusedSimpArgs false
set_option linter.unusedVariables false
noncomputable section
open Go Go.RowKit
set_option maxHeartbeats 1000000

section
variable {P : Program} {E : Env} {N0 : Nat → Prop} {n : Nat} {ops : Array Oper} {call : CallM}

theorem Resp.mono_nx {α : Type} {m : M α} (h : Resp m) {s s' : S} {a : α} (e : m s = some (a, s')) : s.nx ≤ s'.nx := by
  obtain ⟨_, _, R⟩ := h _ _ _ e; exact R.nx

theorem Fresh.left {β : Bij} {a b c : Nat} (h : Fresh β a c) (k : b ≤ c) : Fresh β a b := fun x h1 h2 => h x h1 (by omega)
theorem Fresh.right {N0 : Nat → Prop} {β β' : Bij} {s s1 s' : S} {w w' : World} (h : Fresh β s.nx s'.nx) (o : Out N0 β s w s1 β' w') (k : s.nx ≤ s1.nx) : Fresh β' s1.nx s'.nx := by
  intro x h1 h2
  cases e : β' x with
  | none => rfl
  | some L =>
    have := o.ext.new x L e (h x (by omega) h2)
    omega

theorem sim_runOps (hE : EnvOK P E) (hX : LinkOK P N0 E) (hR : EnvResp E) (hc : CallOK P N0 E call) (hr : ∀ f l, Resp (call f l)) {Q : Exit → Act → World → Prop} :
    ∀ (l : List Oper) (i : Nat), ops.toList.drop i = l → ∀ (tm : Tr Value) (s : S) (tm' : Tr Value) (s' : S) (β : Bij) (w : World) (a : Act),
      runOps E call n ops l tm s = some (tm', s') → Inv N0 β s.h.get w → Fresh β s.nx s'.nx → Globs E β → TS β n tm a →
      (∀ β' w' a', TS β' n tm' a' → Out N0 β s w s' β' w' → Q .normal a' w') → wpOps P ops Q (List.range' i l.length) a w
  | [], i, hl, tm, s, tm', s', β, w, a, h, hI, hf, hg, ht, hQ => by
    obtain ⟨rfl, rfl⟩ := pure_some.1 h
    exact hQ β w a ht (Out.same hI rfl)
  | o :: r, i, hl, tm, s, tm', s', β, w, a, h, hI, hf, hg, ht, hQ => by
    obtain ⟨tm1, s1, h1, h2⟩ := bind_some.1 h
    have ho : ops[i]? = some o := by
      have : (ops.toList.drop i)[0]? = some o := by rw [hl]; rfl
      rw [List.getElem?_drop, Nat.add_zero, Array.getElem?_toList] at this
      exact this
    have hl' : ops.toList.drop (i + 1) = r := by
      rw [← List.drop_drop, hl]; rfl
    have n1 := Resp.mono_nx (resp_stepM hR hr n ops o tm) h1
    have n2 := Resp.mono_nx (resp_runOps hR hr n ops r tm1) h2
    show wpOps P ops Q (i :: List.range' (i + 1) r.length) a w
    rw [wpOps_cons]
    refine sim_stepM hE hX hc ho h1 hI (hf.left n2) hg ht ?_
    intro β' w' a' ht' hout
    refine sim_runOps hE hX hR hc hr r (i + 1) hl' tm1 s1 tm' s' β' w' a' h2 hout.inv (hf.right hout n1) (hg.mono hout.ext.keep) ht' ?_
    intro β'' w'' a'' ht'' hout'
    exact hQ β'' w'' a'' ht'' (hout.trans hout' n1 n2)

/-! what the static check tells -/
structure Static (ops : Array Oper) : Prop where
  low : ∀ j o, ops[j]? = some o → ∀ e ∈ o.after.toList, Region.binds .any e = true → e.on < j
  pred : ∀ j o i, ops[j]? = some o → ((Region.before ops).getD j 0).testBit i = true →
    ∃ e ∈ o.after.toList, Region.binds .any e = true ∧ (e.on = i ∨ ((Region.before ops).getD e.on 0).testBit i = true)
  apart : ∀ i j oi oj, i < j → ops[i]? = some oi → ops[j]? = some oj → clash (lookMask ops oi) (dstMask oi) (lookMask ops oj) (dstMask oj) = true →
    ((Region.before ops).getD j 0).testBit i = true

theorem predMask_bit {b : Array Nat} {i : Nat} : ∀ {l : List Edge}, (predMask b l).testBit i = true → ∃ e ∈ l, Region.binds .any e = true ∧ (e.on = i ∨ (b.getD e.on 0).testBit i = true)
  | [], h => by simp [predMask] at h
  | e :: r, h => by
    unfold predMask at h
    cases hb : Region.binds .any e with
    | false =>
      rw [hb] at h
      obtain ⟨e', h1, h2⟩ := predMask_bit (l := r) h
      exact ⟨e', List.mem_cons_of_mem _ h1, h2⟩
    | true =>
      rw [hb] at h
      simp only [cond_true, testBit_or, Bool.or_eq_true, testBit_bit, decide_eq_true_eq] at h
      rcases h with (h | h) | h
      · exact ⟨e, List.mem_cons_self, hb, .inl h⟩
      · exact ⟨e, List.mem_cons_self, hb, .inr h⟩
      · obtain ⟨e', h1, h2⟩ := predMask_bit (l := r) h
        exact ⟨e', List.mem_cons_of_mem _ h1, h2⟩

theorem edgesOK_mem {j : Nat} : ∀ {l : List Edge}, edgesOK j l = true → ∀ e ∈ l, Region.binds .any e = true → e.on < j
  | [], _, _, he, _ => by cases he
  | e :: r, h, e', he, hb => by
    unfold edgesOK at h
    cases he with
    | head =>
      rw [hb] at h
      simp only [cond_true, Bool.and_eq_true] at h
      exact blt_iff.1 h.1
    | tail _ he =>
      refine edgesOK_mem (l := r) ?_ e' he hb
      cases hb' : Region.binds .any e with
      | false => rw [hb'] at h; exact h
      | true => rw [hb'] at h; simp only [cond_true, Bool.and_eq_true] at h; exact h.2

theorem clears_mem {before r2 w2 : Nat} : ∀ {l : List (Nat × Nat × Nat)}, clears before r2 w2 l = true → ∀ i r1 w1, (i, r1, w1) ∈ l → clash r1 w1 r2 w2 = true → before.testBit i = true
  | [], _, _, _, _, h, _ => by cases h
  | (k, a, b) :: l, h, i, r1, w1, hm, hcl => by
    unfold clears at h
    cases hc : clash a b r2 w2 && !Nat.testBit before k with
    | true => rw [hc] at h; cases h
    | false =>
      rw [hc] at h
      cases hm with
      | head =>
        rw [hcl] at hc
        simpa using hc
      | tail _ hm => exact clears_mem (l := l) h i r1 w1 hm hcl

theorem regT_mem {b : Array Nat} : ∀ {l : List Oper} {j : Nat} {prev : List (Nat × Nat × Nat)}, regT ops b l j prev = true →
    (∀ k o, l[k]? = some o → b.getD (j + k) 0 = predMask b o.after.toList ∧ edgesOK (j + k) o.after.toList = true ∧
      (∀ i r w, (i, r, w) ∈ prev → clash r w (lookMask ops o) (dstMask o) = true → (b.getD (j + k) 0).testBit i = true) ∧
      (∀ i oi, i < k → l[i]? = some oi → clash (lookMask ops oi) (dstMask oi) (lookMask ops o) (dstMask o) = true → (b.getD (j + k) 0).testBit (j + i) = true))
  | [], _, _, _, k, o, hk => by simp at hk
  | p :: r, j, prev, h, k, o, hk => by
    unfold regT at h
    cases hh : Nat.beq (b.getD j 0) (predMask b p.after.toList) && edgesOK j p.after.toList && clears (b.getD j 0) (lookMask ops p) (dstMask p) prev with
    | false => rw [hh] at h; cases h
    | true =>
      rw [hh] at h
      simp only [Bool.and_eq_true] at hh
      obtain ⟨⟨h1, h2⟩, h3⟩ := hh
      cases k with
      | zero =>
        cases hk
        exact ⟨Nat.eq_of_beq_eq_true h1, h2, fun i r w hm hcl => clears_mem h3 i r w hm hcl, fun i _ hi => absurd hi (Nat.not_lt_zero _)⟩
      | succ k =>
        have hk : r[k]? = some o := hk
        obtain ⟨a1, a2, a3, a4⟩ := regT_mem (l := r) h k o hk
        have ee : j + 1 + k = j + (k + 1) := by omega
        rw [ee] at a1 a2 a3 a4
        refine ⟨a1, a2, fun i r w hm hcl => a3 i r w (List.mem_cons_of_mem _ hm) hcl, fun i oi hi hoi hcl => ?_⟩
        cases i with
        | zero =>
          cases hoi
          exact a3 j _ _ List.mem_cons_self hcl
        | succ i =>
          have := a4 i oi (by omega) hoi hcl
          have e2 : j + 1 + i = j + (i + 1) := by omega
          rw [e2] at this
          exact this

theorem regOK_static (h : regOK ops = true) : Static ops := by
  have key := regT_mem (ops := ops) h
  have get : ∀ {j o}, ops[j]? = some o → ops.toList[j]? = some o := fun h => by rw [Array.getElem?_toList]; exact h
  refine ⟨fun j o ho e he hb => ?_, fun j o i ho hb => ?_, fun i j oi oj hij hi hj hcl => ?_⟩
  · have := (key j o (get ho)).2.1
    rw [Nat.zero_add] at this
    exact edgesOK_mem this e he hb
  · have := (key j o (get ho)).1
    rw [Nat.zero_add] at this
    rw [this] at hb
    exact predMask_bit hb
  · have := (key j oj (get hj)).2.2.2 i oi hij (get hi) hcl
    simpa using this

/-! a drawn region's run, step by step -/
structure Chain (E : Env) (call : CallM) (n : Nat) (ops : Array Oper) (lo hi : Nat) (T : Nat → Tr Value) (H : Nat → S) (R W : Nat → Nat) : Prop where
  step : ∀ i o, lo ≤ i → i < hi → ops[i]? = some o →
    stepM E call n ops o (T i) ⟨(H i).h, (H i).nx, 0, 0⟩ = some (T (i + 1), ⟨(H (i + 1)).h, (H (i + 1)).nx, R i, W i⟩)
  clear : ∀ i j, i < j → lo ≤ j → j < hi → clash (R i) (W i) (R j) (W j) = true → ((Region.before ops).getD j 0).testBit i = true

structure SeenOK (i : Nat) (R W : Nat → Nat) (seen : Seen) : Prop where
  l : ∀ k, k < i → (k, R k, W k) ∈ seen.l
  r : ∀ k, k < i → ∀ b, (R k).testBit b = true → seen.r.testBit b = true
  w : ∀ k, k < i → ∀ b, (W k).testBit b = true → seen.w.testBit b = true

theorem clash_iff {r1 w1 r2 w2 : Nat} : clash r1 w1 r2 w2 = true ↔
    ∃ b, (w1.testBit b = true ∧ (r2.testBit b = true ∨ w2.testBit b = true)) ∨ (w2.testBit b = true ∧ r1.testBit b = true) := by
  unfold clash
  constructor
  · intro h
    have h : ((w1 &&& (r2 ||| w2)) ||| (w2 &&& r1)) ≠ 0 := by
      intro e; rw [e] at h; cases h
    obtain ⟨b, hb⟩ := Nat.exists_testBit_of_ne_zero h
    refine ⟨b, ?_⟩
    simpa only [testBit_or, testBit_and, Bool.or_eq_true, Bool.and_eq_true] using hb
  · rintro ⟨b, hb⟩
    cases hc : Nat.beq ((w1 &&& (r2 ||| w2)) ||| (w2 &&& r1)) 0 with
    | false => rfl
    | true =>
      have e := Nat.eq_of_beq_eq_true hc
      have : ((w1 &&& (r2 ||| w2)) ||| (w2 &&& r1)).testBit b = true := by
        simpa only [testBit_or, testBit_and, Bool.or_eq_true, Bool.and_eq_true] using hb
      rw [e, testBit_zero] at this; cases this

def upd {α : Type} (f : Nat → α) (i : Nat) (x : α) : Nat → α := fun k => if k = i then x else f k
theorem upd_same {α : Type} (f : Nat → α) (i : Nat) (x : α) : upd f i x i = x := by simp [upd]
theorem upd_ne {α : Type} (f : Nat → α) {i k : Nat} (x : α) (h : k ≠ i) : upd f i x k = f k := by simp [upd, h]

theorem chain_of_draw : ∀ (l : List Oper) (i : Nat) (R0 W0 : Nat → Nat) (seen : Seen) (tm : Tr Value) (s : S) (tm' : Tr Value) (s' : S), ops.toList.drop i = l →
    runDraw E call n ops l i seen tm s = some (tm', s') → SeenOK i R0 W0 seen →
    ∃ T H R W, T i = tm ∧ (H i).h = s.h ∧ (H i).nx = s.nx ∧ T (i + l.length) = tm' ∧ (H (i + l.length)).h = s'.h ∧ (H (i + l.length)).nx = s'.nx ∧
      (∀ k, k < i → R k = R0 k ∧ W k = W0 k) ∧ Chain E call n ops i (i + l.length) T H R W
  | [], i, R0, W0, seen, tm, s, tm', s', hl, h, hs => by
    obtain ⟨rfl, rfl⟩ := pure_some.1 h
    refine ⟨fun _ => tm', fun _ => s', R0, W0, rfl, rfl, rfl, rfl, rfl, rfl, fun _ _ => ⟨rfl, rfl⟩, fun k o h1 h2 _ => ?_, fun _ j _ h1 h2 _ => ?_⟩
    · simp at h2; omega
    · simp at h2; omega
  | o :: r, i, R0, W0, seen, tm, s, tm', s', hl, h, hs => by
    rw [runDraw_cons] at h
    obtain ⟨⟨tm1, r1, w1⟩, s1, h1, h2⟩ := bind_some.1 h
    obtain ⟨_, s2, h3, h4⟩ := bind_some.1 h2
    obtain ⟨hcl, rfl⟩ := guardM_some.1 h3
    have ho : ops[i]? = some o := by
      have : (ops.toList.drop i)[0]? = some o := by rw [hl]; rfl
      rw [List.getElem?_drop, Nat.add_zero, Array.getElem?_toList] at this
      exact this
    have hl' : ops.toList.drop (i + 1) = r := by
      rw [← List.drop_drop, hl]; rfl
    have hst : stepM E call n ops o tm ⟨s.h, s.nx, 0, 0⟩ = some (tm1, ⟨s2.h, s2.nx, r1, w1⟩) := by
      unfold iso at h1
      cases hm : stepM E call n ops o tm ⟨s.h, s.nx, 0, 0⟩ with
      | none => rw [hm] at h1; cases h1
      | some q => obtain ⟨q, s3⟩ := q; rw [hm] at h1; cases h1; rfl
    have hs' : SeenOK (i + 1) (upd R0 i r1) (upd W0 i w1) ⟨(i, r1, w1) :: seen.l, seen.r ||| r1, seen.w ||| w1⟩ := by
      refine ⟨fun k hk => ?_, fun k hk b hb => ?_, fun k hk b hb => ?_⟩
      · by_cases e : k = i
        · subst e; rw [upd_same, upd_same]; exact List.mem_cons_self
        · rw [upd_ne _ _ e, upd_ne _ _ e]; exact List.mem_cons_of_mem _ (hs.l k (by omega))
      · simp only [testBit_or, Bool.or_eq_true]
        by_cases e : k = i
        · subst e; rw [upd_same] at hb; exact .inr hb
        · rw [upd_ne _ _ e] at hb; exact .inl (hs.r k (by omega) b hb)
      · simp only [testBit_or, Bool.or_eq_true]
        by_cases e : k = i
        · subst e; rw [upd_same] at hb; exact .inr hb
        · rw [upd_ne _ _ e] at hb; exact .inl (hs.w k (by omega) b hb)
    obtain ⟨T, H, R, W, e1, e2, e3, e4, e5, e6, e7, hch⟩ := chain_of_draw r (i + 1) _ _ _ _ _ _ _ hl' h4 hs'
    have len : i + (o :: r).length = i + 1 + r.length := by simp; omega
    have hRi : R i = r1 := by rw [(e7 i (by omega)).1, upd_same]
    have hWi : W i = w1 := by rw [(e7 i (by omega)).2, upd_same]
    have hne : i + 1 + r.length ≠ i := by omega
    have old : ∀ k, k < i → R k = R0 k ∧ W k = W0 k := fun k hk => by
      obtain ⟨a, b⟩ := e7 k (by omega)
      rw [a, b, upd_ne _ _ (by omega), upd_ne _ _ (by omega)]; exact ⟨rfl, rfl⟩
    rw [len]
    refine ⟨upd T i tm, upd H i s, R, W, upd_same _ _ _, by rw [upd_same], by rw [upd_same], by rw [upd_ne _ _ hne]; exact e4,
      by rw [upd_ne _ _ hne]; exact e5, by rw [upd_ne _ _ hne]; exact e6, old, fun k o' h1 h2 hk => ?_, fun k j hkj h1 h2 hc => ?_⟩
    · by_cases e : k = i
      · subst e
        rw [ho] at hk; cases hk
        rw [upd_same, upd_same, upd_ne _ _ (by omega), upd_ne _ _ (by omega), e1, e2, e3, hRi, hWi]
        exact hst
      · rw [upd_ne _ _ e, upd_ne _ _ e, upd_ne _ _ (by omega), upd_ne _ _ (by omega)]
        exact hch.step k o' (by omega) h2 hk
    · by_cases e : j = i
      · subst e
        rw [hRi, hWi, (old k hkj).1, (old k hkj).2] at hc
        simp only [Bool.or_eq_true, Bool.not_eq_true'] at hcl
        rcases hcl with hcl | hcl
        · exfalso
          obtain ⟨b, hb⟩ := clash_iff.1 hc
          have : clash seen.r seen.w r1 w1 = true := by
            refine clash_iff.2 ⟨b, ?_⟩
            rcases hb with ⟨x, y⟩ | ⟨x, y⟩
            · exact .inl ⟨hs.w k hkj b x, y⟩
            · exact .inr ⟨x, hs.r k hkj b y⟩
          rw [hcl] at this; cases this
        · exact clears_mem hcl k _ _ (hs.l k hkj) hc
      · exact hch.clear k j hkj (by omega) h2 hc

end
end
end Go.Ideal
