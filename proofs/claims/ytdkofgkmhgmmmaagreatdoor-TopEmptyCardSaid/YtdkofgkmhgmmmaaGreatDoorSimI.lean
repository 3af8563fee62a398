/- The ideal machine's operations: append, copy, clear, the comparison of bytes. -/
import Derived.Test.YtdkofgkmhgmmmaaGreatDoorSimH
namespace Go.Ideal
set_option linter.all false
set_option linter.unusedSimpArgs false
set_option linter.unusedVariables false
noncomputable section
open Go Go.RowKit
set_option maxHeartbeats 1000000

theorem growBy_le (n : Nat) : ∀ (r c : Nat), Builtin.growBy n r c ≤ max c (n + (n + 768) / 4)
  | 0, c => by simp [Builtin.growBy]; omega
  | r + 1, c => by
    simp only [Builtin.growBy]
    split
    · omega
    · have := growBy_le n r (c + (c + 768) / 4); omega

theorem nextcap_le {need old : Nat} (h : old < need) : Builtin.nextslicecap need old ≤ 2 * need + 768 := by
  unfold Builtin.nextslicecap
  split
  · omega
  · split
    · omega
    · have := growBy_le need 4 old; omega

section
variable {P : Program} {E : Env} {N0 : Nat → Prop} {β : Bij} {w : World} {s s' : S}

/-- What is appended: how many elements, their cells. -/
structure NewOK (P : Program) (β : Bij) (j : TI) (z : Bool) (n : Nat) (ys : List Value) (x' : Value) (w : World) (cs : Array Value) : Prop where
  rel : VL β ys cs.toList
  len : ys.length = n * j.size
  zero : z = true → (∃ k, x' = .int k (Int.ofNat n)) ∧ n < 1099511627776 ∧ n * j.bytes < 1099511627776 ∧ cs = Builtin.zeroCells j.zero.cells n
  other : z = false → ∀ w', w'.heap = w.heap → (Builtin.lenOf x').run P w' = .ok n w' ∧ (Builtin.firstCells j.size n x').run P w' = .ok cs w'

theorem sim_newCellsM (_hE : EnvOK P E) (hI : Inv N0 β s.h.get w) {j : TI} {e xt : TypeId} (hj : TIOK P e j) {x x' : Value} {n : Nat} {ys : List Value}
    (h : newCells E j (some xt) x s = some ((n, ys), s')) (hx : V β x x') :
    ∃ xi cs, E.ti xt = some xi ∧ NewOK P β j (isIntD xi.desc) n ys x' w cs ∧ s'.h = s.h ∧ s'.nx = s.nx := by
  unfold newCells at h
  simp only at h
  cases hxi : E.ti xt with
  | none => rw [hxi] at h; exact (fail_some.1 h).elim
  | some xi =>
    rw [hxi] at h; simp only at h
    cases hz : isIntD xi.desc with
    | true =>
      rw [hz] at h; simp only [cond_true] at h
      obtain ⟨m, hm, h⟩ : ∃ m : M (Nat × List Value), m = _ ∧ m s = some ((n, ys), s') := ⟨_, rfl, h⟩
      split at hm
      · rename_i k q
        subst hm
        cases hx
        obtain ⟨_, s1, h1, h2⟩ := bind_some.1 h
        obtain ⟨hg, rfl⟩ := guardM_some.1 h1
        obtain ⟨he, rfl⟩ := pure_some.1 h2
        obtain ⟨rfl, rfl⟩ := Prod.mk.inj he
        simp only [Bool.and_eq_true] at hg
        have hzl : j.zero.cells.toList.length = j.size := by rw [← cellsL_eq]; exact hj.len
        have hzs : j.zero.cells.size = j.size := by simpa using hzl
        refine ⟨xi, Builtin.zeroCells j.zero.cells n, rfl, ⟨?_, ?_, fun _ => ⟨⟨k, rfl⟩, blt_iff.1 hg.1, blt_iff.1 hg.2, rfl⟩, (fun h => absurd h (by simp [hz]))⟩, rfl, rfl⟩
        · unfold Builtin.zeroCells; rw [zeros_eq, ← cellsL_eq]; exact VL.repL hj.zero _
        · rw [repL_length, hj.len]
      · subst hm; exact (fail_some.1 h).elim
    | false =>
      rw [hz] at h; simp only [cond_false] at h
      obtain ⟨n', s1, h1, h2⟩ := bind_some.1 h
      obtain ⟨hl, rfl⟩ := liftO_some.1 h1
      obtain ⟨ys', s2, h3, h4⟩ := bind_some.1 h2
      obtain ⟨he, rfl⟩ := pure_some.1 h4
      cases he
      obtain ⟨cs, r, hv, hlen, e1, e2⟩ := sim_firstM (P := P) hI h3 hx
      refine ⟨xi, cs, rfl, ⟨hv, hlen, (fun h => absurd h (by simp [hz])), fun _ w' hw => ⟨?_, r w' hw⟩⟩, e1, e2⟩
      unfold lenOfV at hl
      split at hl
      · cases hl; cases hx <;> rfl
      · cases hl; cases hx; simp [Builtin.lenOf, bl_size]
      · cases hl

theorem run_append_head {ts : Array TypeId} {st xt e ty : TypeId} {j xi : TI} (h0 : ts[0]? = some st) (h1 : ts[1]? = some xt) (hst : P.underlying st = some (.slice e))
    (hj : TIOK P e j) (hxi : TIOK P xt xi) {base : Option Addr} {len cap n : Nat} {x' : Value} {ys : List Value} {cs : Array Value}
    (hn : NewOK P β j (isIntD xi.desc) n ys x' w cs) :
    (len + n ≤ cap → (Builtin.append_ ts ty #[.slice base len cap, x']).run P w =
        (do if let some a := base then storeCells (a.add (len * j.size)) cs.toList
            pure (.slice base (len + n) cap) : Sem Value).run P w) ∧
    (¬ len + n ≤ cap → len + n < 1099511627776 → 0 < j.bytes → (len + n) * j.bytes < 68719476736 →
      ∃ (w1 : World) (newCap : Nat), w1.heap = w.heap ∧ Below N0 w w1 ∧ len + n ≤ newCap ∧ newCap < UNK ∧
        ∀ old, (Builtin.firstCells j.size len (.slice base len cap)).run P w1 = .ok old w1 →
          (Builtin.append_ ts ty #[.slice base len cap, x']).run P w =
            .ok (.slice (some ⟨w.heap.size, 0, none⟩) (len + n) newCap) (pushW w1 (.cells (old ++ cs ++ Builtin.zeroCells j.zero.cells (newCap - (len + n))) e))) := by
  obtain ⟨f, hfi, hf3, hf2, _⟩ := hj.info
  have hf1 : ∀ w, (typeInfo e).run P w = .ok f w := fun w => by simp [typeInfo, hfi]
  cases hz : isIntD xi.desc with
  | true =>
    obtain ⟨⟨k, rfl⟩, b1, b2, rfl⟩ := hn.zero hz
    have hint : ∃ q, xi.desc = .int q := by
      cases hd : xi.desc <;> rw [hd] at hz <;> first | exact ⟨_, rfl⟩ | (simp [isIntD] at hz)
    obtain ⟨q, hq⟩ := hint
    have hux := hxi.under
    rw [hq] at hux
    have w1 : IntKind.i64.wrap (Int.ofNat n) = (n : Int) := by
      simp only [IntKind.wrap, IntKind.bits, IntKind.signed, Int.ofNat_eq_natCast]
      have : (n : Int) % 2 ^ 64 = n := by omega
      simp only [this]; simp; omega
    have c1 : ¬ ((n : Int) < 0) := by omega
    have c2 : ¬ ((n : Int) * f.bytes > 2 ^ 48) := by
      have : (n : Int) * f.bytes = ((n * j.bytes : Nat) : Int) := by rw [Int.natCast_mul, hf2]
      rw [this]; omega
    have hzl : j.zero.cells.toList.length = j.size := by rw [← cellsL_eq]; exact hj.len
    have hzs : j.zero.cells.size = j.size := by simpa using hzl
    have happ : ∀ w', (if n * j.size = 0 then pure #[] else do pure (Builtin.zeroCells (← zeroValue e).cells n) : Sem (Array Value)).run P w' = .ok (Builtin.zeroCells j.zero.cells n) w' := by
      intro w'
      split
      · rename_i h0
        have : Builtin.zeroCells j.zero.cells n = #[] := by unfold Builtin.zeroCells; rw [hzs, h0]; simp
        rw [this]; rfl
      · simp only [Sem.run_bind, rZ hj, Result.andThen_ok, Sem.run_pure]
    have a0 : (#[Value.slice base len cap, Value.int k (Int.ofNat n)] : Array Value)[0]? = some (.slice base len cap) := rfl
    have a1 : (#[Value.slice base len cap, Value.int k (Int.ofNat n)] : Array Value)[1]? = some (.int k (Int.ofNat n)) := rfl
    refine ⟨fun hle => ?_, fun hle hb1 hb2 hb3 => ?_⟩
    · simp only [Builtin.append_, h0, h1, a0, a1, Sem.run_bind, rU hst, rU hux, Result.andThen_ok, Sem.run_pure, rS hj, asInt, asIntOf, w1, c1, c2, hf1, if_false, if_true, Int.toNat_natCast, hle, Bool.not_true, Bool.false_eq_true]
      rw [happ]
      rfl
    · have hne : len + n ≠ 0 := by omega
      have d1 : ¬ (((len + n : Nat) : Int) > IntKind.i64.max ∧ (True ∨ f.bytes = 0)) := by
        intro h; have := h.1; simp [IntKind.max, IntKind.signed, IntKind.bits] at this; omega
      have d2 : ¬ (Builtin.nextslicecap (len + n) cap * f.bytes > 2 ^ 48) := by
        have q1 := nextcap_le (need := len + n) (old := cap) (by omega)
        have q2 : Builtin.nextslicecap (len + n) cap * f.bytes ≤ (2 * (len + n) + 768) * f.bytes := Nat.mul_le_mul_right _ q1
        have q3 : f.bytes ≤ (len + n) * f.bytes := Nat.le_mul_of_pos_left _ (by omega)
        have q4 : (2 * (len + n) + 768) * f.bytes = 2 * ((len + n) * f.bytes) + 768 * f.bytes := by rw [Nat.add_mul, Nat.mul_assoc]
        rw [hf2] at *
        omega
      obtain ⟨newCap, w2, e1, e2, e3, e4, e5⟩ := run_appendCap (P := P) (w := w) N0 (len + n) cap e (by unfold UNK; omega)
      refine ⟨w2, newCap, e2, e3, e4, e5, fun old hold => ?_⟩
      simp only [Builtin.append_, h0, h1, a0, a1, Sem.run_bind, rU hst, rU hux, Result.andThen_ok, Sem.run_pure, rS hj, asInt, asIntOf, w1, c1, c2, hf1, if_false, if_true, Int.toNat_natCast, hle, Bool.not_true, Bool.false_eq_true]
      rw [if_neg d1]
      simp only [Sem.run_bind, hf1, Result.andThen_ok, d2, if_false, e1, run_askRoom, hold, happ, rZ hj, Sem.run_pure]
      rw [← e2]; rfl
  | false =>
    obtain ⟨hlen, hfirst⟩ := hn.other hz w rfl
    have hux := hxi.under
    have a0 : (#[Value.slice base len cap, x'] : Array Value)[0]? = some (.slice base len cap) := rfl
    have a1 : (#[Value.slice base len cap, x'] : Array Value)[1]? = some x' := rfl
    refine ⟨fun hle => ?_, fun hle hb1 hb2 hb3 => ?_⟩
    · generalize xi.desc = d at hux hz
      cases d <;> first
        | (simp [isIntD] at hz; done)
        | (simp only [Builtin.append_, h0, h1, a0, a1, Sem.run_bind, rU hst, rU hux, Result.andThen_ok, Sem.run_pure, rS hj, Bool.false_eq_true, if_false, hlen, hle, if_true, Bool.not_false, hfirst]; rfl)
    · have d1 : ¬ (((len + n : Nat) : Int) > IntKind.i64.max ∧ (False ∨ f.bytes = 0)) := by
        intro h; have := h.1; simp [IntKind.max, IntKind.signed, IntKind.bits] at this; omega
      have d2 : ¬ (Builtin.nextslicecap (len + n) cap * f.bytes > 2 ^ 48) := by
        have q1 := nextcap_le (need := len + n) (old := cap) (by omega)
        have q2 : Builtin.nextslicecap (len + n) cap * f.bytes ≤ (2 * (len + n) + 768) * f.bytes := Nat.mul_le_mul_right _ q1
        have q3 : f.bytes ≤ (len + n) * f.bytes := Nat.le_mul_of_pos_left _ (by omega)
        have q4 : (2 * (len + n) + 768) * f.bytes = 2 * ((len + n) * f.bytes) + 768 * f.bytes := by rw [Nat.add_mul, Nat.mul_assoc]
        rw [hf2] at *
        omega
      obtain ⟨newCap, w2, e1, e2, e3, e4, e5⟩ := run_appendCap (P := P) (w := w) N0 (len + n) cap e (by unfold UNK; omega)
      refine ⟨w2, newCap, e2, e3, e4, e5, fun old hold => ?_⟩
      have hnew := (hn.other hz w2 e2).2
      generalize xi.desc = d at hux hz
      cases d <;> first
        | (simp [isIntD] at hz; done)
        | (simp only [Builtin.append_, h0, h1, a0, a1, Sem.run_bind, rU hst, rU hux, Result.andThen_ok, Sem.run_pure, rS hj, Bool.false_eq_true, if_false, hlen, hle, Bool.not_false, if_true, hf1]
           rw [if_neg d1]
           simp only [Sem.run_bind, hf1, Result.andThen_ok, d2, if_false, e1, run_askRoom, hold, hnew, rZ hj, Sem.run_pure]
           rw [← e2]; rfl)

/-- A block dies. -/
theorem Inv.kill {g g' : Nat → Option Blk} (h : Inv N0 β g w) {b : Nat} {o : Blk} (hb : g b = some o) (hg : ∀ n, g' n = if b = n then some .dead else g n) : Inv N0 β g' w := by
  refine ⟨fun n y hy => ?_, fun b1 b2 o1 o2 L1 L2 hne h1 h2 l1 l2 e1 e2 er => ?_, h.size⟩
  · rw [hg] at hy
    by_cases hn : b = n
    · subst hn; rw [if_pos rfl] at hy; cases hy
      obtain ⟨L, hL, _⟩ := h.live b o hb
      exact ⟨L, hL, trivial⟩
    · rw [if_neg hn] at hy; exact h.live n y hy
  · rw [hg] at h1 h2
    by_cases a1 : b = b1
    · rw [if_pos a1] at h1; cases h1; simp [Blk.live] at l1
    · rw [if_neg a1] at h1
      by_cases a2 : b = b2
      · rw [if_pos a2] at h2; cases h2; simp [Blk.live] at l2
      · rw [if_neg a2] at h2; exact h.alone b1 b2 o1 o2 L1 L2 hne h1 h2 l1 l2 e1 e2 er

/-- A block dies, another one takes its place in the model's memory. -/
theorem Inv.move {g g' : Nat → Option Blk} (h : Inv N0 β g w) {b nb : Nat} {o o' : Blk} {L L' : Loc} {x : Obj} (hb : g b = some o) (hl : o.live = true) (hro : o.isRo = false)
    (hL : β b = some L) (hr : L'.r = L.r) (hn : β nb = none) (hg : ∀ n, g' n = if nb = n then some o' else if b = n then some .dead else g n)
    (ho : OSim N0 (addB β nb L') (setBlk w L.r x) o' L') : Inv N0 (addB β nb L') g' (setBlk w L.r x) := by
  obtain ⟨L0, hL0, hs⟩ := h.live b o hb
  have : L0 = L := by rw [hL] at hL0; cases hL0; rfl
  subst this
  have away : ∀ {n : Nat} {y : Blk} {K : Loc}, nb ≠ n → b ≠ n → g n = some y → y.live = true → addB β nb L' n = some K → K.r ≠ L0.r ∧ β n = some K := by
    intro n y K h1 h2 hy hd hK
    obtain ⟨Ln, hLn, hsn⟩ := h.live n y hy
    unfold addB at hK
    rw [if_neg (fun e => h1 e.symm), hLn] at hK
    cases hK
    refine ⟨fun e => ?_, hLn⟩
    have := h.alone n b y o _ L0 (fun e => h2 e.symm) hy hb hd hl hLn hL e
    rw [hro] at this; exact absurd this.2 (by simp)
  refine ⟨fun n y hy => ?_, fun b1 b2 o1 o2 L1 L2 hne h1 h2 l1 l2 e1 e2 er => ?_, by rw [setBlk_size]; exact h.size⟩
  · rw [hg] at hy
    by_cases h1 : nb = n
    · subst h1; rw [if_pos rfl] at hy; cases hy; exact ⟨L', addB_same .., ho⟩
    · rw [if_neg h1] at hy
      by_cases h2 : b = n
      · subst h2; rw [if_pos rfl] at hy; cases hy
        exact ⟨L0, addB_keep hn _ _ hL, trivial⟩
      · rw [if_neg h2] at hy
        obtain ⟨Ln, hLn, hsn⟩ := h.live n y hy
        refine ⟨Ln, addB_keep hn _ _ hLn, ?_⟩
        cases hd : y.live with
        | false => cases y with | dead => trivial | _ => simp [Blk.live] at hd
        | true => exact hsn.mono (addB_keep hn) (setBlk_other (away h1 h2 hy hd (addB_keep hn _ _ hLn)).1)
  · rw [hg] at h1 h2
    by_cases a1 : nb = b1
    · subst a1
      rw [if_neg hne] at h2
      rw [addB_same] at e1; cases e1
      by_cases a2 : b = b2
      · rw [if_pos a2] at h2; cases h2; simp [Blk.live] at l2
      · rw [if_neg a2] at h2
        exact absurd (er ▸ hr) (away hne a2 h2 l2 e2).1
    · rw [if_neg a1] at h1
      by_cases a2 : b = b1
      · rw [if_pos a2] at h1; cases h1; simp [Blk.live] at l1
      · rw [if_neg a2] at h1
        by_cases a3 : nb = b2
        · subst a3
          rw [addB_same] at e2; cases e2
          exact absurd (er ▸ hr) (away a1 a2 h1 l1 e1).1
        · rw [if_neg a3] at h2
          by_cases a4 : b = b2
          · rw [if_pos a4] at h2; cases h2; simp [Blk.live] at l2
          · rw [if_neg a4] at h2
            exact h.alone b1 b2 o1 o2 L1 L2 hne h1 h2 l1 l2 (away a1 a2 h1 l1 e1).2 (away a3 a4 h2 l2 e2).2 er

theorem VL.ones {l l' : List Value} (h : VL β l l') (ho : l.all one = true) : ∀ v ∈ l', v.oneCell' = true := by
  intro v hv
  obtain ⟨i, hi, rfl⟩ := List.getElem_of_mem hv
  have hl := h.length
  have hi' : i < l.length := by omega
  obtain ⟨v', e1, e2⟩ := h.get (List.getElem?_eq_getElem hi')
  rw [List.getElem?_eq_getElem hi] at e1; cases e1
  exact e2.one (List.all_eq_true.1 ho _ (List.getElem_mem hi'))

end
end
end Go.Ideal
