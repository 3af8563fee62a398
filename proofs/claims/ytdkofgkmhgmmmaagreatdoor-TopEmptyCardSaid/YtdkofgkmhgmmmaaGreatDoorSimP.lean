/- A region whose order is drawn: whatever the order, the same comes out. -/
import Derived.Test.YtdkofgkmhgmmmaaGreatDoorSimO
namespace Go.Ideal
set_option linter.all false
set_option linter.unusedSimpArgs false
set_option linter.unusedVariables false
noncomputable section
open Go Go.RowKit
set_option maxHeartbeats 1000000

section
variable {P : Program} {E : Env} {N0 : Nat → Prop} {n : Nat} {ops : Array Oper} {call : CallM}

/-! a step hangs on the temporaries it looks at alone -/
theorem evalL_congr {ev ev' : Operand → Option Value} : ∀ {l : List Operand}, (∀ x ∈ l, ev x = ev' x) → evalL ev l = evalL ev' l
  | [], _ => rfl
  | x :: r, h => by
    unfold evalL
    rw [h x List.mem_cons_self, evalL_congr (l := r) fun y hy => h y (List.mem_cons_of_mem _ hy)]

theorem evalP_congr {ev ev' : Operand → Option Value} : ∀ {l : List (Nat × Operand)}, (∀ x ∈ l.map (·.2), ev x = ev' x) → evalP ev l = evalP ev' l
  | [], _ => rfl
  | (i, x) :: r, h => by
    unfold evalP
    rw [h x (by simp), evalP_congr (l := r) fun y hy => h y (by simp only [List.map_cons]; exact List.mem_cons_of_mem _ hy)]

theorem evalO_congr {ev ev' : Operand → Option Value} {o : Option Operand} (h : ∀ x ∈ o.toArray, ev x = ev' x) : evalO ev o = evalO ev' o := by
  cases o with
  | none => rfl
  | some x => unfold evalO; simp only; rw [h x (by simp)]

theorem opM_congr {ev ev' : Operand → Option Value} (o : Op) (h : ∀ x ∈ o.operands, ev x = ev' x) : opM E ev o = opM E ev' o := by
  cases o <;> simp only [Op.operands] at h <;> simp only [opM, o1, o2, o3, oP, oL, oO, oS, oPick, oFn, oCall, lO1, lO2]
  case build t ps => rw [evalP_congr (ev := ev) (ev' := ev') fun x hx => h x (by simpa using hx)]
  case buildSlice t n ps => rw [evalP_congr (ev := ev) (ev' := ev') fun x hx => h x (by simpa using hx)]
  case makeFunc fn first captured =>
    rw [evalL_congr (ev := ev) (ev' := ev') (l := first.toList) fun x hx => h x (by simp only [Array.mem_toList_iff] at hx; simp [hx]),
      evalL_congr (ev := ev) (ev' := ev') (l := captured.toList) fun x hx => h x (by simp only [Array.mem_toList_iff] at hx; simp [hx])]
  case call c =>
    cases hc : c.callee with
    | builtin b =>
      simp only
      rw [evalL_congr (ev := ev) (ev' := ev') (l := c.args.toList) fun x hx => h x (by simp only [Array.mem_toList_iff] at hx; simp [Call.operands, hx])]
    | _ => rfl
  case makeMap t r => rw [evalO_congr (ev := ev) (ev' := ev') h]
  case slice t x lo hi mx =>
    rw [evalO_congr (ev := ev) (ev' := ev') (o := lo) fun y hy => h y (by simp only [Array.mem_append]; exact .inl (.inl (.inr hy))),
      evalO_congr (ev := ev) (ev' := ev') (o := hi) fun y hy => h y (by simp only [Array.mem_append]; exact .inl (.inr hy)),
      evalO_congr (ev := ev) (ev' := ev') (o := mx) fun y hy => h y (by simp only [Array.mem_append]; exact .inr hy), h x (by simp)]
  all_goals (first | rfl | (simp_all; done))

theorem operM_congr {ev ev' : Operand → Option Value} (o : Op) (h : ∀ x ∈ o.operands, ev x = ev' x) : operM E call ev o = operM E call ev' o := by
  unfold operM
  cases o with
  | call c =>
    simp only
    cases hc : c.callee with
    | value f =>
      simp only [Op.operands, Call.operands, hc] at h
      simp only
      rw [h f (by simp), evalL_congr (ev := ev) (ev' := ev') (l := c.args.toList) fun x hx => h x (by simp only [Array.mem_toList_iff] at hx; simp [hx])]
    | _ => exact opM_congr _ h
  | _ => exact opM_congr _ h

theorem tmpsMask_bit {t : Nat} : ∀ {l : List Operand}, .tmp t ∈ l → (tmpsMask l).testBit t = true
  | [], h => by cases h
  | x :: r, h => by
    cases h with
    | head => simp [tmpsMask, testBit_bit]
    | tail _ h =>
      have := tmpsMask_bit h
      cases x <;> simp [tmpsMask, this]

theorem stepM_congr {o : Oper} {T T' tm : Tr Value} {s s' : S} (h : stepM E call n ops o T s = some (T', s'))
    (ha : ∀ t, (lookMask ops o).testBit t = true → tm.get t = T.get t) :
    (∀ t, (dstMask o).testBit t = false → T'.get t = T.get t) ∧
    ∃ tm', stepM E call n ops o tm s = some (tm', s') ∧ (∀ t, (dstMask o).testBit t = true → tm'.get t = T'.get t) ∧ (∀ t, (dstMask o).testBit t = false → tm'.get t = tm.get t) := by
  have hev : ∀ x ∈ o.op.operands, evalI E tm x = evalI E T x := by
    intro x hx
    cases x with
    | tmp t => exact ha t (by simp only [lookMask, testBit_or, Bool.or_eq_true]; exact .inl (tmpsMask_bit (by simpa using hx)))
    | _ => rfl
  have hw : wantedI ops tm o = wantedI ops T o := by
    unfold wantedI
    cases hg : o.guard with
    | none => rfl
    | some p =>
      obtain ⟨j, want⟩ := p
      simp only
      cases hj : ops[j]? with
      | none => rfl
      | some q =>
        cases hd : q.dst with
        | none => simp [hd]
        | some d =>
          simp only [Option.bind_some, hd]
          rw [ha d (by simp [lookMask, hg, hj, hd, testBit_bit])]
  have put : ∀ {v : Value}, putT n T o.dst v = some T' → (∀ t, (dstMask o).testBit t = false → T'.get t = T.get t) ∧
      ∃ tm', putT n tm o.dst v = some tm' ∧ (∀ t, (dstMask o).testBit t = true → tm'.get t = T'.get t) ∧ (∀ t, (dstMask o).testBit t = false → tm'.get t = tm.get t) := by
    intro v hp
    unfold dstMask
    cases hd : o.dst with
    | none =>
      rw [hd] at hp; cases hp
      exact ⟨fun _ _ => rfl, tm, rfl, fun t ht => by simp at ht, fun _ _ => rfl⟩
    | some d =>
      rw [hd] at hp
      simp only [putT] at hp ⊢
      cases hlt : Nat.blt d n with
      | false => rw [hlt] at hp; cases hp
      | true =>
        rw [hlt] at hp; cases hp
        refine ⟨fun t ht => ?_, _, rfl, fun t ht => ?_, fun t ht => ?_⟩
        · simp only [testBit_bit, decide_eq_false_iff_not] at ht
          rw [Tr.get_set, if_neg ht]
        · simp only [testBit_bit, decide_eq_true_eq] at ht
          rw [Tr.get_set, Tr.get_set, if_pos ht, if_pos ht]
        · simp only [testBit_bit, decide_eq_false_iff_not] at ht
          rw [Tr.get_set, if_neg ht]
  unfold stepM at h ⊢
  rw [hw]
  obtain ⟨b, hb, h⟩ := lift_bind h
  have bindL : ∀ {α β : Type} {x : Option α} {a : α} {f : α → M β}, x = some a → ((liftO x >>= f) s) = f a s := by
    intro α β x a f e; subst e; rfl
  rw [bindL hb]
  cases b with
  | false =>
    obtain ⟨hp, rfl⟩ := liftO_some.1 h
    obtain ⟨h1, tm', h2, h3, h4⟩ := put hp
    exact ⟨h1, tm', liftO_some.2 ⟨h2, rfl⟩, h3, h4⟩
  | true =>
    obtain ⟨v, s1, h1, h2⟩ := bind_some.1 h
    obtain ⟨hp, rfl⟩ := liftO_some.1 h2
    obtain ⟨h1', tm', h2, h3, h4⟩ := put hp
    refine ⟨h1', tm', bind_some.2 ⟨v, s', ?_, liftO_some.2 ⟨h2, rfl⟩⟩, h3, h4⟩
    rw [operM_congr (E := E) (call := call) o.op hev]
    exact h1

/-! what some of the operations have written -/
def Mixed {X : Type} (D : Nat → Prop) (val : Nat → Nat → Option X) (wr : Nat → Nat → Bool) (g : Nat → Option X) : Prop :=
  ∀ x, (∃ i, D i ∧ wr i x = true ∧ (∀ k, D k → i < k → wr k x = false) ∧ g x = val (i + 1) x) ∨ ((∀ k, D k → wr k x = false) ∧ g x = val 0 x)

theorem val_same {X : Type} {val : Nat → Nat → Option X} {wr : Nat → Nat → Bool} {m x : Nat} (hv : ∀ i, i < m → wr i x = false → val (i + 1) x = val i x) :
    ∀ (d i j : Nat), j = i + d → j ≤ m → (∀ k, i ≤ k → k < j → wr k x = false) → val j x = val i x
  | 0, i, j, e, _, _ => by rw [e]; rfl
  | d + 1, i, j, e, hj, h => by
    subst e
    have e2 : i + (d + 1) = i + d + 1 := by omega
    rw [e2, hv (i + d) (by omega) (h (i + d) (by omega) (by omega))]
    exact val_same hv d i (i + d) rfl (by omega) fun k h1 h2 => h k h1 (by omega)

theorem Mixed.agree {X : Type} {D : Nat → Prop} {val : Nat → Nat → Option X} {wr : Nat → Nat → Bool} {g : Nat → Option X} (h : Mixed D val wr g) {m j x : Nat}
    (hv : ∀ i, i < m → wr i x = false → val (i + 1) x = val i x) (hj : j ≤ m) (hjD : ¬ D j) (lo : ∀ k, k < j → wr k x = true → D k) (hi : ∀ k, D k → j < k → wr k x = false) :
    g x = val j x := by
  rcases h x with ⟨i, h1, h2, h3, h4⟩ | ⟨h1, h2⟩
  · have hlt : i < j := by
      rcases Nat.lt_trichotomy i j with hh | hh | hh
      · exact hh
      · subst hh; exact absurd h1 hjD
      · rw [hi i h1 hh] at h2; cases h2
    rw [h4]
    refine (val_same hv (j - (i + 1)) (i + 1) j (by omega) hj fun k k1 k2 => ?_).symm
    cases hk : wr k x with
    | false => rfl
    | true => rw [h3 k (lo k k2 hk) (by omega)] at hk; cases hk
  · rw [h2]
    refine (val_same hv j 0 j (by omega) hj fun k _ k2 => ?_).symm
    cases hk : wr k x with
    | false => rfl
    | true => rw [h1 k (lo k k2 hk)] at hk; cases hk

theorem Mixed.update {X : Type} {D D' : Nat → Prop} {val : Nat → Nat → Option X} {wr : Nat → Nat → Bool} {g g' : Nat → Option X} (h : Mixed D val wr g) {j : Nat}
    (hD : ∀ k, D' k ↔ D k ∨ k = j) (h1 : ∀ x, wr j x = true → g' x = val (j + 1) x) (h2 : ∀ x, wr j x = false → g' x = g x)
    (h3 : ∀ x k, wr j x = true → D k → j < k → wr k x = false) : Mixed D' val wr g' := by
  intro x
  cases hw : wr j x with
  | true =>
    refine .inl ⟨j, (hD j).2 (.inr rfl), hw, fun k hk hlt => ?_, h1 x hw⟩
    rcases (hD k).1 hk with hk | rfl
    · exact h3 x k hw hk hlt
    · omega
  | false =>
    rw [h2 x hw]
    rcases h x with ⟨i, a1, a2, a3, a4⟩ | ⟨a1, a2⟩
    · refine .inl ⟨i, (hD i).2 (.inl a1), a2, fun k hk hlt => ?_, a4⟩
      rcases (hD k).1 hk with hk | rfl
      · exact a3 k hk hlt
      · exact hw
    · refine .inr ⟨fun k hk => ?_, a2⟩
      rcases (hD k).1 hk with hk | rfl
      · exact a1 k hk
      · exact hw

/-- Behind some of the operations, in whatever order they ran. -/
structure Mid (P : Program) (E : Env) (N0 : Nat → Prop) (n : Nat) (ops : Array Oper) (T : Nat → Tr Value) (H : Nat → S) (W : Nat → Nat) (β0 : Bij) (w0 : World)
    (listed : Array Bool) (a : Act) (w : World) (β : Bij) (tm : Tr Value) (h : Tr Blk) : Prop where
  ts : TS β n tm a
  inv : Inv N0 β h.get w
  tmp : Mixed (fun i => listed.getD i false = true) (fun i x => (T i).get x) (fun i x => match ops[i]? with | some o => (dstMask o).testBit x | none => false) tm.get
  heap : Mixed (fun i => listed.getD i false = true) (fun i x => (H i).h.get x) (fun i x => decide (i < ops.size) && (W i).testBit x) h.get
  keep : ∀ b L, β0 b = some L → β b = some L
  new : ∀ b L, β b = some L → β0 b = none → ∃ i, listed.getD i false = true ∧ (H i).nx ≤ b ∧ b < (H (i + 1)).nx
  below : Below N0 w0 w
  closed : ∀ j o, listed.getD j false = true → ops[j]? = some o → ∀ e ∈ o.after.toList, Region.binds .any e = true → listed.getD e.on false = true
  size : listed.size = ops.size

theorem sim_draw (hE : EnvOK P E) (hX : LinkOK P N0 E) (hR : EnvResp E) (hc : CallOK P N0 E call) (hr : ∀ f l, Resp (call f l)) {Q : Exit → Act → World → Prop}
    (hs : Static ops) {T : Nat → Tr Value} {H : Nat → S} {R W : Nat → Nat} (hch : Chain E call n ops 0 ops.size T H R W) {β0 : Bij} {w0 : World}
    (hf : Fresh β0 (H 0).nx (H ops.size).nx) (hg : Globs E β0)
    (hQ : ∀ β a w, TS β n (T ops.size) a → Inv N0 β (H ops.size).h.get w → Ext β0 β (H 0).nx (H ops.size).nx → Below N0 w0 w → Q .normal a w) :
    ∀ (fuel : Nat) (listed : Array Bool) (a : Act) (w : World), listed.toList.count false = fuel →
      (∃ β tm h, Mid P E N0 n ops T H W β0 w0 listed a w β tm h) → wpAny P .any ops Q fuel listed a w := by
  -- facts of the chain
  have stepR : ∀ i o, ops[i]? = some o → RespAt (stepM E call n ops o (T i)) ⟨(H i).h, (H i).nx, 0, 0⟩ (T (i + 1)) ⟨(H (i + 1)).h, (H (i + 1)).nx, R i, W i⟩ (R i) (W i) := by
    intro i o ho
    have hi : i < ops.size := (Array.getElem?_eq_some_iff.1 ho).1
    obtain ⟨dr, dw, r⟩ := resp_stepM hR hr n ops o (T i) _ _ _ (hch.step i o (Nat.zero_le _) hi ho)
    have e1 : R i = dr := by have := r.r; simpa using this
    have e2 : W i = dw := by have := r.w; simpa using this
    rw [e1, e2] at r ⊢; exact r
  have get : ∀ i, i < ops.size → ∃ o, ops[i]? = some o := fun i hi => ⟨ops[i], Array.getElem?_eq_getElem hi⟩
  have mono1 : ∀ i, i < ops.size → (H i).nx ≤ (H (i + 1)).nx := fun i hi => by
    obtain ⟨o, ho⟩ := get i hi; exact (stepR i o ho).nx
  have mono : ∀ d i j, j = i + d → j ≤ ops.size → (H i).nx ≤ (H j).nx := by
    intro d
    induction d with
    | zero => intro i j e _; subst e; exact Nat.le_refl _
    | succ d ih =>
      intro i j e hj; subst e
      exact Nat.le_trans (ih i (i + d) rfl (by omega)) (mono1 (i + d) (by omega))
  -- done: all that stands ahead is done
  have clos : ∀ (listed : Array Bool), (∀ j o, listed.getD j false = true → ops[j]? = some o → ∀ e ∈ o.after.toList, Region.binds .any e = true → listed.getD e.on false = true) →
      ∀ (N j : Nat), j < N → ∀ o, ops[j]? = some o → (∀ e ∈ o.after.toList, Region.binds .any e = true → listed.getD e.on false = true) →
      ∀ i, ((Region.before ops).getD j 0).testBit i = true → listed.getD i false = true := by
    intro listed hcl N
    induction N with
    | zero => intro j hj; omega
    | succ N ih =>
      intro j hj o ho hall i hi
      obtain ⟨e, he, hb, h⟩ := hs.pred j o i ho hi
      have hon := hall e he hb
      rcases h with rfl | h
      · exact hon
      · have hlt := hs.low j o ho e he hb
        obtain ⟨o', ho'⟩ : ∃ o', ops[e.on]? = some o' := by
          have : j < ops.size := (Array.getElem?_eq_some_iff.1 ho).1
          exact get e.on (by omega)
        exact ih e.on (by omega) o' ho' (hcl e.on o' hon ho') i h
  -- all done
  have done : ∀ (listed : Array Bool) (a : Act) (w : World) (β : Bij) (tm : Tr Value) (h : Tr Blk), Mid P E N0 n ops T H W β0 w0 listed a w β tm h →
      (∀ i, i < ops.size → listed.getD i false = true) → Q .normal a w := by
    intro listed a w β tm h M hall
    have out : ∀ k, listed.getD k false = true → k < ops.size := by
      intro k hk
      rcases Nat.lt_or_ge k listed.size with hlt | hge
      · rw [← M.size]; exact hlt
      · simp [Array.getElem?_eq_none hge] at hk
    have nm : ¬ listed.getD ops.size false = true := fun hk => absurd (out _ hk) (Nat.lt_irrefl _)
    have et : ∀ x, tm.get x = (T ops.size).get x := fun x => M.tmp.agree (m := ops.size)
      (fun i hi hw => by
        obtain ⟨o, ho⟩ := get i hi
        simp only [ho] at hw
        exact (stepM_congr (hch.step i o (Nat.zero_le _) hi ho) (tm := T i) fun _ _ => rfl).1 x hw) (Nat.le_refl _) nm (fun k hk _ => hall k hk)
      (fun k hk hlt => by have := out k hk; omega)
    have eh : ∀ x, h.get x = (H ops.size).h.get x := fun x => M.heap.agree (m := ops.size)
      (fun i hi hw => by
        obtain ⟨o, ho⟩ := get i hi
        simp only [hi, decide_true, Bool.true_and] at hw
        exact (stepR i o ho).old x hw) (Nat.le_refl _) nm (fun k hk _ => hall k hk)
      (fun k hk hlt => by have := out k hk; omega)
    refine hQ β a w ⟨M.ts.size, M.ts.defers, fun i v hv => M.ts.rel i v (by rw [et]; exact hv)⟩ (M.inv.congr fun b => (eh b).symm) ⟨M.keep, fun b L hb h0 => ?_⟩ M.below
    obtain ⟨i, hi, h1, h2⟩ := M.new b L hb h0
    have := out i hi
    exact ⟨Nat.le_trans (mono i 0 i (by omega) (by omega)) h1, Nat.lt_of_lt_of_le h2 (mono (ops.size - (i + 1)) (i + 1) ops.size (by omega) (Nat.le_refl _))⟩
  -- nothing is ready: all are done
  have idle : ∀ (listed : Array Bool), listed.size = ops.size → Region.ready .any ops listed = [] → ∀ i, i < ops.size → listed.getD i false = true := by
    intro listed hsz hrd i
    induction i using Nat.strongRecOn with
    | _ i ih =>
      intro hi
      cases hl : listed.getD i false with
      | true => rfl
      | false =>
        exfalso
        obtain ⟨o, ho⟩ := get i hi
        have : i ∈ Region.ready .any ops listed := by
          refine mem_ready.2 ⟨?_, o, ho, fun e he hb => ?_⟩
          · have : i < listed.size := by omega
            simpa [this] using hl
          · have he' : e ∈ o.after.toList := by simpa using he
            have hlt := hs.low i o ho e he' hb
            exact ih e.on hlt (by omega)
        rw [hrd] at this; cases this
  intro fuel
  induction fuel with
  | zero =>
    rintro listed a w hcnt ⟨β, tm, h, M⟩
    have hall : ∀ i, i < ops.size → listed.getD i false = true := by
      intro i hi
      have hi' : i < listed.size := by rw [M.size]; exact hi
      cases hl : listed[i] with
      | true => simp [hi', hl]
      | false =>
        exfalso
        have : false ∈ listed.toList := by rw [← hl]; simp
        have := List.count_pos_iff.2 this
        omega
    refine ⟨?_, done listed a w β tm h M hall⟩
    cases hrd : Region.ready .any ops listed with
    | nil => rfl
    | cons x l =>
      exfalso
      have hx : x ∈ Region.ready .any ops listed := by rw [hrd]; exact List.mem_cons_self
      obtain ⟨h0, o, ho, _⟩ := mem_ready.1 hx
      have hlt : x < ops.size := (Array.getElem?_eq_some_iff.1 ho).1
      have h1 := hall x hlt
      have h2 : x < listed.size := by rw [M.size]; exact hlt
      simp [h2] at h0 h1
      rw [h0] at h1; cases h1
  | succ fuel ih =>
    rintro listed a w hcnt ⟨β, tm, h, M⟩
    refine ⟨fun hrd => done listed a w β tm h M (idle listed M.size hrd), fun j hj => ?_⟩
    obtain ⟨hjl, o, ho, hall⟩ := mem_ready.1 hj
    have hjs : j < ops.size := (Array.getElem?_eq_some_iff.1 ho).1
    have hjl2 : j < listed.size := by rw [M.size]; exact hjs
    have hjD : ¬ listed.getD j false = true := by
      intro e; simp [hjl2] at hjl e; rw [hjl] at e; cases e
    have hall' : ∀ e ∈ o.after.toList, Region.binds .any e = true → listed.getD e.on false = true := fun e he hb => hall e (by simpa using he) hb
    have ahead := clos listed M.closed (j + 1) j (by omega) o ho hall'
    have later : ∀ k, listed.getD k false = true → ((Region.before ops).getD k 0).testBit j = true → False := by
      intro k hk hb
      have hks : k < ops.size := by
        rcases Nat.lt_or_ge k listed.size with hlt | hge
        · rw [← M.size]; exact hlt
        · simp [Array.getElem?_eq_none hge] at hk
      obtain ⟨ok, hok⟩ := get k hks
      exact hjD (clos listed M.closed (k + 1) k (by omega) ok hok (M.closed k ok hk hok) j hb)
    have ksz : ∀ k, listed.getD k false = true → k < ops.size := by
      intro k hk
      rcases Nat.lt_or_ge k listed.size with hlt | hge
      · rw [← M.size]; exact hlt
      · simp [Array.getElem?_eq_none hge] at hk
    have hst := hch.step j o (Nat.zero_le _) hjs ho
    have RR := stepR j o ho
    -- the heap that it looks at
    have eqh : ∀ b, (R j ||| W j).testBit b = true → h.get b = (H j).h.get b := by
      intro b hb
      simp only [testBit_or, Bool.or_eq_true] at hb
      refine M.heap.agree (m := ops.size) (fun i hi hw => ?_) (Nat.le_of_lt hjs) hjD (fun k hk hw => ?_) (fun k hk hlt => ?_)
      · obtain ⟨oi, hoi⟩ := get i hi
        simp only [hi, decide_true, Bool.true_and] at hw
        exact (stepR i oi hoi).old b hw
      · have hks : k < ops.size := by omega
        simp only [hks, decide_true, Bool.true_and] at hw
        exact ahead k (hch.clear k j hk (Nat.zero_le _) hjs (clash_iff.2 ⟨b, .inl ⟨hw, hb⟩⟩))
      · have hks := ksz k hk
        simp only [hks, decide_true, Bool.true_and]
        cases hw : (W k).testBit b with
        | false => rfl
        | true =>
          exfalso
          refine later k hk (hch.clear j k hlt (Nat.zero_le _) hks (clash_iff.2 ⟨b, ?_⟩))
          rcases hb with hb | hb
          · exact .inr ⟨hw, hb⟩
          · exact .inl ⟨hb, .inr hw⟩
    obtain ⟨t', st, tnx, _, _, tw, tn⟩ := RR.again ⟨h, (H j).nx, 0, 0⟩ rfl fun b _ hb => eqh b hb
    -- the temporaries that it looks at
    have eqt : ∀ t, (lookMask ops o).testBit t = true → tm.get t = (T j).get t := by
      intro t htb
      refine M.tmp.agree (m := ops.size) (fun i hi hw => ?_) (Nat.le_of_lt hjs) hjD (fun k hk hw => ?_) (fun k hk hlt => ?_)
      · obtain ⟨oi, hoi⟩ := get i hi
        simp only [hoi] at hw
        exact (stepM_congr (hch.step i oi (Nat.zero_le _) hi hoi) (tm := T i) fun _ _ => rfl).1 t hw
      · obtain ⟨ok, hok⟩ := get k (by omega)
        simp only [hok] at hw
        exact ahead k (hs.apart k j ok o hk hok ho (clash_iff.2 ⟨t, .inl ⟨hw, .inl htb⟩⟩))
      · obtain ⟨ok, hok⟩ := get k (ksz k hk)
        simp only [hok]
        cases hw : (dstMask ok).testBit t with
        | false => rfl
        | true => exact (later k hk (hs.apart j k o ok hlt ho hok (clash_iff.2 ⟨t, .inr ⟨hw, htb⟩⟩))).elim
    obtain ⟨_, tm', st', hm1, hm2⟩ := stepM_congr st eqt
    have hfr : Fresh β (H j).nx t'.nx := by
      intro b h1 h2
      rw [tnx] at h2
      cases hb : β b with
      | none => rfl
      | some L =>
        exfalso
        cases h0 : β0 b with
        | some L0 =>
          have : β0 b = none := hf b (Nat.le_trans (mono j 0 j (by omega) (by omega)) h1)
            (Nat.lt_of_lt_of_le h2 (mono (ops.size - (j + 1)) (j + 1) ops.size (by omega) (Nat.le_refl _)))
          rw [h0] at this; cases this
        | none =>
          obtain ⟨i, hi, h3, h4⟩ := M.new b L hb h0
          have his := ksz i hi
          rcases Nat.lt_trichotomy i j with hh | hh | hh
          · have := mono (j - (i + 1)) (i + 1) j (by omega) (by omega)
            omega
          · subst hh; exact hjD hi
          · have := mono (i - (j + 1)) (j + 1) i (by omega) (by omega)
            have e2 : (H (j + 1)).nx = (⟨(H (j + 1)).h, (H (j + 1)).nx, R j, W j⟩ : S).nx := rfl
            simp only at h2
            omega
    refine sim_stepM (s := ⟨h, (H j).nx, 0, 0⟩) hE hX hc ho st' M.inv hfr (hg.mono M.keep) M.ts ?_
    intro β' w' a' hts hout
    have memD : ∀ k, (listed.setIfInBounds j true).getD k false = true ↔ listed.getD k false = true ∨ k = j := by
      intro k
      by_cases e : j = k
      · subst e; simp [hjl2]
      · rw [getD_set_ne false e]
        constructor
        · exact .inl
        · rintro (h | h)
          · exact h
          · exact absurd h.symm e
    refine ih _ a' w' ?_ ⟨β', tm', t'.h, hts, hout.inv, M.tmp.update memD (fun x hx => ?_) (fun x hx => ?_) (fun x k hx hk hlt => ?_),
      M.heap.update memD (fun x hx => ?_) (fun x hx => ?_) (fun x k hx hk hlt => ?_), fun b L hb => hout.ext.keep b L (M.keep b L hb), fun b L hb h0 => ?_,
      M.below.trans hout.below, fun k ok hk hok e he hb => ?_, by simp [M.size]⟩
    · have hlen : j < listed.toList.length := by simpa using hjl2
      have hl0 : listed.toList[j] = false := by simp [hjl2] at hjl; simpa using hjl
      rw [Array.toList_setIfInBounds, List.count_set hlen, hl0, hcnt]
      simp
    · simp only [ho] at hx; exact hm1 x hx
    · simp only [ho] at hx; exact hm2 x hx
    · simp only [ho] at hx
      obtain ⟨ok, hok⟩ := get k (ksz k hk)
      simp only [hok]
      cases hw : (dstMask ok).testBit x with
      | false => rfl
      | true => exact (later k hk (hs.apart j k o ok hlt ho hok (clash_iff.2 ⟨x, .inl ⟨hx, .inr hw⟩⟩))).elim
    · simp only [hjs, decide_true, Bool.true_and] at hx
      exact tw x hx
    · simp only [hjs, decide_true, Bool.true_and] at hx
      exact tn x hx
    · simp only [hjs, decide_true, Bool.true_and] at hx
      have hks := ksz k hk
      simp only [hks, decide_true, Bool.true_and]
      cases hw : (W k).testBit x with
      | false => rfl
      | true => exact (later k hk (hch.clear j k hlt (Nat.zero_le _) hks (clash_iff.2 ⟨x, .inl ⟨hx, .inr hw⟩⟩))).elim
    · cases hb' : β b with
      | none =>
        have := hout.ext.new b L hb hb'
        exact ⟨j, (memD j).2 (.inr rfl), this.1, by have := this.2; rw [tnx] at this; exact this⟩
      | some L' =>
        have := hout.ext.keep b L' hb'
        rw [hb] at this; cases this
        obtain ⟨i, hi, h1, h2⟩ := M.new b L hb' h0
        exact ⟨i, (memD i).2 (.inl hi), h1, h2⟩
    · rcases (memD k).1 hk with hk | rfl
      · exact (memD e.on).2 (.inl (M.closed k ok hk hok e he hb))
      · rw [ho] at hok; cases hok
        exact (memD e.on).2 (.inl (hall' e he hb))

theorem sim_region (hE : EnvOK P E) (hX : LinkOK P N0 E) (hR : EnvResp E) (hc : CallOK P N0 E call) (hr : ∀ f l, Resp (call f l)) {Q : Exit → Act → World → Prop} {id : Nat} {d : Bool}
    {tm tm' : Tr Value} {s s' : S} {β : Bij} {w : World} {a : Act} (h : runRegion E call n ops d tm s = some (tm', s')) (hI : Inv N0 β s.h.get w) (hf : Fresh β s.nx s'.nx)
    (hg : Globs E β) (ht : TS β n tm a) (hQ : ∀ β' w' a', TS β' n tm' a' → Out N0 β s w s' β' w' → Q .normal a' w') : (Code.region id ops d).wp P Q a w := by
  unfold runRegion at h
  cases d with
  | false =>
    refine wp_region ?_
    rw [List.range_eq_range', ← Array.length_toList]
    exact sim_runOps hE hX hR hc hr ops.toList 0 rfl tm s tm' s' β w a h hI hf hg ht hQ
  | true =>
    obtain ⟨_, s1, h1, h2⟩ := bind_some.1 h
    obtain ⟨hok, rfl⟩ := guardM_some.1 h1
    have hs := regOK_static hok
    obtain ⟨T, H, R, W, e1, e2, e3, e4, e5, e6, _, hch⟩ := chain_of_draw (E := E) (call := call) (n := n) (ops := ops) ops.toList 0 (fun _ => 0) (fun _ => 0) ⟨[], 0, 0⟩ tm s1 tm' s' rfl h2
      ⟨fun k hk => absurd hk (Nat.not_lt_zero _), fun k hk => absurd hk (Nat.not_lt_zero _), fun k hk => absurd hk (Nat.not_lt_zero _)⟩
    rw [Nat.zero_add, Array.length_toList] at e4 e5 e6 hch
    refine wp_region_any hE.mixed ?_
    have hb : Below N0 w { w with drawn := w.drawn + 1 } := ⟨rfl, rfl, rfl, Nat.le_refl _, fun _ _ => rfl⟩
    refine sim_draw (w0 := { w with drawn := w.drawn + 1 }) (β0 := β) hE hX hR hc hr hs hch (by rw [e3, e6]; exact hf) hg ?_ ops.size _ a _ (by simp) ⟨β, tm, s1.h, ht, hI.world rfl, ?_, ?_, fun _ _ h => h,
      fun b L h h0 => (by rw [h] at h0; cases h0), Below.refl _ _, fun j o hj => ?_, by simp⟩
    · intro β' a' w' hts hinv hext hbel
      rw [e4] at hts
      refine hQ β' w' a' hts ⟨by rw [e3, e6] at hext; exact hext, hinv.congr fun b => by rw [e5], hb.trans hbel⟩
    · intro x
      refine .inr ⟨fun k hk => ?_, by show tm.get x = (T 0).get x; rw [e1]⟩
      exfalso
      rcases Nat.lt_or_ge k ops.size with hlt | hge
      · simp [hlt] at hk
      · simp [Nat.not_lt.2 hge] at hk
    · intro x
      refine .inr ⟨fun k hk => ?_, by show s1.h.get x = (H 0).h.get x; rw [e2]⟩
      exfalso
      rcases Nat.lt_or_ge k ops.size with hlt | hge
      · simp [hlt] at hk
      · simp [Nat.not_lt.2 hge] at hk
    · exfalso
      rcases Nat.lt_or_ge j ops.size with hlt | hge
      · simp [hlt] at hj
      · simp [Nat.not_lt.2 hge] at hj

end
end
end Go.Ideal
