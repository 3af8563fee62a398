/- The ideal machine's operations: '==' where pointers are asked, operators. -/
import Derived.Test.YtdkofgkmhgmmmaaGreatDoorSimG
namespace Go.Ideal
set_option linter.all false
set_option linter.unusedSimpArgs false
set_option linter.unusedVariables false
noncomputable section
open Go Go.RowKit
set_option maxHeartbeats 1000000

section
variable {P : Program} {E : Env} {N0 : Nat → Prop} {β : Bij} {w : World} {s s' : S}

theorem noIface_guard (hE : EnvOK P E) : ∀ (d D : Nat), d ≤ D → ∀ t, noIface E d t = true → P.eqGuardType D t = false := by
  intro d
  induction d with
  | zero => intro D _ t h; simp [noIface] at h
  | succ d ih =>
    intro D hD t h
    obtain ⟨D, rfl⟩ : ∃ n, D = n + 1 := ⟨D - 1, by omega⟩
    simp only [noIface] at h
    cases hi : E.ti t with
    | none => rw [hi] at h; cases h
    | some i =>
      rw [hi] at h; simp only at h
      have hu := (hE.ti _ _ hi).under
      unfold Program.eqGuardType
      rw [hu]
      cases hd : i.desc with
      | interface ms => rw [hd] at h; cases h
      | struct fs =>
        rw [hd] at h; simp only at h ⊢
        rw [← Array.any_toList]
        rw [List.any_eq_false]
        intro f hf
        have := List.all_eq_true.1 h f hf
        simp [ih D (by omega) _ this]
      | array n e => rw [hd] at h; simp only at h ⊢; exact ih D (by omega) _ h
      | _ => rfl

theorem run_sameAddr {r1 r2 o1 o2 : Nat} {c1 c2 : Array Value} {e1 e2 : TypeId} (h1 : w.heap[r1]? = some (.cells c1 e1 (0, 0))) (h2 : w.heap[r2]? = some (.cells c2 e2 (0, 0))) :
    (sameAddr ⟨r1, o1, none⟩ ⟨r2, o2, none⟩).run P w = .ok (decide (r1 = r2 ∧ o1 = o2)) w := by
  unfold sameAddr
  by_cases hr : r1 = r2
  · subst hr
    simp only [beq_self_eq_true, if_true, Sem.run_pure]
    congr 1
    by_cases ho : o1 = o2
    · subst ho; simp
    · simp [ho]
  · have hb : ((r1 == r2) = false) := by simpa using hr
    have f1 : ∀ o, w.frozen? ⟨r1, o, none⟩ = false := fun o => by rw [frozen_at h1]; simp
    have f2 : ∀ o, w.frozen? ⟨r2, o, none⟩ = false := fun o => by rw [frozen_at h2]; simp
    have s1 : w.shape? r1 = some (e1, c1.size) := by simp [World.shape?, h1]
    have s2 : w.shape? r2 = some (e2, c2.size) := by simp [World.shape?, h2]
    simp [hb, f1, f2, noView, viewAt, s1, s2, mayBeOne, stringish, hr]

theorem V.bothNil {a a' b b' : Value} (ha : V β a a') (hb : V β b b') : Ideal.bothNil a' b' = Ideal.bothNil a b := by
  cases ha <;> first | rfl | (cases hb <;> rfl)

theorem eqGuard_run {op : BinOp} {t : TypeId} {x y : Operand} {a b : Value} (h1 : Ideal.bothNil a b = false) (h2 : isAggV a = true → P.eqGuardType P.depth t = false) :
    (eqGuard op t x y a b).run P w = .ok () w := by
  cases op <;> first
    | rfl
    | (simp only [eqGuard, Bool.not_true, Bool.false_eq_true, if_false]
       split
       · simp [Ideal.bothNil] at h1
       · have h3 := h2 rfl
         simp [h3]
       · simp)

theorem sim_eqM (hE : EnvOK P E) (hI : Inv N0 β s.h.get w) {t : TypeId} {xc yc : Operand} {a a' b b' : Value} {r : Bool} (h : eqM E t (isConst xc) (isConst yc) a b s = some (r, s')) (ha : V β a a') (hb : V β b b') :
    (Op.equal t a' b').run P w = .ok r w ∧ s'.h = s.h ∧ s'.nx = s.nx ∧ (∀ op, (eqGuard op t xc yc a' b').run P w = .ok () w) := by
  unfold eqM at h
  cases hi : E.ti t with
  | none => rw [hi] at h; exact (fail_some.1 h).elim
  | some i =>
  rw [hi] at h; simp only at h
  have hu := (hE.ti _ _ hi).under
  obtain ⟨m, hm, h⟩ : ∃ m : M Bool, m = _ ∧ m s = some (r, s') := ⟨_, rfl, h⟩
  have hdep : 12 ≤ P.depth := by unfold Program.depth Made.depth; omega
  split at hm
  · rename_i e b1 o1 b2 o2 hd
    subst hm
    rw [hd] at hu
    cases ha with
    | ptr hL1 =>
    cases hb with
    | ptr hL2 =>
    rename_i L1 L2
    cases he : E.ti e with
    | none => rw [he] at h; exact (fail_some.1 h).elim
    | some j =>
      rw [he] at h; simp only at h
      obtain ⟨_, s1, h1, h2⟩ := bind_some.1 h
      obtain ⟨hsz, rfl⟩ := guardM_some.1 h1
      have hsz := blt_iff.1 hsz
      obtain ⟨x1, s2, h3, h4⟩ := bind_some.1 h2
      obtain ⟨hb1, hg1, rfl⟩ := rd_some.1 h3
      obtain ⟨x2, s3, h5, h6⟩ := bind_some.1 h4
      obtain ⟨hb2, hg2, rfl⟩ := rd_some.1 h5
      cases x1 with
      | cells xs1 e1 k1 =>
        cases k1 with
        | var =>
          cases x2 with
          | cells xs2 e2 k2 =>
            cases k2 with
            | var =>
              obtain ⟨rfl, rfl⟩ := pure_some.1 h6
              obtain ⟨c1, z1, p1, _, _, _, p5⟩ := hI.cells hg1 hL1
              obtain ⟨c2, z2, q1, _, _, _, q5⟩ := hI.cells hg2 hL2
              obtain ⟨rfl, -⟩ := p5
              obtain ⟨rfl, -⟩ := q5
              refine ⟨?_, rfl, rfl, fun op => eqGuard_run rfl (fun h => by cases h)⟩
              have hne : j.size ≠ 0 := by omega
              show (Op.equalIn (9999 + 1) t _ _).run P w = _
              generalize 9999 = D
              simp only [Op.equalIn, Sem.run_bind, rU hu, Result.andThen_ok, rS (hE.ti _ _ he), hne, ne_eq, not_false_eq_true, if_true]
              rw [run_sameAddr p1 q1]
              congr 1
              by_cases hbb : b1 = b2
              · subst hbb
                rw [hL1] at hL2; cases hL2
                by_cases hoo : o1 = o2
                · subst hoo; simp
                · rw [beq_ff hoo]; simp; omega
              · rw [beq_ff hbb]
                have : L1.r ≠ L2.r := by
                  intro e
                  have := hI.alone b1 b2 _ _ L1 L2 hbb hg1 hg2 rfl rfl hL1 hL2 e
                  simp [Blk.isRo] at this
                simp [this]
            | _ => exact (fail_some.1 h6).elim
          | _ => exact (fail_some.1 h6).elim
        | _ => exact (fail_some.1 h6).elim
      | _ => exact (fail_some.1 h6).elim
  · rename_i ms hd
    subst hm
    rw [hd] at hu
    cases ha; cases hb
    cases hc : (isConst xc || isConst yc) with
    | false => rw [hc] at h; simp only [cond_false] at h; exact (fail_some.1 h).elim
    | true =>
      rw [hc] at h
      obtain ⟨rfl, rfl⟩ := pure_some.1 h
      refine ⟨?_, rfl, rfl, ?_⟩
      · show (Op.equalIn (9999 + 1) t _ _).run P w = _
        generalize 9999 = D
        simp [Op.equalIn, rU hu]
      · intro op
        cases op <;> first | rfl | skip
        all_goals (cases xc <;> cases yc <;> simp [isConst] at hc <;> simp [eqGuard])
  · subst hm
    obtain ⟨_, s1, h1, h2⟩ := bind_some.1 h
    obtain ⟨hg, rfl⟩ := guardM_some.1 h1
    obtain ⟨hq, rfl⟩ := liftO_some.1 h2
    simp only [Bool.and_eq_true, Bool.not_eq_true', Bool.or_eq_true] at hg
    refine ⟨sim_eqD hE 12 10000 (by omega) t _ _ a' b' r hq ha hb, rfl, rfl, fun op => eqGuard_run (by rw [ha.bothNil hb]; exact hg.2) (fun hagg => ?_)⟩
    rcases hg.1 with hg1 | hg1
    · cases ha <;> first | (simp [isAggV] at hagg; done) | (simp [isAggV] at hg1)
    · exact noIface_guard hE 12 P.depth hdep t hg1

theorem binOp_eql {op : BinOp} {t : TypeId} {a b : Value} (hop : op = .eql ∨ op = .neq) (ha : otherV a = true) :
    binOp op t a b = Op.equal t a b >>= fun r => pure (.bool (if op = .eql then r else !r)) := by
  rcases hop with rfl | rfl
  all_goals
    cases a <;> first | (simp [otherV] at ha; done) | (cases b <;> rfl)

theorem V.other {a a' : Value} (ha : V β a a') : otherV a' = otherV a := by cases ha <;> rfl

theorem sim_binM (hE : EnvOK P E) (hI : Inv N0 β s.h.get w) {op : BinOp} {t : TypeId} {x y : Operand} {a a' b b' v : Value} (h : binM E op t (isConst x) (isConst y) a b s = some (v, s'))
    (ha : V β a a') (hb : V β b b') :
    ∃ v', (do eqGuard op t x y a' b'; binOp op t a' b' : Sem Value).run P w = .ok v' w ∧ V β v v' ∧ s'.h = s.h ∧ s'.nx = s.nx := by
  unfold binM at h
  obtain ⟨m, hm, h⟩ : ∃ m : M Value, m = _ ∧ m s = some (v, s') := ⟨_, rfl, h⟩
  split at hm
  · rename_i k i k' j
    subst hm
    cases ha; cases hb
    have hg : (eqGuard op t x y (.int k i) (.int k' j)).run P w = .ok () w := eqGuard_run rfl (fun h => by cases h)
    cases hs : isShift op with
    | true =>
      rw [hs] at h
      obtain ⟨hv, rfl⟩ := liftO_some.1 h
      have := sim_shiftOp (P := P) (w := w) (k' := k') hv t
      refine ⟨v, by rw [Sem.run_bind, hg]; exact this, ?_, rfl, rfl⟩
      unfold shiftOp at hv
      split at hv
      · cases hv
      · simp only at hv
        split at hv <;> cases hv <;> exact .int _ _
    | false =>
      rw [hs] at h; simp only [cond_false] at h
      cases hk : sameK k k' with
      | false => rw [hk] at h; simp only [cond_false] at h; exact (fail_some.1 h).elim
      | true =>
        rw [hk] at h
        obtain ⟨hv, rfl⟩ := liftO_some.1 h
        have := sameK_iff.1 hk; subst this
        have := sim_intOp (P := P) (w := w) hv hs t
        refine ⟨v, by rw [Sem.run_bind, hg]; exact this, ?_, rfl, rfl⟩
        unfold intOp at hv
        split at hv <;> first | (cases hv; done) | (cases hv; exact .int _ _) | (cases hv; exact .bool _) | (split at hv <;> cases hv; exact .int _ _) | (simp only [cond_eq_ite] at hv; split at hv <;> first | (cases hv; done) | (split at hv <;> (cases hv; exact .int _ _)))
  · rename_i p q
    subst hm
    cases ha; cases hb
    have hg : (eqGuard op t x y (.string p) (.string q)).run P w = .ok () w := eqGuard_run rfl (fun h => by cases h)
    obtain ⟨hv, rfl⟩ := liftO_some.1 h
    have := sim_strOp (P := P) (w := w) hv t
    refine ⟨v, by rw [Sem.run_bind, hg]; exact this, ?_, rfl, rfl⟩
    unfold strOp at hv
    split at hv <;> first | (cases hv; done) | (cases hv; exact .bool _) | skip
    cases hc : Nat.blt ((bl p).length + (bl q).length) UNK with
    | false => rw [hc] at hv; cases hv
    | true => rw [hc] at hv; cases hv; exact .string _
  · subst hm
    cases ho : otherV a with
    | false => rw [ho] at h; simp only [cond_false] at h; exact (fail_some.1 h).elim
    | true =>
      rw [ho] at h; simp only [cond_true] at h
      have ho' : otherV a' = true := by rw [ha.other]; exact ho
      obtain ⟨m, hm, h⟩ : ∃ m : M Value, m = _ ∧ m s = some (v, s') := ⟨_, rfl, h⟩
      split at hm
      · subst hm
        obtain ⟨r, s1, h1, h2⟩ := bind_some.1 h
        obtain ⟨rfl, rfl⟩ := pure_some.1 h2
        obtain ⟨q1, q2, q3, q4⟩ := sim_eqM (P := P) hE hI h1 ha hb
        refine ⟨.bool r, ?_, .bool _, q2, q3⟩
        rw [Sem.run_bind, q4, binOp_eql (.inl rfl) ho']
        simp [q1]
      · subst hm
        obtain ⟨r, s1, h1, h2⟩ := bind_some.1 h
        obtain ⟨rfl, rfl⟩ := pure_some.1 h2
        obtain ⟨q1, q2, q3, q4⟩ := sim_eqM (P := P) hE hI h1 ha hb
        refine ⟨.bool (!r), ?_, .bool _, q2, q3⟩
        rw [Sem.run_bind, q4, binOp_eql (.inr rfl) ho']
        simp [q1]
      · subst hm; exact (fail_some.1 h).elim

end
end
end Go.Ideal
