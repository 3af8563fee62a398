/- The ideal machine's operations on bare values: addresses of fields and elements, slices, parts, built structs. -/
import Derived.Test.YtdkofgkmhgmmmaaGreatDoorSimB
namespace Go.Ideal
set_option linter.all false
set_option linter.unusedSimpArgs false
set_option linter.unusedVariables false
noncomputable section
open Go Go.RowKit
set_option maxHeartbeats 1000000

theorem bl_size (s : ByteArray) : (bl s).length = s.size := by simp [bl]

section
variable {P : Program} {E : Env} {β : Bij} {w : World}

theorem fieldsOf_nth : ∀ {l : List Field} {fs : List (Nat × Nat)} {i o sz : Nat}, fieldsOf P l = some fs → nth fs i = some (o, sz) →
    ∃ f info, l[i]? = some f ∧ P.info? f.type = some info ∧ f.offset = o ∧ info.size = sz := by
  intro l
  induction l with
  | nil => intro fs i o sz h h'; simp only [fieldsOf] at h; cases h; simp [nth] at h'
  | cons f r ih =>
    intro fs i o sz h h'
    simp only [fieldsOf] at h
    cases hi : P.info? f.type with
    | none => rw [hi] at h; cases h
    | some info =>
      rw [hi] at h; simp only at h
      cases hr : fieldsOf P r with
      | none => rw [hr] at h; cases h
      | some l' =>
        rw [hr] at h; cases h
        cases i with
        | zero => simp only [nth] at h'; cases h'; exact ⟨f, info, rfl, hi, rfl, rfl⟩
        | succ i => simp only [nth] at h'; obtain ⟨g, q, a, b⟩ := ih hr h'; exact ⟨g, q, by simpa using a, b⟩

theorem sim_nilCheck {a a' v : Value} (h : nilCheckV a = some v) (ha : V β a a') (ρ : Operand → Value) (x : Operand) (hx : ρ x = a')
    (dst : Option Tmp) (ty : TypeId) (pos : String) (after : Array Edge) (guard : Option (Nat × Bool)) :
    ∃ v', (execOp ρ ⟨dst, .nilCheck x, ty, pos, after, guard⟩).run P w = .ok (.value v') w ∧ V β v v' := by
  unfold nilCheckV at h
  split at h <;> first | (cases h; done) | skip
  · cases ha with
    | ptr hb => cases h; exact ⟨_, by simp only [execOp, hx]; rfl, .ptr hb⟩
  · cases ha with
    | func fn h1 h2 => cases h; exact ⟨_, by simp only [execOp, hx]; rfl, .func _ h1 h2⟩
  · cases ha with
    | iface t h1 => cases h; exact ⟨_, by simp only [execOp, hx]; rfl, .iface _ h1⟩

theorem sim_fieldAddr (hE : EnvOK P E) {t : TypeId} {f : Nat} {a a' v : Value} (h : fieldAddrV E t a f = some v) (ha : V β a a') :
    ∃ v', (Instr.fieldAt t a' f).run P w = .ok v' w ∧ V β v v' := by
  unfold fieldAddrV at h
  split at h
  · rename_i i b off hi
    cases ha with
    | ptr hb =>
    have hti := hE.ti _ _ hi
    have hu := hti.under
    split at h
    · rename_i fields hd
      split at h
      · rename_i o sz hn
        cases hz : Nat.beq sz 0 with
        | true => rw [hz] at h; cases h
        | false =>
          rw [hz] at h; cases h
          obtain ⟨g, info, h1, h2, h3, h4⟩ := fieldsOf_nth (hti.fs _ hd) hn
          rw [hd] at hu
          have h1' : fields[f]? = some g := by rw [← Array.getElem?_toList]; exact h1
          have hsz : info.size ≠ 0 := fun e => by rw [← h4, e] at hz; simp at hz
          simp only [Instr.fieldAt, Sem.run_bind, rU hu, Result.andThen_ok, h1', Instr.sureAddr, Sem.run_pure, fieldPlace, sizeOf, typeInfo, run_program, h2, hsz, if_false]
          refine ⟨_, rfl, ?_⟩
          rw [add_at, ← h3, Nat.add_assoc]
          exact .ptr hb
      · cases h
    · cases h
  · cases h

theorem sim_field (hE : EnvOK P E) {t : TypeId} {f : Nat} {a a' v : Value} (h : fieldV E t a f = some v) (ha : V β a a') :
    ∃ v', (Instr.field t a' f).run P w = .ok v' w ∧ V β v v' := by
  unfold fieldV at h
  split at h
  · rename_i i cs hi
    cases ha with
    | agg ha =>
    have hu := (hE.ti _ _ hi).under
    split at h
    · rename_i fields hd
      rw [hd] at hu
      split at h
      · rename_i fd hf
        split at h
        · rename_i j hj
          obtain ⟨v', r, hv⟩ := sim_part (w := w) (hE.ti _ _ hj) h ha
          refine ⟨v', ?_, hv⟩
          simp only [Instr.field, Sem.run_bind, rU hu, Result.andThen_ok, hf, asAgg, Sem.run_pure, r]
        · cases h
      · cases h
    · cases h
  · cases h

theorem sim_indexAddr (hE : EnvOK P E) {t : TypeId} {a a' x x' v : Value} (h : indexAddrV E t a x = some v) (ha : V β a a') (hx : V β x x') :
    ∃ v', (Instr.indexAt t a' x').run P w = .ok v' w ∧ V β v v' := by
  unfold indexAddrV at h
  split at h
  · rename_i i k n hi
    cases hx
    have hu := (hE.ti _ _ hi).under
    split at h
    · rename_i len e b off hd
      cases ha with
      | ptr hb =>
      rw [hd] at hu
      split at h
      · rename_i j hj
        cases hn : Nat.blt n len with
        | false => rw [hn] at h; cases h
        | true =>
          rw [hn] at h; cases h
          have hlt := blt_iff.1 hn
          have hc : (0 : Int) ≤ Int.ofNat n ∧ Int.ofNat n < (len : Int) := ⟨Int.natCast_nonneg n, by simpa using hlt⟩
          simp only [Instr.indexAt, asIntOf, Sem.run_bind, Sem.run_pure, Result.andThen_ok, rU hu, Instr.sureAddr, if_pos hc, rS (hE.ti _ _ hj)]
          refine ⟨_, rfl, ?_⟩
          rw [add_at, Nat.add_assoc]
          exact .ptr hb
      · cases h
    · rename_i e b off len c hd
      rw [hd] at hu
      split at h
      · rename_i j hj
        cases hn : Nat.blt n len with
        | false => rw [hn] at h; cases h
        | true =>
          rw [hn] at h; cases h
          have hlt := blt_iff.1 hn
          have hc : (0 : Int) ≤ Int.ofNat n ∧ Int.ofNat n < (len : Int) := ⟨Int.natCast_nonneg n, by simpa using hlt⟩
          cases ha with
          | slz A A' _ _ => omega
          | sl0 A A' => omega
          | sl hb hcap =>
          simp only [Instr.indexAt, asIntOf, Sem.run_bind, Sem.run_pure, Result.andThen_ok, rU hu, if_pos hc, rS (hE.ti _ _ hj)]
          refine ⟨_, rfl, ?_⟩
          rw [add_at, Nat.add_assoc]
          exact .ptr hb
      · cases h
    · cases h
  · cases h

theorem sim_index (hE : EnvOK P E) {t : TypeId} {a a' x x' v : Value} (h : indexV E t a x = some v) (ha : V β a a') (hx : V β x x') :
    ∃ v', (Instr.index t a' x').run P w = .ok v' w ∧ V β v v' := by
  unfold indexV at h
  split at h
  · rename_i i k n hi
    cases hx
    have hu := (hE.ti _ _ hi).under
    split at h
    · rename_i len e cs hd
      cases ha with
      | agg ha =>
      rw [hd] at hu
      split at h
      · rename_i j hj
        cases hn : Nat.blt n len with
        | false => rw [hn] at h; cases h
        | true =>
          rw [hn] at h; simp only [cond_true] at h
          have hlt := blt_iff.1 hn
          have hc : (0 : Int) ≤ Int.ofNat n ∧ Int.ofNat n < (len : Int) := ⟨Int.natCast_nonneg n, by simpa using hlt⟩
          obtain ⟨v', r, hv⟩ := sim_part (w := w) (hE.ti _ _ hj) h ha
          refine ⟨v', ?_, hv⟩
          simp only [Instr.index, asIntOf, Sem.run_bind, Sem.run_pure, Result.andThen_ok, rU hu, if_pos hc, rS (hE.ti _ _ hj)]
          exact r
      · cases h
    · rename_i s hd
      cases ha
      rw [hd] at hu
      split at h
      · rename_i b hb
        cases h
        rw [nth_eq] at hb
        have hlt : n < s.size := by
          rcases Nat.lt_or_ge n s.size with h | h
          · exact h
          · rw [List.getElem?_eq_none (by rw [bl_size]; exact h)] at hb; cases hb
        have hg : s[n]? = some b := by
          rw [getElem?_pos s n hlt]
          have hb' : s.data[n]? = some b := by rw [← Array.getElem?_toList]; exact hb
          have hlt' : n < s.data.size := hlt
          rw [Array.getElem?_eq_getElem hlt'] at hb'
          exact hb'
        refine ⟨.int .u8 b.toNat, ?_, .int _ _⟩
        have h0 : (0 : Int) ≤ Int.ofNat n := Int.natCast_nonneg n
        simp only [Instr.index, asIntOf, Sem.run_bind, Sem.run_pure, Result.andThen_ok, rU hu, if_pos h0]
        have hn : (Int.ofNat n).toNat = n := rfl
        rw [hn, hg]; rfl
      · cases h
    · cases h
  · cases h

theorem sim_extract {a a' v : Value} {n : Nat} (h : extractV a n = some v) (ha : V β a a') : ∃ v', (Instr.extract a' n).run P w = .ok v' w ∧ V β v v' := by
  unfold extractV at h
  split at h
  · cases ha with
    | tuple ha =>
    rw [nth_eq] at h
    obtain ⟨v', x, y⟩ := ha.get h
    rw [Array.getElem?_toList] at x
    exact ⟨v', by simp [Instr.extract, x], y⟩
  · cases h

theorem sim_mkIface (hE : EnvOK P E) {t : TypeId} {a a' v : Value} (h : mkIface E t a = some v) (ha : V β a a') : ∃ v', (Instr.makeInterface t a').run P w = .ok v' w ∧ V β v v' := by
  unfold mkIface at h
  split at h
  · rename_i i hi
    have hu := (hE.ti _ _ hi).under
    split at h
    · cases h
    · rename_i hne
      cases h
      refine ⟨.iface t a', ?_, .iface _ ha⟩
      simp only [Instr.makeInterface, Sem.run_bind, rU hu, Result.andThen_ok]
      rfl
  · cases h

theorem sim_typeAssert (hE : EnvOK P E) {t xt : TypeId} {ok : Bool} {a a' v : Value} (h : typeAssertV E a t ok = some v) (ha : V β a a') :
    ∃ v', (Instr.typeAssert a' xt t ok).run P w = .ok v' w ∧ V β v v' := by
  unfold typeAssertV at h
  split at h
  · rename_i i u x hi
    cases ha with
    | iface _ hx =>
    have hti := hE.ti _ _ hi
    have hu := hti.under
    split at h
    · cases h
    · rename_i hne
      cases hb : Nat.beq u t with
      | true =>
        rw [hb] at h; cases h
        have := Nat.eq_of_beq_eq_true hb; subst this
        cases ok with
        | true =>
          refine ⟨.tuple #[_, .bool true], ?_, .tuple (.cons hx (.cons (.bool _) .nil))⟩
          simp only [Instr.typeAssert, Sem.run_bind, rU hu, Result.andThen_ok]
          split <;> simp_all
        | false =>
          refine ⟨_, ?_, hx⟩
          simp only [Instr.typeAssert, Sem.run_bind, rU hu, Result.andThen_ok]
          split <;> simp_all
      | false =>
        rw [hb] at h; simp only [cond_false] at h
        cases ok with
        | false => cases h
        | true =>
          cases h
          have hne' : u ≠ t := fun e => by subst e; simp at hb
          refine ⟨.tuple #[i.zero, .bool false], ?_, .tuple (.cons (V.zero hti β) (.cons (.bool _) .nil))⟩
          simp only [Instr.typeAssert, Sem.run_bind, rU hu, Result.andThen_ok]
          split <;> simp_all [rZ hti]
  · cases h

end
end
end Go.Ideal
