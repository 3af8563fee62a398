/- The ideal machine's operations on bare values: parts of structs and arrays, '==', addresses, slices. -/
import Derived.Test.YtdkofgkmhgmmmaaGreatDoorSimA
import Derived.Laws.StructEq
import Derived.ChangeKeysEq
namespace Go.Ideal
set_option linter.all false
set_option linter.unusedSimpArgs false
set_option linter.unusedVariables false
noncomputable section
open Go Go.RowKit
set_option maxHeartbeats 1000000

section
variable {P : Program} {E : Env} {β : Bij} {w : World}

theorem sim_part {t : TypeId} {j : TI} (hj : TIOK P t j) {xs : List Value} {cs : Array Value} {off : Nat} {v : Value} (h : takeV j xs off = some v)
    (hx : VL β xs cs.toList) : ∃ v', (part t cs off).run P w = .ok v' w ∧ V β v v' := by
  unfold takeV at h
  simp only [part, Sem.run_bind, rA hj.under, Result.andThen_ok]
  cases hd : isAggD j.desc with
  | true =>
    rw [hd] at h
    simp only [cond_true] at h
    cases hb : Nat.beq ((xs.drop off).take j.size).length j.size with
    | false => rw [hb] at h; cases h
    | true =>
      rw [hb] at h; cases h
      simp only [if_true, Sem.run_bind, rS hj, Result.andThen_ok, Sem.run_pure]
      refine ⟨_, rfl, .agg ?_⟩
      have hl := Nat.eq_of_beq_eq_true hb
      have := (hx.drop off).take j.size
      rw [Array.toList_extract, List.extract_eq_take_drop, show off + j.size - off = j.size by omega]
      exact this
  | false =>
    rw [hd] at h
    simp only [cond_false, nth_eq] at h
    obtain ⟨v', a, b⟩ := hx.get h
    rw [Array.getElem?_toList] at a
    simp only [Bool.false_eq_true, if_false, a, Sem.run_pure]
    exact ⟨v', rfl, b⟩

theorem bl_beq (a b : ByteArray) : (a == b) = bytesEq (bl a) (bl b) := by
  rw [beq_toListBytes, toList_eq, toList_eq, bytesEq_iff]

theorem sim_eqFields (hE : EnvOK P E) {d D : Nat} (ih : ∀ (t : TypeId) (a b a' b' : Value) (r : Bool), eqD E d t a b = some r → V β a a' → V β b b' → (Op.equalIn D t a' b').run P w = .ok r w)
    {xs ys : List Value} {xs' ys' : Array Value} (hx : VL β xs xs'.toList) (hy : VL β ys ys'.toList) :
    ∀ (l : List Field) (r : Bool), (l.all fun f => f.name != "_") = true → Ideal.eqFields E (eqD E d) l xs ys = some r → (Op.eqFields D xs' ys' l).run P w = .ok r w := by
  intro l
  induction l with
  | nil => intro r _ h; simp only [Ideal.eqFields] at h; cases h; simp [Op.eqFields]
  | cons f l ihl =>
    intro r hn h
    simp only [List.all_cons, Bool.and_eq_true, bne_iff_ne, ne_eq] at hn
    simp only [Ideal.eqFields] at h
    cases hj : E.ti f.type with
    | none => rw [hj] at h; cases h
    | some j =>
      rw [hj] at h; simp only at h
      cases ha : takeV j xs f.offset with
      | none => rw [ha] at h; cases h
      | some a =>
        cases hb : takeV j ys f.offset with
        | none => rw [ha, hb] at h; cases h
        | some b =>
          rw [ha, hb] at h; simp only at h
          obtain ⟨a', ra, va⟩ := sim_part (w := w) (hE.ti _ _ hj) ha hx
          obtain ⟨b', rb, vb⟩ := sim_part (w := w) (hE.ti _ _ hj) hb hy
          simp only [Op.eqFields, ne_eq, hn.1, not_false_eq_true, if_true, Sem.run_bind, ra, rb, Result.andThen_ok]
          cases he : eqD E d f.type a b with
          | none => rw [he] at h; cases h
          | some q =>
            rw [ih _ _ _ _ _ _ he va vb]
            rw [he] at h
            cases q with
            | true => simp only [Result.andThen_ok, Bool.not_true, Bool.false_eq_true, if_false]; exact ihl r hn.2 h
            | false => cases h; simp

theorem sim_eqElems (hE : EnvOK P E) {d D : Nat} {e : TypeId} {j : TI} (hj : E.ti e = some j)
    (ih : ∀ (t : TypeId) (a b a' b' : Value) (r : Bool), eqD E d t a b = some r → V β a a' → V β b b' → (Op.equalIn D t a' b').run P w = .ok r w)
    {xs ys : List Value} {xs' ys' : Array Value} (hx : VL β xs xs'.toList) (hy : VL β ys ys'.toList) :
    ∀ (k i : Nat) (r : Bool), eqElems j (eqD E d e) k i xs ys = some r → (Op.eqItems D e j.size xs' ys' (List.range' i k)).run P w = .ok r w := by
  intro k
  induction k with
  | zero => intro i r h; simp only [eqElems] at h; cases h; simp [Op.eqItems]
  | succ k ihk =>
    intro i r h
    simp only [eqElems] at h
    cases ha : takeV j xs (i * j.size) with
    | none => rw [ha] at h; cases h
    | some a =>
      cases hb : takeV j ys (i * j.size) with
      | none => rw [ha, hb] at h; cases h
      | some b =>
        rw [ha, hb] at h; simp only at h
        obtain ⟨a', ra, va⟩ := sim_part (w := w) (hE.ti _ _ hj) ha hx
        obtain ⟨b', rb, vb⟩ := sim_part (w := w) (hE.ti _ _ hj) hb hy
        simp only [List.range'_succ, Op.eqItems, Sem.run_bind, ra, rb, Result.andThen_ok]
        cases he : eqD E d e a b with
        | none => rw [he] at h; cases h
        | some q =>
          rw [ih _ _ _ _ _ _ he va vb]
          rw [he] at h
          cases q with
          | true =>
            simp only [Result.andThen_ok, Bool.not_true, Bool.false_eq_true, if_false]
            exact ihk (i + 1) r h
          | false => cases h; simp

theorem sim_eqD (hE : EnvOK P E) : ∀ (d D : Nat), d ≤ D → ∀ (t : TypeId) (a b a' b' : Value) (r : Bool), eqD E d t a b = some r → V β a a' → V β b b' →
    (Op.equalIn D t a' b').run P w = .ok r w := by
  intro d
  induction d with
  | zero => intro D _ t a b a' b' r h; simp [eqD] at h
  | succ d ih =>
    intro D hD t a b a' b' r h ha hb
    obtain ⟨D, rfl⟩ : ∃ n, D = n + 1 := ⟨D - 1, by omega⟩
    simp only [eqD] at h
    cases hi : E.ti t with
    | none => rw [hi] at h; cases h
    | some i =>
      rw [hi] at h; simp only at h
      have hti := hE.ti _ _ hi
      have hu := hti.under
      split at h
      · rename_i x y hdesc; cases ha; cases hb; cases h
        rw [hdesc] at hu; simp [Op.equalIn, run_underlying hu]
      · rename_i k x k' y hdesc; cases ha; cases hb
        cases hk : sameK k k' with
        | false => rw [hk] at h; cases h
        | true =>
          rw [hk] at h; cases h
          have := sameK_iff.1 hk; subst this
          rw [hdesc] at hu; simp [Op.equalIn, run_underlying hu]; exact Bool.beq_eq_decide_eq _ _
      · rename_i x y hdesc; cases ha; cases hb; cases h
        rw [hdesc] at hu; simp [Op.equalIn, run_underlying hu, bl_beq]
      · rename_i x y hdesc; cases ha; cases hb <;> cases h <;>
        · rw [hdesc] at hu; simp [Op.equalIn, run_underlying hu]
      · rename_i x y hdesc; cases ha; cases hb; cases h
        rw [hdesc] at hu; simp [Op.equalIn, run_underlying hu]
      · rename_i x y hdesc; cases ha; cases hb <;> cases h <;>
        · rw [hdesc] at hu; simp [Op.equalIn, run_underlying hu]
      · rename_i x y hdesc; cases hb; cases ha <;> cases h <;>
        · rw [hdesc] at hu; simp [Op.equalIn, run_underlying hu]
      · rename_i x y hdesc; cases ha; cases hb <;> cases h <;>
        · rw [hdesc] at hu; simp [Op.equalIn, run_underlying hu]
      · rename_i x y hdesc; cases ha; cases hb; cases h
        rw [hdesc] at hu; simp [Op.equalIn, run_underlying hu]
      · rename_i x y hdesc; cases ha; cases hb; cases h
        rw [hdesc] at hu; simp [Op.equalIn, run_underlying hu]
      · rename_i x y hdesc; cases ha; cases hb; cases h
        rw [hdesc] at hu; simp [Op.equalIn, run_underlying hu]
      · rename_i x y hdesc; cases ha; cases hb; cases h
        rw [hdesc] at hu; simp [Op.equalIn, run_underlying hu]
      · rename_i x y hdesc; cases ha; cases hb; cases h
        rw [hdesc] at hu; simp [Op.equalIn, run_underlying hu]
      · rename_i x y hdesc; cases ha; cases hb; cases h
        rw [hdesc] at hu; simp [Op.equalIn, run_underlying hu]
      · rename_i fields x y hdesc
        cases ha with
        | agg ha =>
        cases hb with
        | agg hb =>
        cases hq : i.eq with
        | false => rw [hq] at h; cases h
        | true =>
          rw [hq] at h; simp only [cond_true] at h
          have he := hti.eq hq
          rw [hdesc] at hu he
          simp only [eqOK, Bool.and_eq_true, Bool.not_eq_true'] at he
          have hfl : P.fieldsOf t = fields := by simp [Program.fieldsOf, hu]
          rw [run_equalIn_struct w D t _ _ (by rw [hfl]; exact hu) he.1, hfl]
          exact sim_eqFields hE (ih D (by omega)) ha hb _ _ he.2 h
      · rename_i n e x y hdesc
        cases ha with
        | agg ha =>
        cases hb with
        | agg hb =>
        cases hj : E.ti e with
        | none => rw [hj] at h; cases h
        | some j =>
          rw [hj] at h; simp only at h
          rw [hdesc] at hu
          have key := sim_eqElems hE hj (ih D (by omega)) ha hb n 0 r h
          obtain ⟨f, hf, hs, _, _⟩ := (hE.ti _ _ hj).info
          have hc : P.cellsOf e = j.size := by simp [Program.cellsOf, hf, hs]
          rw [run_equalIn_array w D _ _ hu hf, hc, List.range_eq_range']
          exact key
      · cases h

end
end
end Go.Ideal
