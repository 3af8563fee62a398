/- The ideal machine's operations on memory: cells read and written, new blocks. -/
import Derived.Test.YtdkofgkmhgmmmaaGreatDoorSimD
namespace Go.Ideal
set_option linter.all false
set_option linter.unusedSimpArgs false
set_option linter.unusedVariables false
noncomputable section
open Go Go.RowKit
set_option maxHeartbeats 1000000

theorem Inv.cells {N0 : Nat → Prop} {β : Bij} {g : Nat → Option Blk} {w : World} (h : Inv N0 β g w) {b : Nat} {xs : List Value} {e : TypeId} {k : Kd} {L : Loc}
    (hb : g b = some (.cells xs e k)) (hL : β b = some L) :
    ∃ c fz, w.heap[L.r]? = some (.cells c e fz) ∧ c.size = L.tot ∧ L.sh + xs.length ≤ L.tot ∧ CellsAt β c L.sh xs ∧ KOK N0 L fz k := by
  obtain ⟨L', hL', hs⟩ := h.live b _ hb
  rw [hL] at hL'; cases hL'
  exact hs

theorem kok_free {N0 : Nat → Prop} {L : Loc} {fz : Nat × Nat} {k : Kd} (h : KOK N0 L fz k) (hk : k.isRo = false) (i : Nat) (hi : i < L.tot) : ¬ (fz.1 ≤ i ∧ i < fz.2) := by
  have key : fz = (0, 0) ∨ L.tot ≤ fz.1 := by
    cases k with
    | var => exact .inl h.1
    | vst => exact h.1
    | grow => exact .inl h.1
    | str => exact h.1
    | ro => simp [Kd.isRo] at hk
  rcases key with e | e
  · rw [e]; intro h; simp at h
  · omega

section
variable {P : Program} {E : Env} {N0 : Nat → Prop} {β : Bij} {w : World} {s s' : S}

/-- Cells of a block, read as a variable of a type. -/
theorem run_loadVar {t : TypeId} {i : TI} (hi : TIOK P t i) {r sh off : Nat} {c : Array Value} {e : TypeId} {fz : Nat × Nat} {xs : List Value} {v : Value}
    (h : w.heap[r]? = some (.cells c e fz)) (hc : sh + xs.length ≤ c.size) (hx : CellsAt β c sh xs) (hv : takeV i xs off = some v) :
    ∃ v', (loadVar t ⟨r, sh + off, none⟩).run P w = .ok v' w ∧ V β v v' := by
  unfold takeV at hv
  simp only [loadVar, Sem.run_bind, rA hi.under, Result.andThen_ok]
  cases hd : isAggD i.desc with
  | true =>
    rw [hd] at hv; simp only [cond_true] at hv
    cases hb : Nat.beq ((xs.drop off).take i.size).length i.size with
    | false => rw [hb] at hv; cases hv
    | true =>
      rw [hb] at hv; cases hv
      have hl := Nat.eq_of_beq_eq_true hb
      simp only [List.length_take, List.length_drop] at hl
      by_cases h0 : i.size = 0
      · simp only [if_true, Sem.run_bind, rS hi, Result.andThen_ok, h0, loadCells, loadCellsFrom, Sem.run_pure, List.take_zero]
        exact ⟨_, rfl, .agg .nil⟩
      · simp only [if_true, Sem.run_bind, rS hi, Result.andThen_ok, rLoadCells h (show sh + off + i.size ≤ c.size by omega), Sem.run_pure]
        exact ⟨_, rfl, .agg (cells_extract hx (by omega) hc)⟩
  | false =>
    rw [hd] at hv; simp only [cond_false, nth_eq] at hv
    obtain ⟨v', a, b⟩ := hx _ _ hv
    simp only [Bool.false_eq_true, if_false, rLoad h a]
    exact ⟨v', rfl, b⟩

theorem sim_loadM (hE : EnvOK P E) (hI : Inv N0 β s.h.get w) {t : TypeId} {a a' v : Value} (h : loadM E t a s = some (v, s')) (ha : V β a a') :
    ∃ v', (Instr.loadAt t a').run P w = .ok v' w ∧ V β v v' ∧ s'.h = s.h ∧ s'.nx = s.nx := by
  cases hi : E.ti t with
  | none => simp only [loadM, hi] at h; exact (fail_some.1 h).elim
  | some i =>
  cases ha with
  | ptr hL =>
    simp only [loadM, hi] at h
    obtain ⟨o, s1, h1, h2⟩ := bind_some.1 h
    obtain ⟨hb, hg, rfl⟩ := rd_some.1 h1
    cases o with
    | cells xs e k =>
      obtain ⟨hv, rfl⟩ := liftO_some.1 h2
      obtain ⟨c, fz, q1, q2, q3, q4, q5⟩ := hI.cells hg hL
      obtain ⟨v', r, hv'⟩ := run_loadVar (hE.ti _ _ hi) q1 (by omega) q4 hv
      refine ⟨v', ?_, hv', rfl, rfl⟩
      simp only [Instr.loadAt, Sem.run_bind, Instr.sureAddr, Sem.run_pure, Result.andThen_ok, r]
    | _ => exact (fail_some.1 h2).elim
  | _ => simp only [loadM, hi] at h; exact (fail_some.1 h).elim

theorem sim_putCells (hI : Inv N0 β s.h.get w) {b off : Nat} {ys ys' : List Value} {u : Unit} {L : Loc} (h : putCells b off ys s = some (u, s')) (hL : β b = some L) (hy : VL β ys ys') :
    ∃ w', (storeCells ⟨L.r, L.sh + off, none⟩ ys').run P w = .ok () w' ∧ Out N0 β s w s' β w' := by
  unfold putCells at h
  obtain ⟨o, s1, h1, h2⟩ := bind_some.1 h
  obtain ⟨hb, hg, rfl⟩ := rd_some.1 h1
  cases o with
  | cells xs e k =>
    cases hk : k.isRo with
    | true => cases k <;> first | exact (fail_some.1 h2).elim | (simp [Kd.isRo] at hk)
    | false =>
    have h2' : (do guardM (Nat.ble (off + ys.length) xs.length && ys.all one); wr b (.cells (splice xs off ys) e k) : M Unit) ⟨s.h, s.nx, s.r ||| bit b, s.w⟩ = some (u, s') := by
      cases k <;> first | exact h2 | (simp [Kd.isRo] at hk)
    obtain ⟨_, s2, h3, h4⟩ := bind_some.1 h2'
    obtain ⟨hc, rfl⟩ := guardM_some.1 h3
    obtain ⟨_, rfl⟩ := wr_some.1 h4
    simp only [Bool.and_eq_true] at hc
    have hle := ble_iff.1 hc.1
    have hyl := hy.length
    have hbr : (Blk.cells xs e k).isRo = false := by cases k <;> first | rfl | simp [Kd.isRo] at hk
    obtain ⟨c, fz, q1, q2, q3, q4, q5⟩ := hI.cells hg hL
    have hone : ∀ v ∈ ys', v.oneCell' = true := by
      intro v hv
      obtain ⟨i, hi, rfl⟩ := List.getElem_of_mem hv
      have hi' : i < ys.length := by omega
      obtain ⟨v', e1, e2⟩ := hy.get (List.getElem?_eq_getElem hi')
      rw [List.getElem?_eq_getElem hi] at e1; cases e1
      exact e2.one (List.all_eq_true.1 hc.2 _ (List.getElem_mem hi'))
    have hrun := rStoreCells (P := P) (r := L.r) (off := L.sh + off) ys' 0 c w q1 (by omega) hone (fun k h1 h2 => kok_free q5 hk k (by omega))
    refine ⟨_, hrun, Ext.refl _ _ _, ?_, setBlk_below ?_⟩
    · have hr : L.r < w.heap.size := (Array.getElem?_eq_some_iff.1 q1).1
      refine hI.write (o' := .cells (splice xs off ys) e k) hg rfl hbr hL (fun n => by simp only [Tr.get_set]) ?_
      refine ⟨_, fz, setBlk_same hr, by rw [over_size]; exact q2, by rw [splice_length _ _ _ hle]; exact q3, ?_, q5⟩
      rw [Nat.add_zero]
      exact cells_over q4 hy hle (by omega)
    · obtain ⟨L', hL', hs⟩ := hI.live b _ hg
      rw [hL] at hL'; cases hL'
      exact hs.own rfl hbr
  | _ => exact (fail_some.1 h2).elim

theorem sim_storeM (hE : EnvOK P E) (hI : Inv N0 β s.h.get w) {t : TypeId} {a a' x x' v : Value} (h : storeM E t a x s = some (v, s')) (ha : V β a a') (hx : V β x x') :
    ∃ w', (Instr.storeAt t a' x').run P w = .ok () w' ∧ v = undef ∧ Out N0 β s w s' β w' := by
  cases hi : E.ti t with
  | none => simp only [storeM, hi] at h; exact (fail_some.1 h).elim
  | some i =>
  cases ha with
  | ptr hL =>
    simp only [storeM, hi] at h
    obtain ⟨_, s1, h1, h2⟩ := bind_some.1 h
    obtain ⟨hlen, rfl⟩ := guardM_some.1 h1
    obtain ⟨_, s2, h3, h4⟩ := bind_some.1 h2
    obtain ⟨rfl, rfl⟩ := pure_some.1 h4
    have hlen := Nat.eq_of_beq_eq_true hlen
    have hcx := hx.cells
    have hcl := hcx.length
    rw [cellsL_eq x'] at hcx hcl
    obtain ⟨w', r, ho⟩ := sim_putCells (P := P) hI h3 hL hcx
    refine ⟨w', ?_, rfl, ho⟩
    have hsz : x'.cells.size = i.size := by simp at hcl; omega
    simp only [Instr.storeAt, Sem.run_bind, Instr.sureAddr, Sem.run_pure, Result.andThen_ok, storeVar, rS (hE.ti _ _ hi), hsz, ne_eq, not_true_eq_false, if_false, r]
  | _ => simp only [storeM, hi] at h; exact (fail_some.1 h).elim

/-- A new row of cells. -/
theorem sim_newCells (hI : Inv N0 β s.h.get w) {xs : List Value} {t : TypeId} {k : Kd} {b : Nat} (h : new (.cells xs t k) s = some (b, s'))
    (hf : Fresh β s.nx s'.nx) {c : Array Value} (hx : VL β xs (c.toList.take xs.length)) (hc : xs.length ≤ c.size) (fz : Nat × Nat) (hz : KOK N0 ⟨w.heap.size, 0, c.size⟩ fz k) :
    b = s.nx ∧ Out N0 β s w s' (addB β b ⟨w.heap.size, 0, c.size⟩) (pushW w (.cells c t fz)) ∧ s'.nx = s.nx + 1 := by
  obtain ⟨rfl, rfl⟩ := new_some.1 h
  have hn : β s.nx = none := hf _ (Nat.le_refl _) (by simp)
  refine ⟨rfl, ⟨addB_ext hn (Nat.le_refl _) (by simp), ?_, pushW_below hI.size⟩, rfl⟩
  refine hI.push (o' := .cells xs t k) hn rfl (fun n => by simp only [Tr.get_set]) ?_
  refine ⟨c, fz, pushW_new, rfl, by simpa using hc, fun i v hi => ?_, hz⟩
  obtain ⟨v', a, b⟩ := hx.get hi
  have hlt : i < xs.length := (List.getElem?_eq_some_iff.1 hi).1
  rw [List.getElem?_take_of_lt hlt, Array.getElem?_toList] at a
  exact ⟨v', by simpa using a, b.mono (addB_keep hn)⟩

theorem new_nx {o : Blk} {b : Nat} (h : new o s = some (b, s')) : b = s.nx ∧ s'.nx = s.nx + 1 := by
  obtain ⟨rfl, rfl⟩ := new_some.1 h; exact ⟨rfl, rfl⟩

theorem sim_boxM (hI : Inv N0 β s.h.get w) {t : TypeId} {x x' v : Value} (h : boxM t x s = some (v, s')) (hf : Fresh β s.nx s'.nx) (hx : V β x x') :
    ∃ β' w' v', (Instr.box t x').run P w = .ok v' w' ∧ V β' v v' ∧ Out N0 β s w s' β' w' := by
  unfold boxM at h
  obtain ⟨b, s1, h1, h2⟩ := bind_some.1 h
  obtain ⟨rfl, rfl⟩ := pure_some.1 h2
  have hc := hx.cells
  have hl := hc.length
  rw [cellsL_eq x'] at hc hl
  obtain ⟨rfl, ho, -⟩ := sim_newCells hI h1 hf (c := x'.cells) (by rw [List.take_of_length_le (by omega)]; exact hc) (by simp at hl; omega) (0, 0) ⟨rfl, hI.size _ (Nat.le_refl _), rfl⟩
  refine ⟨_, _, .pointer (some ⟨w.heap.size, 0, none⟩), ?_, ?_, ho⟩
  · simp only [Instr.box, newVar, newRow, Sem.run_bind, run_newObj, Result.andThen_ok, Sem.run_pure]; rfl
  · exact .ptr (L := ⟨w.heap.size, 0, x'.cells.size⟩) (off := 0) (addB_same _ _ _)

theorem sim_allocM (hE : EnvOK P E) (hI : Inv N0 β s.h.get w) {t : TypeId} {v : Value} (h : allocM E t s = some (v, s')) (hf : Fresh β s.nx s'.nx) :
    ∃ β' w' v', (Instr.alloc t true (.tuple #[])).run P w = .ok v' w' ∧ V β' v v' ∧ Out N0 β s w s' β' w' := by
  cases hi : E.ti t with
  | none => simp only [allocM, hi] at h; exact (fail_some.1 h).elim
  | some i =>
    simp only [allocM, hi] at h
    have hti := hE.ti _ _ hi
    obtain ⟨β', w', v', r, hv, ho⟩ := sim_boxM (P := P) hI h hf (V.zero hti β)
    refine ⟨β', w', v', ?_, hv, ho⟩
    simp only [Instr.alloc, Sem.run_bind, rZ hti, Result.andThen_ok]
    exact r

theorem repL_eq (xs : List Value) : ∀ n, repL xs n = (List.replicate n xs).flatten
  | 0 => rfl
  | n + 1 => by simp only [repL, repL_eq xs n, List.replicate_succ, List.flatten_cons]

theorem repL_length (xs : List Value) : ∀ n, (repL xs n).length = n * xs.length
  | 0 => by simp [repL]
  | n + 1 => by simp only [repL, List.length_append, repL_length xs n, Nat.succ_mul]; omega

theorem repL_get (xs : List Value) : ∀ (n i : Nat), i < n * xs.length → (repL xs n)[i]? = xs[i % xs.length]?
  | 0, i, h => by omega
  | n + 1, i, h => by
    simp only [repL]
    by_cases hi : i < xs.length
    · rw [List.getElem?_append_left hi, Nat.mod_eq_of_lt hi]
    · rw [List.getElem?_append_right (by omega), repL_get xs n (i - xs.length) (by rw [Nat.succ_mul] at h; omega)]
      congr 1
      conv => rhs; rw [show i = (i - xs.length) + xs.length by omega, Nat.add_mod_right]

theorem VL.repL {xs : List Value} (h : xs.all simple = true) (n : Nat) : VL β (Ideal.repL xs n) (Ideal.repL xs n) := by
  induction n with
  | zero => exact .nil
  | succ n ih => exact (VL.of_simple h).append ih

/-- The model's row of zero values. -/
theorem zeros_eq (z : Array Value) (n : Nat) : ((Array.range (n * z.size)).map fun i => z[i % z.size]!).toList = repL z.toList n := by
  apply List.ext_getElem?
  intro i
  have hl : (repL z.toList n).length = n * z.size := by rw [repL_length]; simp
  by_cases hi : i < n * z.size
  · rw [repL_get _ _ _ (by simpa using hi)]
    have hz : 0 < z.size := by
      rcases Nat.eq_zero_or_pos z.size with h | h
      · rw [h] at hi; omega
      · exact h
    have hm : i % z.size < z.size := Nat.mod_lt _ hz
    simp only [Array.toList_map, Array.toList_range, List.getElem?_map, List.getElem?_range hi, Option.map_some, Array.length_toList]
    rw [List.getElem?_eq_getElem (by simpa using hm), getElem!_pos z _ hm]
    simp
  · rw [List.getElem?_eq_none (by simp; omega), List.getElem?_eq_none (by omega)]

end
end
end Go.Ideal
