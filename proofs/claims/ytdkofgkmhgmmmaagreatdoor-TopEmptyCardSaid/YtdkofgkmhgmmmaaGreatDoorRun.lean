/- How the model's own small steps run: tables, cells read, cells written, in one row of cells. -/
import Derived.Test.YtdkofgkmhgmmmaaGreatDoorMem
namespace Go.Ideal
set_option linter.all false
set_option linter.unusedSimpArgs false
set_option linter.unusedVariables false
noncomputable section
open Go Go.RowKit
set_option maxHeartbeats 1000000

def isAggD : TypeDesc → Bool
  | .struct _ | .array _ _ => true
  | _ => false

section
variable {P : Program} {w : World}

theorem rU {t : TypeId} {d : TypeDesc} (h : P.underlying t = some d) : (underlying t).run P w = .ok d w := by
  simp [underlying, h]
theorem rS {t : TypeId} {i : TI} (h : TIOK P t i) : (sizeOf t).run P w = .ok i.size w := by
  obtain ⟨f, a, b, c, d⟩ := h.info
  simp [sizeOf, typeInfo, a, b]
theorem rB {t : TypeId} {i : TI} (h : TIOK P t i) : ∃ f, (typeInfo t).run P w = .ok f w ∧ f.bytes = i.bytes ∧ f.size = i.size := by
  obtain ⟨f, a, b, c, d⟩ := h.info
  exact ⟨f, by simp [typeInfo, a], c, b⟩
theorem rZ {t : TypeId} {i : TI} (h : TIOK P t i) : (zeroValue t).run P w = .ok i.zero w := by
  obtain ⟨f, a, b, c, d⟩ := h.info
  simp [zeroValue, typeInfo, a, d]
theorem rA {t : TypeId} {d : TypeDesc} (h : P.underlying t = some d) : (isAgg t).run P w = .ok (isAggD d) w := by
  simp only [isAgg, Sem.run_bind, rU h, Result.andThen_ok]
  cases d <;> rfl

theorem cell_at {r off : Nat} {c : Array Value} {e : TypeId} {fz : Nat × Nat} (h : w.heap[r]? = some (.cells c e fz)) :
    w.cell? ⟨r, off, none⟩ = c[off]? := by
  simp [World.cell?, h]

theorem add_at (r off n : Nat) : Addr.add ⟨r, off, none⟩ n = ⟨r, off + n, none⟩ := by
  unfold Addr.add
  by_cases h : n = 0
  · subst h; rfl
  · rw [if_neg h]

theorem rLoad {r off : Nat} {c : Array Value} {e : TypeId} {fz : Nat × Nat} (h : w.heap[r]? = some (.cells c e fz)) {v : Value} (hv : c[off]? = some v) :
    (load ⟨r, off, none⟩).run P w = .ok v w := by
  rw [run_load, cell_at h, hv]

theorem rLoadFrom {r off : Nat} {c : Array Value} {e : TypeId} {fz : Nat × Nat} (h : w.heap[r]? = some (.cells c e fz)) :
    ∀ (n i : Nat) (acc : Array Value), off + i + n ≤ c.size →
      (loadCellsFrom ⟨r, off, none⟩ i n acc).run P w = .ok (acc ++ c.extract (off + i) (off + i + n)) w := by
  intro n
  induction n with
  | zero => intro i acc _; simp [loadCellsFrom]; omega
  | succ n ih =>
    intro i acc hle
    have hlt : off + i < c.size := by omega
    simp only [loadCellsFrom, add_at, Sem.run_bind]
    rw [rLoad h (v := c[off + i]) (by simp [hlt])]
    simp only [Result.andThen_ok]
    rw [ih (i + 1) _ (by omega)]
    congr 1
    apply Array.ext'
    simp only [Array.toList_append, Array.toList_push, Array.toList_extract, List.append_assoc, List.extract_eq_take_drop]
    congr 1
    rw [show off + (i + 1) + n - (off + (i + 1)) = n by omega, show off + i + (n + 1) - (off + i) = n + 1 by omega]
    rw [List.drop_eq_getElem_cons (i := off + i) (by simpa using hlt)]
    simp [Nat.add_assoc]

theorem rLoadCells {r off n : Nat} {c : Array Value} {e : TypeId} {fz : Nat × Nat} (h : w.heap[r]? = some (.cells c e fz)) (hn : off + n ≤ c.size) :
    (loadCells ⟨r, off, none⟩ n).run P w = .ok (c.extract off (off + n)) w := by
  unfold loadCells
  rw [rLoadFrom h n 0 #[] (by omega)]
  simp

/-- What stands in a row of cells, written over from a place on. -/
def over (c : Array Value) : Nat → List Value → Array Value
  | _, [] => c
  | off, v :: r => over (c.setIfInBounds off v) (off + 1) r

theorem over_size (c : Array Value) (off : Nat) (vs : List Value) : (over c off vs).size = c.size := by
  induction vs generalizing c off with
  | nil => rfl
  | cons v r ih => simp only [over, ih, Array.size_setIfInBounds]

theorem over_get (c : Array Value) (off : Nat) (vs : List Value) (h : off + vs.length ≤ c.size) (i : Nat) :
    (over c off vs)[i]? = if off ≤ i ∧ i < off + vs.length then vs[i - off]? else c[i]? := by
  induction vs generalizing c off with
  | nil => simp only [over, List.length_nil]; rw [if_neg (by omega)]
  | cons v r ih =>
    simp only [over, List.length_cons] at h ⊢
    rw [ih _ _ (by simp; omega)]
    by_cases h1 : off + 1 ≤ i ∧ i < off + 1 + r.length
    · rw [if_pos h1, if_pos (by omega)]
      obtain ⟨k, rfl⟩ : ∃ k, i = off + 1 + k := ⟨i - (off + 1), by omega⟩
      rw [show off + 1 + k - (off + 1) = k by omega, show off + 1 + k - off = k + 1 by omega]; simp
    · rw [if_neg h1]
      by_cases h2 : i = off
      · subst h2
        rw [if_pos ⟨Nat.le_refl _, by omega⟩, Nat.sub_self, Array.getElem?_setIfInBounds, if_pos rfl, if_pos (by omega)]; rfl
      · rw [if_neg (by omega), Array.getElem?_setIfInBounds_ne (by omega)]

theorem frozen_at {r off : Nat} {c : Array Value} {e : TypeId} {fz : Nat × Nat} (h : w.heap[r]? = some (.cells c e fz)) :
    w.frozen? ⟨r, off, none⟩ = (decide (fz.1 ≤ off) && decide (off < fz.2)) := by
  obtain ⟨lo, hi⟩ := fz
  simp [World.frozen?, h]

theorem setCell_at {r off : Nat} {c : Array Value} {e : TypeId} {fz : Nat × Nat} (h : w.heap[r]? = some (.cells c e fz)) (v : Value) :
    w.setCell ⟨r, off, none⟩ v = setBlk w r (.cells (c.setIfInBounds off v) e fz) := by
  have hr : r < w.heap.size := (Array.getElem?_eq_some_iff.1 h).1
  unfold World.setCell setBlk
  congr 1
  apply Array.ext_getElem?
  intro i
  rw [Array.getElem?_modify, Array.getElem?_setIfInBounds]
  by_cases hi : r = i
  · subst hi
    rw [if_pos rfl, if_pos rfl, if_pos hr, h]; rfl
  · rw [if_neg hi, if_neg hi]

theorem setBlk_setBlk (w : World) (r : Nat) (a b : Obj) : setBlk (setBlk w r a) r b = setBlk w r b := by
  unfold setBlk
  simp

theorem setBlk_self {r : Nat} {o : Obj} (h : w.heap[r]? = some o) : setBlk w r o = w := by
  unfold setBlk
  have : w.heap.setIfInBounds r o = w.heap := by
    apply Array.ext_getElem?
    intro i
    rw [Array.getElem?_setIfInBounds]
    by_cases hi : r = i
    · subst hi
      rw [if_pos rfl, if_pos (Array.getElem?_eq_some_iff.1 h).1, h]
    · rw [if_neg hi]
  rw [this]

theorem rStoreCells {r off : Nat} {e : TypeId} {fz : Nat × Nat} : ∀ (vs : List Value) (i : Nat) (c : Array Value) (w : World),
    w.heap[r]? = some (.cells c e fz) → off + i + vs.length ≤ c.size → (∀ v ∈ vs, v.oneCell' = true) →
    (∀ k, off + i ≤ k → k < off + i + vs.length → ¬ (fz.1 ≤ k ∧ k < fz.2)) →
    (storeCells ⟨r, off, none⟩ vs i).run P w = .ok () (setBlk w r (.cells (over c (off + i) vs) e fz)) := by
  intro vs
  induction vs with
  | nil => intro i c w h _ _ _; simp [storeCells, over, setBlk_self h]
  | cons v r' ih =>
    intro i c w h hle hone hfz
    simp only [List.length_cons] at hle hfz
    have hlt : off + i < c.size := by omega
    have hr : r < w.heap.size := (Array.getElem?_eq_some_iff.1 h).1
    have hf : w.frozen? ⟨r, off + i, none⟩ = false := by
      rw [frozen_at h]
      have := hfz (off + i) (Nat.le_refl _) (by omega)
      simp only [Bool.and_eq_false_iff, decide_eq_false_iff_not]
      by_cases h1 : fz.1 ≤ off + i
      · exact .inr (fun h2 => this ⟨h1, h2⟩)
      · exact .inl h1
    simp only [storeCells, add_at, Sem.run_bind]
    rw [run_store P w _ v .plain (hone v (by simp)), cell_at h, Array.getElem?_eq_getElem hlt]
    simp only [hf, Bool.false_eq_true, if_false, Result.andThen_ok, setCell_at h]
    rw [ih (i + 1) _ _ (setBlk_same hr) (by simp; omega) (fun v hv => hone v (by simp [hv])) (fun k h1 h2 => hfz k (by omega) (by omega))]
    rw [setBlk_setBlk]; rfl

end

/-! lists -/
def nth {α : Type} : List α → Nat → Option α
  | [], _ => none
  | x :: r, n => match n with
    | 0 => some x
    | n + 1 => nth r n

theorem nth_eq {α : Type} (l : List α) (n : Nat) : nth l n = l[n]? := by
  induction l generalizing n with
  | nil => simp [nth]
  | cons x r ih => cases n with
    | zero => rfl
    | succ n => simp [nth, ih]

/-- A list, written over from a place on. -/
def splice (xs : List Value) : Nat → List Value → List Value
  | 0, ys => ys ++ xs.drop ys.length
  | n + 1, ys => match xs with
    | [] => ys
    | x :: r => x :: splice r n ys

theorem splice_eq (xs : List Value) (off : Nat) (ys : List Value) (h : off ≤ xs.length) : splice xs off ys = xs.take off ++ ys ++ xs.drop (off + ys.length) := by
  induction off generalizing xs with
  | zero => simp [splice]
  | succ n ih =>
    cases xs with
    | nil => simp at h
    | cons x r =>
      simp only [splice]
      rw [ih r (by simpa using h), show n + 1 + ys.length = (n + ys.length) + 1 by omega]
      simp

theorem splice_length (xs : List Value) (off : Nat) (ys : List Value) (h : off + ys.length ≤ xs.length) : (splice xs off ys).length = xs.length := by
  rw [splice_eq _ _ _ (by omega)]; simp; omega

theorem splice_get (xs : List Value) (off : Nat) (ys : List Value) (h : off + ys.length ≤ xs.length) (i : Nat) :
    (splice xs off ys)[i]? = if off ≤ i ∧ i < off + ys.length then ys[i - off]? else xs[i]? := by
  rw [splice_eq _ _ _ (by omega)]
  by_cases h1 : i < off
  · rw [if_neg (by omega), List.append_assoc, List.getElem?_append_left (by simp; omega), List.getElem?_take_of_lt h1]
  · by_cases h2 : i < off + ys.length
    · rw [if_pos (by omega), List.append_assoc, List.getElem?_append_right (by simp; omega), List.getElem?_append_left (by simp; omega)]
      congr 1; simp; omega
    · rw [if_neg (by omega), List.getElem?_append_right (by simp; omega), List.getElem?_drop]
      congr 1; simp; omega

theorem cells_extract {β : Bij} {c : Array Value} {sh off n : Nat} {xs : List Value} (h : CellsAt β c sh xs) (hn : off + n ≤ xs.length) (hc : sh + xs.length ≤ c.size) :
    VL β ((xs.drop off).take n) (c.extract (sh + off) (sh + off + n)).toList := by
  refine VL.of_get (by simp; omega) fun i v v' h1 h2 => ?_
  have hi : i < n := by
    rcases Nat.lt_or_ge i n with h | h
    · exact h
    · rw [List.getElem?_eq_none (by simp; omega)] at h1; cases h1
  rw [List.getElem?_take_of_lt hi, List.getElem?_drop] at h1
  obtain ⟨u, hu, hv⟩ := h _ _ h1
  have : (c.extract (sh + off) (sh + off + n)).toList[i]? = c[sh + (off + i)]? := by
    rw [Array.toList_extract, List.extract_eq_take_drop, List.getElem?_take_of_lt (by omega), List.getElem?_drop, Array.getElem?_toList]
    congr 1; omega
  rw [this, hu] at h2
  cases h2; exact hv

theorem cells_over {β : Bij} {c : Array Value} {sh off : Nat} {xs ys ys' : List Value} (h : CellsAt β c sh xs) (hy : VL β ys ys') (hn : off + ys.length ≤ xs.length)
    (hc : sh + xs.length ≤ c.size) : CellsAt β (over c (sh + off) ys') sh (splice xs off ys) := by
  intro i v hi
  have hl := hy.length
  rw [splice_get _ _ _ hn] at hi
  rw [over_get _ _ _ (by omega)]
  by_cases h1 : off ≤ i ∧ i < off + ys.length
  · rw [if_pos h1] at hi
    rw [if_pos (by omega)]
    obtain ⟨v', a, b⟩ := hy.get hi
    exact ⟨v', by rw [show sh + i - (sh + off) = i - off by omega]; exact a, b⟩
  · rw [if_neg h1] at hi
    rw [if_neg (by omega)]
    exact h i v hi

end
end Go.Ideal
