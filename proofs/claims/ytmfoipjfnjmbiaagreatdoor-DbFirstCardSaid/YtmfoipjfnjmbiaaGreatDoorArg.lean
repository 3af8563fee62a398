/- A law's argument that is a row of bytes: how it is read ahead of the call, and behind it; the law's run at it. -/
import Derived.Test.YtmfoipjfnjmbiaaGreatDoorRo
import Derived.Test.YtmfoipjfnjmbiaaGreatDoorPost
import Derived.ChangeSlices
import Derived.ChangeMaps
namespace Go.Ideal
set_option linter.all false
set_option linter.unusedSimpArgs false
set_option linter.unusedVariables false
noncomputable section
open Go Go.ChangeShapes Go.WideShapes Go.RowKit
set_option maxHeartbeats 1000000

/-- A row of bytes, as it was read. -/
inductive Row {H : Type} (w : World) : Value → DataW H → List MemPlace → Prop where
  | nil : Row w (.slice none 0 0) .nil []
  | at (a : Addr) (len cap : Nat) (zs : List Int) : len ≤ cap → cap ≤ maxLen → zs.length = cap →
      (∀ i, i < zs.length → w.cell? (a.add i) = some (.int .u8 (zs.getD i 0))) → (∀ n ∈ zs, (Lit.int .u8 n).wf = true) →
      Row w (.slice (some a) len cap) (.slice (lits .u8 (zs.take len)) (lits .u8 (zs.drop len))) (MemPlace.row a zs.length)

theorem open_row {H : Type} {enc : TypeId × Value → H} {P : Program} {w : World} {t e : TypeId} {v : Value} {d : DataW H} {p : List MemPlace} {b0 : Nat} {rc : Reach}
    (ht : P.underlying t = some (.slice e)) (he : P.underlying e = some (.int .u8)) (hc : P.cellsOf e = 1) (hval : Value.okWide P w rc b0 t v)
    (hd : DataW.Trod enc P w 0 (fun _ => true) true t v d p) : Row w v d p := by
  obtain ⟨fuel, hf⟩ := hd
  obtain ⟨a0, n0, c0, rfl⟩ := okWide_slice ht hval
  rcases open_ints ht he hc hf with ⟨hcs, hx⟩ | ⟨a, len, cap, zs, hcs, _, hl, hm, hz, hx, hcell, hwz⟩
  · simp [Value.cells] at hcs
    obtain ⟨rfl, rfl, rfl⟩ := hcs
    simp only [Prod.mk.injEq] at hx
    obtain ⟨rfl, rfl⟩ := hx
    exact .nil
  · simp [Value.cells] at hcs
    obtain ⟨rfl, rfl, rfl⟩ := hcs
    simp only [Prod.mk.injEq] at hx
    obtain ⟨rfl, rfl⟩ := hx
    simp only [if_true] at hz
    exact .at a n0 c0 zs hl hm hz hcell hwz

theorem shut_row {H : Type} {enc : TypeId × Value → H} {P : Program} {w w' : World} {t e : TypeId} {v : Value} {d : DataW H} {p : List MemPlace} {sp : Nat → Bool} {hd : Bool}
    (ht : P.underlying t = some (.slice e)) (he : P.underlying e = some (.int .u8)) (hc : P.cellsOf e = 1) (h : Row w v d p) (hb : RowKit.Below w.heap.size w w') (hs : ∀ q ∈ p, sp q.block = true) :
    DataW.Trod enc P w' 0 sp hd t v d p := by
  cases h with
  | nil => exact ⟨1, by simp [DataW.trod, DataW.trodStep, Value.cells, ht]⟩
  | «at» a len cap zs hl hm hz hcell hw =>
    have hz' : zs.length = if sp a.block then cap else len := by
      rcases Nat.eq_zero_or_pos cap with h0 | h0
      · have : len = 0 := by omega
        rw [hz, h0, this]; simp
      · have : sp a.block = true := by
          have hq := hs (MemPlace.cell a.block (a.off + 0)) (by
            unfold MemPlace.row
            exact List.mem_map.2 ⟨0, by simp; omega, rfl⟩)
          exact hq
        rw [this, if_pos rfl]; exact hz
    have hlt : ∀ i, i < zs.length → (a.add i).block < w.heap.size := by
      intro i hi
      have h := hcell i hi
      rcases Nat.lt_or_ge (a.add i).block w.heap.size with h1 | h1
      · exact h1
      · simp [World.cell?, Array.getElem?_eq_none h1] at h
    exact ⟨2, shut_ints 0 ht he hc (Nat.zero_le _) hl hm hz' (fun i hi => by rw [hb.cell (p := a.add i) (hlt i hi)]; exact hcell i hi) hw⟩

/-- What the machine is asked of a row: at none, at no byte, at one byte and more. -/
structure RowRuns (E : Env) (k : Nat) (f : FuncId) (pre post : List Value) : Prop where
  none : isTrue (callM E k f (pre ++ .slice none 0 0 :: post) ⟨.nil, 1, 0, 0⟩) = true
  zero : ∀ cap, isTrue (callM E k f (pre ++ .slice (some ⟨0, 0, .none⟩) 0 cap :: post) ⟨.nil, 1, 0, 0⟩) = true
  some : ∀ len cap (x0 : Int) (r : List Int) e, 1 ≤ len → len ≤ r.length + 1 → (∀ n ∈ x0 :: r, (Lit.int .u8 n).wf = true) →
    isTrue (callM E k f (pre ++ .slice (.some ⟨0, 0, .none⟩) len cap :: post) (SR (.int .u8 x0 :: r.map (.int .u8)) e)) = true

theorem VL.simple_append {β : Bij} {pre post : List Value} {v v' : Value} (h1 : pre.all simple = true) (h2 : post.all simple = true) (h : V β v v') : VL β (pre ++ v :: post) (pre ++ v' :: post) :=
  (VL.of_simple h1).append (.cons h (VL.of_simple h2))

section
variable {P : Program} {E : Env}

/-- The start without blocks, whatever the first new one's number. -/
theorem run_law_at (hG : Good P E) {w : World} {nx : Nat} {β0 : Bij} (hβ : ∀ n, nx ≤ n → β0 n = none) {k : Nat} {f : FuncId} {l : List Value} {l' : Array Value} {v : Value} {s' : S}
    (h : callM E k f l ⟨.nil, nx, 0, 0⟩ = some (v, s')) (hl : VL β0 l l'.toList) :
    Calls P f l' w fun e w' => ∃ v', e = .returned v' ∧ (∃ β, V β v v') ∧ RowKit.Below w.heap.size w w' := by
  have hI : Inv (fun k => w.heap.size ≤ k) β0 (⟨.nil, nx, 0, 0⟩ : S).h.get w :=
    ⟨fun b o hb => (by cases hb), fun b1 b2 o1 o2 L1 L2 _ hb => (by cases hb), fun _ h => h⟩
  refine (sim_call hG.env (hG.link _) hG.resp k f l ⟨.nil, nx, 0, 0⟩ v s' _ w l' h hI (fun n h1 _ => hβ n h1) (fun g hg' => by rw [hG.glob g] at hg'; cases hg') hl).2.mono ?_
  rintro e w' ⟨v', he, β, hv, ho⟩
  exact ⟨v', he, ⟨β, hv⟩, ho.below.num⟩

theorem yes_of {f : FuncId} {l' : Array Value} {w : World} {v : Value} (hv : v = .bool true) (h : Calls P f l' w fun e w' => ∃ v', e = .returned v' ∧ (∃ β, V β v v') ∧ RowKit.Below w.heap.size w w') :
    Calls P f l' w fun e w' => e = .returned (.bool true) ∧ RowKit.Below w.heap.size w w' := by
  subst hv
  refine h.mono ?_
  rintro e w' ⟨v', he, ⟨β, hv⟩, hb⟩
  cases hv
  exact ⟨he, hb⟩

theorem row_true (hG : Good P E) {k : Nat} {f : FuncId} {pre post : List Value} (h : RowRuns E k f pre post) (h1 : pre.all simple = true) (h2 : post.all simple = true) {H : Type} {w : World} {v : Value} {d : DataW H} {p : List MemPlace}
    (hr : Row w v d p) {l' : Array Value} (hl : l' = (pre ++ v :: post).toArray) : Calls P f l' w fun e w' => e = .returned (.bool true) ∧ RowKit.Below w.heap.size w w' := by
  subst hl
  cases hr with
  | nil =>
    obtain ⟨s', e⟩ := isTrue_some h.none
    exact yes_of rfl (run_law_at hG (β0 := fun _ => .none) (fun _ _ => rfl) e (VL.simple_append h1 h2 .nilsl))
  | «at» a len cap zs hl hm hz hcell hw =>
    have hu : cap < UNK := by unfold UNK; unfold maxLen at hm; omega
    rcases Nat.eq_zero_or_pos cap with h0 | h0
    · subst h0
      obtain rfl : len = 0 := by omega
      obtain ⟨s', e⟩ := isTrue_some (h.zero 0)
      exact yes_of rfl (run_law_at hG (β0 := fun _ => .none) (fun _ _ => rfl) e (VL.simple_append h1 h2 (.sl0 _ _)))
    · obtain ⟨b, off, spot⟩ := a
      have c0 := hcell 0 (by omega)
      obtain rfl : spot = .none := by simpa [Addr.add] using World.cell?_spot c0
      rcases Nat.eq_zero_or_pos len with h3 | h3
      · subst h3
        obtain ⟨s', e⟩ := isTrue_some (h.zero cap)
        exact yes_of rfl (run_law_at hG (β0 := roB b off 0) (fun n hn => by show (if n = 0 then _ else _) = _; rw [if_neg (by omega)]) e (VL.simple_append h1 h2 (V.ro (Nat.zero_le _) hu)))
      · obtain ⟨x0, r, rfl⟩ : ∃ x0 r, zs = x0 :: r := by
          cases zs with
          | nil => simp at hz; omega
          | cons x r => exact ⟨x, r, rfl⟩
        have hcell' : ∀ j, j < (x0 :: r).length → w.cell? ⟨b, off + j, .none⟩ = Option.some (.int .u8 ((x0 :: r).getD j 0)) := fun j hj => by rw [← add_plain]; exact hcell j hj
        have hblk : ∃ c e fz, w.heap[b]? = Option.some (.cells c e fz) := by
          have := hcell' 0 (by simp)
          unfold World.cell? at this
          cases hh : w.heap[b]? with
          | none => simp [hh] at this
          | some o =>
            cases o with
            | cells c e fz => exact ⟨c, e, fz, rfl⟩
            | _ => simp [hh] at this
        obtain ⟨c, e, fz, hb⟩ := hblk
        have hget : ∀ j, j < (x0 :: r).length → c[off + j]? = Option.some (.int .u8 ((x0 :: r).getD j 0)) := fun j hj => by
          have := hcell' j hj
          rw [cell_at hb] at this; exact this
        have hle : off + (x0 :: r).length ≤ c.size := by
          have := hget r.length (by simp)
          have := (Array.getElem?_eq_some_iff.1 this).1
          simp; omega
        obtain ⟨s', er⟩ := isTrue_some (h.some len cap x0 r e h3 (by simp at hz; omega) hw)
        refine yes_of rfl (run_law_ro hG hb (xs := .int .u8 x0 :: r.map (.int .u8)) ?_ ?_ (by simpa using hle) er (VL.simple_append h1 h2 (V.ro hl hu)))
        · intro i u hi
          have e1 : (Value.int .u8 x0 :: r.map (.int .u8)) = (x0 :: r).map (.int .u8) := rfl
          rw [e1, List.getElem?_map] at hi
          cases hj : (x0 :: r)[i]? with
          | none => rw [hj] at hi; cases hi
          | some y =>
            rw [hj] at hi; cases hi
            have hlt := (List.getElem?_eq_some_iff.1 hj).1
            rw [hget i hlt, List.getD, hj]; rfl
        · rw [List.all_eq_true]
          intro u hu'
          have e1 : (Value.int .u8 x0 :: r.map (.int .u8)) = (x0 :: r).map (.int .u8) := rfl
          rw [e1] at hu'
          obtain ⟨y, _, rfl⟩ := List.mem_map.1 hu'
          rfl

end
end
end Go.Ideal
