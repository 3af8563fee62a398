/- Laws with a row of bytes, piece by piece: the row's block and value are left open, whatever they are. -/
import Derived.Test.YtmfoipjfnjmbiaaGreatDoorFa
import Derived.Test.YtmfoipjfnjmbiaaGreatDoorFam
import Derived.Test.YtmfoipjfnjmbiaaGreatDoorArg
namespace Go.Proofs.YtmfoipjfnjmbiaaGreatDoor
set_option linter.all false
set_option linter.unusedSimpArgs false
set_option linter.unusedVariables false
open Go Go.Ideal Go.RowKit Go.ChangeShapes Go.WideShapes
set_option maxRecDepth 100000
set_option maxHeartbeats 2000000

noncomputable def cl : Code → Code
  | .seq a _ => a
  | .block _ c => c
  | .loop c => c
  | c => c
noncomputable def cr : Code → Code
  | .seq _ b => b
  | c => c

/-- The row, and how long it is. -/
structure Deeds where
  xs : List Value
  e : Nat
  len : Nat
  cap : Nat
noncomputable def rowV (D : Deeds) : Value := .slice (some ⟨0, 0, none⟩) D.len D.cap
noncomputable def rowB (D : Deeds) : Blk := .cells D.xs D.e .ro

theorem renL_id {ρ : Nat → Nat} : ∀ {l : List Value}, l.all simple = true → renL ρ l = l
  | [], _ => rfl
  | v :: r, h => by
    simp only [List.all_cons, Bool.and_eq_true] at h
    unfold renL
    rw [renL_id h.2]
    congr 1
    have h1 := h.1
    unfold simple at h1
    split at h1 <;> first | rfl | cases h1

structure DOK (D : Deeds) : Prop where
  xs : ∀ v ∈ D.xs, ∃ n : Nat, n ≤ 255 ∧ v = .int .u8 (.ofNat n)
  len : D.len ≤ D.xs.length
theorem DOK.simple {D : Deeds} (h : DOK D) : D.xs.all simple = true := by
  rw [List.all_eq_true]
  intro v hv
  obtain ⟨n, _, rfl⟩ := h.xs v hv
  rfl

noncomputable def gpc (E : Env) (X : Ways) (n : Nat) (c : Code) (p : Pt) (sc : List (Nat × Turn)) (q : Pt) (L : List Nat) :=
  pieceOf (execP E X (callP E X 100) n 1000000 c p.tm ⟨p.s, 0, sc, true⟩) (q.lt.map Prod.fst) (q.lb.map fun e => rho L e.1)
noncomputable def fres (x : Ex) (q : Pt) (L : List Nat) (ob : Bool) : Option (Ex × List (Option Value) × List (Option Blk) × Bool × Bool) :=
  some (x, q.lt.map (fun e => some (cond (Nat.beq e.1 1) e.2 (renV (rho L) e.2))), q.lb.map (fun e => some (cond (Nat.beq e.1 0) e.2 (renB (rho L) e.2))), true, ob)

/-- What stands open stays as it is: temporary 1, block 0. -/
structure Still (L : List Nat) (q : Pt) : Prop where
  t : ∀ e ∈ q.lt, Nat.beq e.1 1 = true → renV (rho L) e.2 = e.2
  b : ∀ e ∈ q.lb, Nat.beq e.1 0 = true → renB (rho L) e.2 = e.2

theorem stepG {E : Env} {X : Ways} (hG : Ideal.Good Tryz.prog E) (hX : WaysOK E X) {n : Nat} {c : Code} {p q : Pt} {L : List Nat} {sc : List (Nat × Turn)} {x : Ex} {ob : Bool} (h : gpc E X n c p sc q L = fres x q L ob) (hob : ob = true)
    (hq : (keysOK q.nx q.lb && apart (rho L) q.lb && Nat.beq L.length q.nx) = true) (hr : Still L q)
    {N0 : Nat → Prop} {w0 w : World} {a : Act} (hF : Fam N0 n p w0 a w) : c.wp Tryz.prog (fun ex a' w' => ExR ex x ∧ Fam N0 n q w0 a' w') a w := by
  refine Fam.step hG hX (d := 100) (k := 1000000) (L := L) (sc := sc) (x := x) (ob := ob) ?_ hob hq hF
  have e : q.lb.map (fun e => some (renB (rho L) e.2)) = q.lb.map (fun e => some (cond (Nat.beq e.1 0) e.2 (renB (rho L) e.2))) := by
    refine List.map_congr_left fun e he => ?_
    cases hb : Nat.beq e.1 0 with
    | true => rw [hr.b e he hb]; rfl
    | false => rfl
  have e2 : q.lt.map (fun e => some (renV (rho L) e.2)) = q.lt.map (fun e => some (cond (Nat.beq e.1 1) e.2 (renV (rho L) e.2))) := by
    refine List.map_congr_left fun e he => ?_
    cases hb : Nat.beq e.1 1 with
    | true => rw [hr.t e he hb]; rfl
    | false => rfl
  rw [e, e2]
  exact h

/-- Block 0 and temporary 1 alone are open. -/
structure Open0 (sv : Value) (o0 : Blk) : Prop where
  v : ∀ ρ : Nat → Nat, ρ 0 = 0 → renV ρ sv = sv
  b : ∀ ρ : Nat → Nat, renB ρ o0 = o0

theorem open_row0 {D : Deeds} (h : DOK D) : Open0 (rowV D) (rowB D) :=
  ⟨fun ρ e => by show Value.slice (some ⟨ρ 0, 0, none⟩) _ _ = _; rw [e]; rfl, fun ρ => by show Blk.cells (renL ρ D.xs) D.e .ro = _; rw [renL_id h.simple]; rfl⟩
theorem open_nil0 : Open0 (.slice none 0 0) .dead := ⟨fun _ _ => rfl, fun _ => rfl⟩
theorem open_zero0 (D : Deeds) : Open0 (rowV D) .dead := ⟨fun ρ e => by show Value.slice (some ⟨ρ 0, 0, none⟩) _ _ = _; rw [e]; rfl, fun _ => rfl⟩

/-! the obligations -/
theorem an {a b : Bool} (h : a = true) (k : b = true) : (a && b) = true := by rw [h, k]; rfl
theorem nn {a : Bool} (h : a = true) : (!(!a)) = true := by rw [h]; rfl
theorem nt {a : Bool} (h : a = false) : (!a) = true := by rw [h]; rfl
theorem hB {a b : Nat} (h : a < b) : Nat.blt a b = true := blt_iff.2 h
theorem hNB {a b : Nat} (h : ¬ a < b) : Nat.blt a b = false := by
  cases e : Nat.blt a b with
  | true => exact absurd (blt_iff.1 e) h
  | false => rfl
theorem hE {a b : Nat} (h : a ≤ b) : Nat.ble a b = true := ble_iff.2 h
theorem hNE {a b : Nat} (h : ¬ a ≤ b) : Nat.ble a b = false := by
  cases e : Nat.ble a b with
  | true => exact absurd (ble_iff.1 e) h
  | false => rfl
theorem hBeq {a b : Nat} (h : a = b) : Nat.beq a b = true := by subst h; exact Nat.beq_refl _
theorem wrapN {n : Nat} (h : n < 9223372036854775808) : wrapF .i64 (Int.ofNat n) = Int.ofNat n := by
  have h1 : (0 : Int) ≤ Int.ofNat n := Int.natCast_nonneg n
  have h2 : Int.ofNat n < 9223372036854775808 := by simp only [Int.ofNat_eq_natCast]; omega
  generalize Int.ofNat n = x at *
  unfold wrapF
  have : x % 18446744073709551616 = x := Int.emod_eq_of_lt h1 (by omega)
  simp only [this]
  rw [if_neg (by omega)]

/-- A cell of the row. -/
theorem DOK.at {D : Deeds} (h : DOK D) {i : Nat} (hi : i < D.len) : (Nat.blt (0 + i * 1) D.xs.length && isIntV .u8 (atD D.xs (0 + i * 1))) = true ∧ ∃ n : Nat, n ≤ 255 ∧ vInt (atD D.xs (0 + i * 1)) = .ofNat n := by
  have hl := h.len
  have e0 : 0 + i * 1 = i := by omega
  rw [e0]
  have hlt : i < D.xs.length := by omega
  obtain ⟨n, hn, hv⟩ := h.xs D.xs[i] (List.getElem_mem hlt)
  have ha : atD D.xs i = .int .u8 (.ofNat n) := by
    unfold atD
    rw [nth_eq, List.getElem?_eq_getElem hlt, hv]
  rw [ha]
  exact ⟨an (hB hlt) rfl, n, hn, rfl⟩

/-- A law's start: its arguments, the row's block. -/
theorem start_fam {n : Nat} {l : List (Nat × Value)} {o0 : Blk} {w : World} {β : Bij} {args : Array Value} (hn : args.size ≤ n) (hI : ∃ L, β 0 = some L ∧ OSim (fun k => w.heap.size ≤ k) β w o0 L) (hβ : ∀ k, 1 ≤ k → β k = none)
    (hT : ∀ e ∈ l, ∃ v', args[e.1]? = some v' ∧ V β e.2 v') :
    Fam (fun k => w.heap.size ≤ k) n ⟨l, [(0, o0)], 1⟩ w { tmps := args ++ Array.replicate (n - args.size) undef, defers := [] } w := by
  refine ⟨β, ⟨fun b o hb => ?_, fun b1 b2 o1 o2 L1 L2 hne h1 h2 _ _ _ _ _ => ?_, fun _ h => h⟩, hβ, ⟨by simp; omega, rfl, fun i u hu => ?_⟩, Ideal.Below.refl _ _⟩
  · have hb : ((Tr.nil : Tr Blk).set depth 0 o0).get b = some o := hb
    simp only [Tr.get_set, Tr.get_nil] at hb
    by_cases h0 : 0 = b
    · subst h0; rw [if_pos rfl] at hb; cases hb; exact hI
    · rw [if_neg h0] at hb; cases hb
  · have h1 : ((Tr.nil : Tr Blk).set depth 0 o0).get b1 = some o1 := h1
    have h2 : ((Tr.nil : Tr Blk).set depth 0 o0).get b2 = some o2 := h2
    simp only [Tr.get_set, Tr.get_nil] at h1 h2
    by_cases g1 : 0 = b1
    · by_cases g2 : 0 = b2
      · exact absurd (g1.symm.trans g2) hne
      · rw [if_neg g2] at h2; cases h2
    · rw [if_neg g1] at h1; cases h1
  · rcases setT_get l .nil i u hu with h | h
    · obtain ⟨v', h1, h2⟩ := hT _ h
      have hs := (Array.getElem?_eq_some_iff.1 h1).1
      exact ⟨v', by rw [Array.getElem?_append_left hs]; exact h1, h2⟩
    · cases h

/-- A row of bytes as a start: its value and its block. -/
inductive RowAt : Value → Blk → Prop
  | nil : RowAt (.slice none 0 0) .dead
  | zero (D : Deeds) : D.len = 0 → RowAt (rowV D) .dead
  | row (D : Deeds) : DOK D → RowAt (rowV D) (rowB D)

theorem RowAt.still {sv : Value} {o0 : Blk} (h : RowAt sv o0) : Open0 sv o0 := by
  cases h with
  | nil => exact open_nil0
  | zero D _ => exact open_zero0 D
  | row D h => exact open_row0 h

theorem wf8 {x : Int} (h : (Lit.int .u8 x).wf = true) : 0 ≤ x ∧ x ≤ 255 := by
  simpa [Lit.wf, IntKind.min, IntKind.max, IntKind.signed, IntKind.bits] using h

theorem row_start {H : Type} {w : World} {v : Value} {d : DataW H} {p : List MemPlace} (hr : Row w v d p) :
    ∃ (sv : Value) (o0 : Blk) (β : Bij), RowAt sv o0 ∧ (∃ L, β 0 = some L ∧ OSim (fun k => w.heap.size ≤ k) β w o0 L) ∧ (∀ k, 1 ≤ k → β k = none) ∧ V β sv v := by
  have hno : ∀ (b off n k : Nat), 1 ≤ k → roB b off n k = none := fun b off n k hk => by show (if k = 0 then _ else _) = _; rw [if_neg (by omega)]
  cases hr with
  | nil => exact ⟨_, _, roB 0 0 0, .nil, ⟨_, rfl, trivial⟩, hno 0 0 0, .nilsl⟩
  | «at» a len cap zs hl hm hz hcell hw =>
    have hu : cap < UNK := by unfold UNK; unfold maxLen at hm; omega
    rcases Nat.eq_zero_or_pos cap with h0 | h0
    · subst h0
      obtain rfl : len = 0 := by omega
      exact ⟨_, _, roB 0 0 0, .zero ⟨[], 0, 0, 0⟩ rfl, ⟨_, rfl, trivial⟩, hno 0 0 0, .sl0 _ _⟩
    · obtain ⟨b, off, spot⟩ := a
      have c0 := hcell 0 (by omega)
      obtain rfl : spot = .none := by simpa [Addr.add] using World.cell?_spot c0
      have hcell' : ∀ j, j < zs.length → w.cell? ⟨b, off + j, .none⟩ = Option.some (.int .u8 (zs.getD j 0)) := fun j hj => by rw [← add_plain]; exact hcell j hj
      have hblk : ∃ c e fz, w.heap[b]? = Option.some (.cells c e fz) := by
        have := hcell' 0 (by omega)
        unfold World.cell? at this
        cases hh : w.heap[b]? with
        | none => simp [hh] at this
        | some o =>
          cases o with
          | cells c e fz => exact ⟨c, e, fz, rfl⟩
          | _ => simp [hh] at this
      obtain ⟨c, e, fz, hb⟩ := hblk
      have hget : ∀ j, j < zs.length → c[off + j]? = Option.some (.int .u8 (zs.getD j 0)) := fun j hj => by
        have := hcell' j hj
        rw [cell_at hb] at this; exact this
      have hle : off + zs.length ≤ c.size := by
        have := hget (zs.length - 1) (by omega)
        have := (Array.getElem?_eq_some_iff.1 this).1
        omega
      have hD : DOK ⟨zs.map (.int .u8), e, len, cap⟩ := ⟨fun u hu' => by
          obtain ⟨y, hy, rfl⟩ := List.mem_map.1 hu'
          obtain ⟨l1, l2⟩ := wf8 (hw y hy)
          cases y with
          | ofNat n => exact ⟨n, by simp only [Int.ofNat_eq_natCast] at l2; omega, rfl⟩
          | negSucc n => exact absurd l1 (by simp), by simp; omega⟩
      refine ⟨_, _, roB b off c.size, .row _ hD, ⟨⟨b, off, c.size⟩, rfl, c, fz, hb, rfl, by simpa using hle, fun i u hi => ⟨u, ?_, V.of_simple (List.all_eq_true.1 hD.simple u (List.mem_of_getElem? hi))⟩, trivial⟩, hno b off c.size, V.ro hl hu⟩
      rw [List.getElem?_map] at hi
      cases hj : zs[i]? with
      | none => rw [hj] at hi; cases hi
      | some y =>
        rw [hj] at hi; cases hi
        have hlt := (List.getElem?_eq_some_iff.1 hj).1
        rw [hget i hlt, List.getD, hj]; rfl

end Go.Proofs.YtmfoipjfnjmbiaaGreatDoor
