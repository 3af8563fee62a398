/- Families of states: a loop's rounds, each from a small state of the family to another one, whatever the numbers of the blocks. -/
import Derived.Test.YtdkofgkmhgmmmaaGreatDoorPath
import Derived.Scope
namespace Go.Ideal
set_option linter.all false
set_option linter.unusedSimpArgs false
set_option linter.unusedVariables false
noncomputable section
open Go Go.RowKit
set_option maxHeartbeats 1000000

def renA (ρ : Nat → Nat) : Addr → Addr
  | ⟨b, o, none⟩ => ⟨ρ b, o, none⟩
  | a => a

mutual
/-- A value, its blocks under other numbers. -/
def renV (ρ : Nat → Nat) : Value → Value
  | .pointer (some a) => .pointer (some (renA ρ a))
  | .slice (some a) n c => .slice (some (renA ρ a)) n c
  | .map (some r) => .map (some (ρ r))
  | .func fn ⟨a⟩ ⟨c⟩ => .func fn ⟨renL ρ a⟩ ⟨renL ρ c⟩
  | .iface t v => .iface t (renV ρ v)
  | .agg ⟨a⟩ => .agg ⟨renL ρ a⟩
  | .tuple ⟨a⟩ => .tuple ⟨renL ρ a⟩
  | v => v
  termination_by structural x => x
def renL (ρ : Nat → Nat) : List Value → List Value
  | [] => []
  | v :: r => renV ρ v :: renL ρ r
  termination_by structural x => x
end

def renE (ρ : Nat → Nat) : List (Value × Value × Nat) → List (Value × Value × Nat)
  | [] => []
  | (k, v, n) :: r => (renV ρ k, renV ρ v, n) :: renE ρ r

def renB (ρ : Nat → Nat) : Blk → Blk
  | .cells xs e k => .cells (renL ρ xs) e k
  | .map es c => .map (renE ρ es) c
  | .iter s p => .iter s p
  | .miter m i seen l => .miter (m.map ρ) i seen l
  | .dead => .dead

section
variable {β : Bij} {ρ : Nat → Nat}

mutual
theorem V.ren : ∀ {v v' : Value}, V β (renV ρ v) v' → V (fun b => β (ρ b)) v v'
  | .bool b, _, h => by unfold renV at h; cases h; exact .bool _
  | .int k n, _, h => by unfold renV at h; cases h; exact .int _ _
  | .string s, _, h => by unfold renV at h; cases h; exact .string _
  | .pointer none, _, h => by unfold renV at h; cases h; exact .nilptr
  | .pointer (some ⟨b, o, none⟩), _, h => by unfold renV renA at h; cases h with | ptr e => exact .ptr e
  | .pointer (some ⟨b, o, some q⟩), _, h => by unfold renV renA at h; cases h
  | .slice none n c, _, h => by unfold renV at h; cases h; exact .nilsl
  | .slice (some ⟨b, o, none⟩) n c, _, h => by
    unfold renV renA at h
    cases h with
    | sl e c => exact .sl e c
    | slz A A' h1 h2 => exact .slz _ A' h1 h2
    | sl0 A A' => exact .sl0 _ A'
  | .slice (some ⟨b, o, some q⟩) n c, _, h => by
    unfold renV renA at h
    cases h with
    | slz A A' h1 h2 => exact .slz _ A' h1 h2
    | sl0 A A' => exact .sl0 _ A'
  | .map none, _, h => by unfold renV at h; cases h; exact .nilmap
  | .map (some r), _, h => by unfold renV at h; cases h with | map e => exact .map e
  | .nilFunc, _, h => by unfold renV at h; cases h; exact .nilfunc
  | .func fn ⟨a⟩ ⟨c⟩, _, h => by
    unfold renV at h
    cases h with
    | func _ h1 h2 => exact .func fn (VL.ren h1) (VL.ren h2)
  | .nilIface, _, h => by unfold renV at h; cases h; exact .nilif
  | .iface t v, _, h => by unfold renV at h; cases h with | iface _ h => exact .iface t (V.ren h)
  | .agg ⟨a⟩, _, h => by unfold renV at h; cases h with | agg h => exact .agg (VL.ren h)
  | .tuple ⟨a⟩, _, h => by unfold renV at h; cases h with | tuple h => exact .tuple (VL.ren h)
  | .float _ _, _, h => by unfold renV at h; cases h
  | .complex _ _ _, _, h => by unfold renV at h; cases h
  | .chan _, _, h => by unfold renV at h; cases h
theorem VL.ren : ∀ {l l' : List Value}, VL β (renL ρ l) l' → VL (fun b => β (ρ b)) l l'
  | [], _, h => by unfold renL at h; cases h; exact .nil
  | v :: r, _, h => by unfold renL at h; cases h with | cons h1 h2 => exact .cons (V.ren h1) (VL.ren h2)
end

theorem renL_length : ∀ (l : List Value), (renL ρ l).length = l.length
  | [] => rfl
  | v :: r => by unfold renL; simp [renL_length r]
theorem renL_get : ∀ (l : List Value) (i : Nat) (v : Value), l[i]? = some v → (renL ρ l)[i]? = some (renV ρ v)
  | [], _, _, h => by simp at h
  | x :: r, 0, v, h => by simp at h; subst h; unfold renL; rfl
  | x :: r, i + 1, v, h => by
    unfold renL
    simpa using renL_get r i v (by simpa using h)

theorem EL.ren : ∀ {l : List (Value × Value × Nat)} {l' : List MapEntry}, EL β (renE ρ l) l' → EL (fun b => β (ρ b)) l l'
  | [], _, h => by unfold renE at h; cases h; exact .nil
  | (k, v, n) :: r, _, h => by unfold renE at h; cases h with | cons a b c d => exact .cons a.ren b.ren c d.ren

theorem OSim.ren {N0 : Nat → Prop} {w : World} {o : Blk} {L : Loc} (h : OSim N0 β w (renB ρ o) L) : OSim N0 (fun b => β (ρ b)) w o L := by
  cases o with
  | cells xs e k =>
    obtain ⟨c, fz, h1, h2, h3, h4, h5⟩ := h
    refine ⟨c, fz, h1, h2, by rw [renL_length] at h3; exact h3, fun i v hv => ?_, h5⟩
    obtain ⟨v', a, b⟩ := h4 i _ (renL_get xs i v hv)
    exact ⟨v', a, b.ren⟩
  | map es c => obtain ⟨es', h1, h2, h3⟩ := h; exact ⟨es', h1, h2.ren, h3⟩
  | iter s p => exact h
  | miter m i seen l =>
    obtain ⟨⟨m', h1, h2⟩, h3⟩ := h
    refine ⟨⟨m', ?_, h2⟩, h3⟩
    cases m with
    | none => cases m' <;> exact h1
    | some b => cases m' <;> exact h1
  | dead => trivial
end

theorem renB_live (ρ : Nat → Nat) (o : Blk) : (renB ρ o).live = o.live := by cases o <;> rfl
theorem renB_isRo (ρ : Nat → Nat) (o : Blk) : (renB ρ o).isRo = o.isRo := by
  cases o with
  | cells xs e k => cases k <;> rfl
  | _ => rfl

/-- A point of a run: temporaries, blocks, the next block's number. -/
structure Pt where
  lt : List (Nat × Value)
  lb : List (Nat × Blk)
  nx : Nat

def setT : Tr Value → List (Nat × Value) → Tr Value
  | t, [] => t
  | t, (i, v) :: r => setT (t.set 5 i v) r
def setH : Tr Blk → List (Nat × Blk) → Tr Blk
  | t, [] => t
  | t, (i, v) :: r => setH (t.set depth i v) r
def Pt.tm (p : Pt) : Tr Value := setT .nil p.lt
def Pt.s (p : Pt) : S := ⟨setH .nil p.lb, p.nx, 0, 0⟩

theorem setT_get : ∀ (l : List (Nat × Value)) (t : Tr Value) (i : Nat) (v : Value), (setT t l).get i = some v → (i, v) ∈ l ∨ t.get i = some v
  | [], _, _, _, h => .inr h
  | (j, u) :: r, t, i, v, h => by
    rcases setT_get r _ i v h with h | h
    · exact .inl (List.mem_cons_of_mem _ h)
    · rw [Tr.get_set] at h
      by_cases e : j = i
      · subst e; rw [if_pos rfl] at h; cases h; exact .inl List.mem_cons_self
      · rw [if_neg e] at h; exact .inr h
theorem setH_get : ∀ (l : List (Nat × Blk)) (t : Tr Blk) (i : Nat) (v : Blk), (setH t l).get i = some v → (i, v) ∈ l ∨ t.get i = some v
  | [], _, _, _, h => .inr h
  | (j, u) :: r, t, i, v, h => by
    rcases setH_get r _ i v h with h | h
    · exact .inl (List.mem_cons_of_mem _ h)
    · rw [Tr.get_set] at h
      by_cases e : j = i
      · subst e; rw [if_pos rfl] at h; cases h; exact .inl List.mem_cons_self
      · rw [if_neg e] at h; exact .inr h

/-- Where a block of the new point lies in the state that the run left. -/
def rho (l : List Nat) (b : Nat) : Nat :=
  match nth l b with
  | some x => x
  | none => 1000000

/-- What a piece's run leaves, where one looks. -/
def pieceOf (r : Option ((Ex × Tr Value) × PS)) (ts bs : List Nat) : Option (Ex × List (Option Value) × List (Option Blk) × Bool × Bool) :=
  match r with
  | some ((x, tm), t) => some (x, ts.map tm.get, bs.map t.s.h.get, Nat.ble t.s.nx 1000000, t.ob)
  | none => none

def keysOK (n : Nat) (l : List (Nat × Blk)) : Bool := l.all fun e => Nat.blt e.1 n
def apart (ρ : Nat → Nat) : List (Nat × Blk) → Bool
  | [] => true
  | e :: r => (r.all fun e' => !Nat.beq (ρ e.1) (ρ e'.1)) && apart ρ r

theorem apart_inj {ρ : Nat → Nat} : ∀ {l : List (Nat × Blk)}, apart ρ l = true → ∀ {b1 b2 : Nat} {o1 o2 : Blk}, (b1, o1) ∈ l → (b2, o2) ∈ l → ρ b1 = ρ b2 → b1 = b2
  | [], _, _, _, _, _, h, _, _ => by cases h
  | e :: r, h, b1, b2, o1, o2, h1, h2, hr => by
    simp only [apart, Bool.and_eq_true, List.all_eq_true, Bool.not_eq_true'] at h
    rcases List.mem_cons.1 h1 with e1 | h1
    · rcases List.mem_cons.1 h2 with e2 | h2
      · rw [← e1] at e2; cases e2; rfl
      · have := h.1 _ h2
        rw [← e1] at this
        simp only at this
        rw [hr, Nat.beq_refl] at this; cases this
    · rcases List.mem_cons.1 h2 with e2 | h2
      · have := h.1 _ h1
        rw [← e2] at this
        simp only at this
        rw [hr, Nat.beq_refl] at this; cases this
      · exact apart_inj h.2 h1 h2 hr

theorem map_mem {α β γ : Type} {f : α → β} {g : γ → β} {k : γ → α} : ∀ {l : List γ}, (l.map k).map f = l.map g → ∀ x, x ∈ l → f (k x) = g x
  | [], _, _, h => by cases h
  | y :: r, e, x, h => by
    simp only [List.map_cons, List.cons.injEq] at e
    rcases List.mem_cons.1 h with rfl | h
    · exact e.1
    · exact map_mem e.2 x h

/-- A world, an activation stand at a point of the family. -/
def Fam (N0 : Nat → Prop) (n : Nat) (p : Pt) (w0 : World) (a : Act) (w : World) : Prop :=
  ∃ β : Bij, Inv N0 β p.s.h.get w ∧ (∀ b, p.nx ≤ b → β b = none) ∧ TS β n p.tm a ∧ Below N0 w0 w

section
variable {P : Program} {E : Env} {X : Ways} {N0 : Nat → Prop} {n d k : Nat}

/-- A piece's run from one point to another. -/
theorem Fam.step (hG : Good P E) (hX : WaysOK E X) {c : Code} {p q : Pt} {L : List Nat} {sc : List (Nat × Turn)} {x : Ex} {ob : Bool}
    (h : pieceOf (execP E X (callP E X d) n k c p.tm ⟨p.s, 0, sc, true⟩) (q.lt.map Prod.fst) (q.lb.map fun e => rho L e.1) =
      some (x, q.lt.map (fun e => some (renV (rho L) e.2)), q.lb.map (fun e => some (renB (rho L) e.2)), true, ob)) (hob : ob = true)
    (hq : (keysOK q.nx q.lb && apart (rho L) q.lb && Nat.beq L.length q.nx) = true) {w0 w : World} {a : Act} (hF : Fam N0 n p w0 a w) :
    c.wp P (fun ex a' w' => ExR ex x ∧ Fam N0 n q w0 a' w') a w := by
  cases hr : execP E X (callP E X d) n k c p.tm ⟨p.s, 0, sc, true⟩ with
  | none => rw [hr] at h; cases h
  | some r =>
    obtain ⟨⟨x', tm'⟩, t⟩ := r
    rw [hr] at h
    simp only [pieceOf, Option.some.injEq, Prod.mk.injEq] at h
    obtain ⟨rfl, h1, h2, h3, rfl⟩ := h
    simp only [Bool.and_eq_true] at hq
    obtain ⟨⟨k1, k2⟩, k3⟩ := hq
    have k3 := Nat.eq_of_beq_eq_true k3
    obtain ⟨_, he⟩ := snd_execP hX (fun fr f l => snd_callP hX d fr f l) n k c p.tm _ _ _ hr hob
    obtain ⟨β, hI, hnone, hT, hB⟩ := hF
    have hrs := resp_callM hG.resp d
    have hnx : p.s.nx ≤ t.s.nx := Resp.mono_nx (resp_exec hG.resp hrs n k c p.tm) he
    refine wp_mono (sim_exec hG.env (hG.link N0) hG.resp (sim_call hG.env (hG.link N0) hG.resp d) hrs k c p.tm p.s x' tm' t.s β w a he hI (fun b hb _ => hnone b hb) (fun g hg => by rw [hG.glob g] at hg; cases hg) hT).1 ?_
    rintro ex a' w' ⟨hx, β', hT', hO⟩
    refine ⟨hx, fun b => if b < q.nx then β' (rho L b) else none, ?_, fun b hb => if_neg (by omega), ?_, hB.trans hO.below⟩
    · -- beyond the new blocks nothing is known
      have hfar : ∀ b, t.s.nx ≤ b → β' b = none := fun b hb => by
        cases e : β' b with
        | none => rfl
        | some L' =>
          have := hO.ext.new b L' e (hnone b (by have : p.nx ≤ t.s.nx := hnx; omega))
          omega
      have hmem : ∀ b o, q.s.h.get b = some o → (b, o) ∈ q.lb := fun b o hg => by
        rcases setH_get q.lb .nil b o hg with h | h
        · exact h
        · cases h
      have key : ∀ b o, (b, o) ∈ q.lb → b < q.nx ∧ t.s.h.get (rho L b) = some (renB (rho L) o) := fun b o hm =>
        ⟨blt_iff.1 (List.all_eq_true.1 k1 _ hm), map_mem (f := t.s.h.get) (g := fun e => some (renB (rho L) e.2)) (k := fun e : Nat × Blk => rho L e.1) h2 _ hm⟩
      have hβ : ∀ b, (fun b => if b < q.nx then β' (rho L b) else none) b = β' (rho L b) := fun b => by
        show (if b < q.nx then _ else _) = _
        by_cases hb : b < q.nx
        · rw [if_pos hb]
        · rw [if_neg hb]
          have : rho L b = 1000000 := by
            unfold rho
            rw [nth_eq, List.getElem?_eq_none (by omega)]
          rw [this, hfar _ (ble_iff.1 h3)]
      have hfun : (fun b => if b < q.nx then β' (rho L b) else none) = fun b => β' (rho L b) := funext hβ
      rw [hfun]
      refine ⟨fun b o hg => ?_, fun b1 b2 o1 o2 L1 L2 hne g1 g2 l1 l2 e1 e2 er => ?_, hO.inv.size⟩
      · obtain ⟨_, hb⟩ := key b o (hmem b o hg)
        obtain ⟨L', e1, e2⟩ := hO.inv.live _ _ hb
        exact ⟨L', e1, e2.ren⟩
      · have m1 := hmem _ _ g1; have m2 := hmem _ _ g2
        obtain ⟨_, hb1⟩ := key b1 o1 m1
        obtain ⟨_, hb2⟩ := key b2 o2 m2
        have := hO.inv.alone (rho L b1) (rho L b2) _ _ L1 L2 (fun e => hne (apart_inj k2 m1 m2 e)) hb1 hb2 (by rw [renB_live]; exact l1) (by rw [renB_live]; exact l2) e1 e2 er
        rw [renB_isRo, renB_isRo] at this; exact this
    · have hfar : ∀ b, t.s.nx ≤ b → β' b = none := fun b hb => by
        cases e : β' b with
        | none => rfl
        | some L' =>
          have := hO.ext.new b L' e (hnone b (by have : p.nx ≤ t.s.nx := hnx; omega))
          omega
      have hfun : (fun b => if b < q.nx then β' (rho L b) else none) = fun b => β' (rho L b) := funext fun b => by
        by_cases hb : b < q.nx
        · rw [if_pos hb]
        · rw [if_neg hb]
          have : rho L b = 1000000 := by
            unfold rho
            rw [nth_eq, List.getElem?_eq_none (by omega)]
          rw [this, hfar _ (ble_iff.1 h3)]
      rw [hfun]
      refine ⟨hT'.size, hT'.defers, fun i v hv => ?_⟩
      have hm : (i, v) ∈ q.lt := by
        rcases setT_get q.lt .nil i v hv with h | h
        · exact h
        · cases h
      have := map_mem (f := tm'.get) (g := fun e => some (renV (rho L) e.2)) (k := Prod.fst) h1 _ hm
      obtain ⟨v', e1, e2⟩ := hT'.rel i _ this
      exact ⟨v', e1, e2.ren⟩

end
end
end Go.Ideal
