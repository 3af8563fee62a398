/- Families of states: a loop's rounds, each from a small state of the family to another one, whatever the numbers of the blocks. -/
import Derived.Test.YtmmplhfimnhcpaaGreatDoorPath
import Derived.Scope
import Derived.Test.YtmmplhfimnhcpaaGreatDoorFa
import Derived.Test.YtmmplhfimnhcpaaGreatDoorArg
namespace Go.Ideal
set_option linter.all false
set_option linter.unusedSimpArgs false
set_option linter.unusedVariables false
noncomputable section
open Go Go.RowKit
set_option maxHeartbeats 1000000

def renA (ρ : Nat → Nat) : Addr → Addr
  | ⟨b, o, none⟩ => ⟨ρ b, o, none⟩
  | a => a

mutual
/-- A value, its blocks under other numbers. -/
def renV (ρ : Nat → Nat) : Value → Value
  | .pointer (some a) => .pointer (some (renA ρ a))
  | .slice (some a) n c => .slice (some (renA ρ a)) n c
  | .map (some r) => .map (some (ρ r))
  | .func fn ⟨a⟩ ⟨c⟩ => .func fn ⟨renL ρ a⟩ ⟨renL ρ c⟩
  | .iface t v => .iface t (renV ρ v)
  | .agg ⟨a⟩ => .agg ⟨renL ρ a⟩
  | .tuple ⟨a⟩ => .tuple ⟨renL ρ a⟩
  | v => v
  termination_by structural x => x
def renL (ρ : Nat → Nat) : List Value → List Value
  | [] => []
  | v :: r => renV ρ v :: renL ρ r
  termination_by structural x => x
end

def renE (ρ : Nat → Nat) : List (Value × Value × Nat) → List (Value × Value × Nat)
  | [] => []
  | (k, v, n) :: r => (renV ρ k, renV ρ v, n) :: renE ρ r

def renB (ρ : Nat → Nat) : Blk → Blk
  | .cells xs e k => .cells (renL ρ xs) e k
  | .map es c => .map (renE ρ es) c
  | .iter s p => .iter s p
  | .miter m i seen l => .miter (m.map ρ) i seen l
  | .dead => .dead

section
variable {β : Bij} {ρ : Nat → Nat}

mutual
theorem V.ren : ∀ {v v' : Value}, V β (renV ρ v) v' → V (fun b => β (ρ b)) v v'
  | .bool b, _, h => by unfold renV at h; cases h; exact .bool _
  | .int k n, _, h => by unfold renV at h; cases h; exact .int _ _
  | .string s, _, h => by unfold renV at h; cases h; exact .string _
  | .pointer none, _, h => by unfold renV at h; cases h; exact .nilptr
  | .pointer (some ⟨b, o, none⟩), _, h => by unfold renV renA at h; cases h with | ptr e => exact .ptr e
  | .pointer (some ⟨b, o, some q⟩), _, h => by unfold renV renA at h; cases h
  | .slice none n c, _, h => by unfold renV at h; cases h; exact .nilsl
  | .slice (some ⟨b, o, none⟩) n c, _, h => by
    unfold renV renA at h
    cases h with
    | sl e c => exact .sl e c
    | slz A A' h1 h2 => exact .slz _ A' h1 h2
    | sl0 A A' => exact .sl0 _ A'
  | .slice (some ⟨b, o, some q⟩) n c, _, h => by
    unfold renV renA at h
    cases h with
    | slz A A' h1 h2 => exact .slz _ A' h1 h2
    | sl0 A A' => exact .sl0 _ A'
  | .map none, _, h => by unfold renV at h; cases h; exact .nilmap
  | .map (some r), _, h => by unfold renV at h; cases h with | map e => exact .map e
  | .nilFunc, _, h => by unfold renV at h; cases h; exact .nilfunc
  | .func fn ⟨a⟩ ⟨c⟩, _, h => by
    unfold renV at h
    cases h with
    | func _ h1 h2 => exact .func fn (VL.ren h1) (VL.ren h2)
  | .nilIface, _, h => by unfold renV at h; cases h; exact .nilif
  | .iface t v, _, h => by unfold renV at h; cases h with | iface _ h => exact .iface t (V.ren h)
  | .agg ⟨a⟩, _, h => by unfold renV at h; cases h with | agg h => exact .agg (VL.ren h)
  | .tuple ⟨a⟩, _, h => by unfold renV at h; cases h with | tuple h => exact .tuple (VL.ren h)
  | .float _ _, _, h => by unfold renV at h; cases h
  | .complex _ _ _, _, h => by unfold renV at h; cases h
  | .chan _, _, h => by unfold renV at h; cases h
theorem VL.ren : ∀ {l l' : List Value}, VL β (renL ρ l) l' → VL (fun b => β (ρ b)) l l'
  | [], _, h => by unfold renL at h; cases h; exact .nil
  | v :: r, _, h => by unfold renL at h; cases h with | cons h1 h2 => exact .cons (V.ren h1) (VL.ren h2)
end

theorem renL_length : ∀ (l : List Value), (renL ρ l).length = l.length
  | [] => rfl
  | v :: r => by unfold renL; simp [renL_length r]
theorem renL_get : ∀ (l : List Value) (i : Nat) (v : Value), l[i]? = some v → (renL ρ l)[i]? = some (renV ρ v)
  | [], _, _, h => by simp at h
  | x :: r, 0, v, h => by simp at h; subst h; unfold renL; rfl
  | x :: r, i + 1, v, h => by
    unfold renL
    simpa using renL_get r i v (by simpa using h)

theorem EL.ren : ∀ {l : List (Value × Value × Nat)} {l' : List MapEntry}, EL β (renE ρ l) l' → EL (fun b => β (ρ b)) l l'
  | [], _, h => by unfold renE at h; cases h; exact .nil
  | (k, v, n) :: r, _, h => by unfold renE at h; cases h with | cons a b c d => exact .cons a.ren b.ren c d.ren

theorem OSim.ren {N0 : Nat} {w : World} {o : Blk} {L : Loc} (h : OSim N0 β w (renB ρ o) L) : OSim N0 (fun b => β (ρ b)) w o L := by
  cases o with
  | cells xs e k =>
    obtain ⟨c, fz, h1, h2, h3, h4, h5⟩ := h
    refine ⟨c, fz, h1, h2, by rw [renL_length] at h3; exact h3, fun i v hv => ?_, h5⟩
    obtain ⟨v', a, b⟩ := h4 i _ (renL_get xs i v hv)
    exact ⟨v', a, b.ren⟩
  | map es c => obtain ⟨es', h1, h2, h3⟩ := h; exact ⟨es', h1, h2.ren, h3⟩
  | iter s p => exact h
  | miter m i seen l =>
    obtain ⟨⟨m', h1, h2⟩, h3⟩ := h
    refine ⟨⟨m', ?_, h2⟩, h3⟩
    cases m with
    | none => cases m' <;> exact h1
    | some b => cases m' <;> exact h1
  | dead => trivial
end

theorem renB_live (ρ : Nat → Nat) (o : Blk) : (renB ρ o).live = o.live := by cases o <;> rfl
theorem renB_isRo (ρ : Nat → Nat) (o : Blk) : (renB ρ o).isRo = o.isRo := by
  cases o with
  | cells xs e k => cases k <;> rfl
  | _ => rfl

/-- A point of a run: temporaries, blocks, the next block's number. -/
structure Pt where
  lt : List (Nat × Value)
  lb : List (Nat × Blk)
  nx : Nat

def setT : Tr Value → List (Nat × Value) → Tr Value
  | t, [] => t
  | t, (i, v) :: r => setT (t.set 5 i v) r
def setH : Tr Blk → List (Nat × Blk) → Tr Blk
  | t, [] => t
  | t, (i, v) :: r => setH (t.set depth i v) r
def Pt.tm (p : Pt) : Tr Value := setT .nil p.lt
def Pt.s (p : Pt) : S := ⟨setH .nil p.lb, p.nx, 0, 0⟩

theorem setT_get : ∀ (l : List (Nat × Value)) (t : Tr Value) (i : Nat) (v : Value), (setT t l).get i = some v → (i, v) ∈ l ∨ t.get i = some v
  | [], _, _, _, h => .inr h
  | (j, u) :: r, t, i, v, h => by
    rcases setT_get r _ i v h with h | h
    · exact .inl (List.mem_cons_of_mem _ h)
    · rw [Tr.get_set] at h
      by_cases e : j = i
      · subst e; rw [if_pos rfl] at h; cases h; exact .inl List.mem_cons_self
      · rw [if_neg e] at h; exact .inr h
theorem setH_get : ∀ (l : List (Nat × Blk)) (t : Tr Blk) (i : Nat) (v : Blk), (setH t l).get i = some v → (i, v) ∈ l ∨ t.get i = some v
  | [], _, _, _, h => .inr h
  | (j, u) :: r, t, i, v, h => by
    rcases setH_get r _ i v h with h | h
    · exact .inl (List.mem_cons_of_mem _ h)
    · rw [Tr.get_set] at h
      by_cases e : j = i
      · subst e; rw [if_pos rfl] at h; cases h; exact .inl List.mem_cons_self
      · rw [if_neg e] at h; exact .inr h

/-- Where a block of the new point lies in the state that the run left. -/
def rho (l : List Nat) (b : Nat) : Nat :=
  match nth l b with
  | some x => x
  | none => 1000000

/-- What a piece's run leaves, where one looks. -/
def pieceOf (r : Option ((Ex × Tr Value) × PS)) (ts bs : List Nat) : Option (Ex × List (Option Value) × List (Option Blk) × Bool × Bool) :=
  match r with
  | some ((x, tm), t) => some (x, ts.map tm.get, bs.map t.s.h.get, Nat.ble t.s.nx 1000000, t.ob)
  | none => none

def keysOK (n : Nat) (l : List (Nat × Blk)) : Bool := l.all fun e => Nat.blt e.1 n
def apart (ρ : Nat → Nat) : List (Nat × Blk) → Bool
  | [] => true
  | e :: r => (r.all fun e' => !Nat.beq (ρ e.1) (ρ e'.1)) && apart ρ r

theorem apart_inj {ρ : Nat → Nat} : ∀ {l : List (Nat × Blk)}, apart ρ l = true → ∀ {b1 b2 : Nat} {o1 o2 : Blk}, (b1, o1) ∈ l → (b2, o2) ∈ l → ρ b1 = ρ b2 → b1 = b2
  | [], _, _, _, _, _, h, _, _ => by cases h
  | e :: r, h, b1, b2, o1, o2, h1, h2, hr => by
    simp only [apart, Bool.and_eq_true, List.all_eq_true, Bool.not_eq_true'] at h
    rcases List.mem_cons.1 h1 with e1 | h1
    · rcases List.mem_cons.1 h2 with e2 | h2
      · rw [← e1] at e2; cases e2; rfl
      · have := h.1 _ h2
        rw [← e1] at this
        simp only at this
        rw [hr, Nat.beq_refl] at this; cases this
    · rcases List.mem_cons.1 h2 with e2 | h2
      · have := h.1 _ h1
        rw [← e2] at this
        simp only at this
        rw [hr, Nat.beq_refl] at this; cases this
      · exact apart_inj h.2 h1 h2 hr

theorem map_mem {α β γ : Type} {f : α → β} {g : γ → β} {k : γ → α} : ∀ {l : List γ}, (l.map k).map f = l.map g → ∀ x, x ∈ l → f (k x) = g x
  | [], _, _, h => by cases h
  | y :: r, e, x, h => by
    simp only [List.map_cons, List.cons.injEq] at e
    rcases List.mem_cons.1 h with rfl | h
    · exact e.1
    · exact map_mem e.2 x h

/-- A world, an activation stand at a point of the family. -/
def Fam (N0 n : Nat) (p : Pt) (w0 : World) (a : Act) (w : World) : Prop :=
  ∃ β : Bij, Inv N0 β p.s.h.get w ∧ (∀ b, p.nx ≤ b → β b = none) ∧ TS β n p.tm a ∧ Below N0 w0 w

section
variable {P : Program} {E : Env} {X : Ways} {N0 n d k : Nat}

/-- A piece's run from one point to another. -/
theorem Fam.step (hG : Good P E) (hX : WaysOK E X) {c : Code} {p q : Pt} {L : List Nat} {sc : List (Nat × Turn)} {x : Ex} {ob : Bool}
    (h : pieceOf (execP E X (callP E X d) n k c p.tm ⟨p.s, 0, sc, true⟩) (q.lt.map Prod.fst) (q.lb.map fun e => rho L e.1) =
      some (x, q.lt.map (fun e => some (renV (rho L) e.2)), q.lb.map (fun e => some (renB (rho L) e.2)), true, ob)) (hob : ob = true)
    (hq : (keysOK q.nx q.lb && apart (rho L) q.lb && Nat.beq L.length q.nx) = true) {w0 w : World} {a : Act} (hF : Fam N0 n p w0 a w) :
    c.wp P (fun ex a' w' => ExR ex x ∧ Fam N0 n q w0 a' w') a w := by
  cases hr : execP E X (callP E X d) n k c p.tm ⟨p.s, 0, sc, true⟩ with
  | none => rw [hr] at h; cases h
  | some r =>
    obtain ⟨⟨x', tm'⟩, t⟩ := r
    rw [hr] at h
    simp only [pieceOf, Option.some.injEq, Prod.mk.injEq] at h
    obtain ⟨rfl, h1, h2, h3, rfl⟩ := h
    simp only [Bool.and_eq_true] at hq
    obtain ⟨⟨k1, k2⟩, k3⟩ := hq
    have k3 := Nat.eq_of_beq_eq_true k3
    obtain ⟨_, he⟩ := snd_execP hX (fun fr f l => snd_callP hX d fr f l) n k c p.tm _ _ _ hr hob
    obtain ⟨β, hI, hnone, hT, hB⟩ := hF
    have hrs := resp_callM hG.resp d
    have hnx : p.s.nx ≤ t.s.nx := Resp.mono_nx (resp_exec hG.resp hrs n k c p.tm) he
    refine wp_mono (sim_exec hG.env (hG.link N0) hG.resp (sim_call hG.env (hG.link N0) hG.resp d) hrs k c p.tm p.s x' tm' t.s β w a he hI (fun b hb _ => hnone b hb) (fun g hg => by rw [hG.glob g] at hg; cases hg) hT).1 ?_
    rintro ex a' w' ⟨hx, β', hT', hO⟩
    refine ⟨hx, fun b => if b < q.nx then β' (rho L b) else none, ?_, fun b hb => if_neg (by omega), ?_, hB.trans hO.below⟩
    · -- beyond the new blocks nothing is known
      have hfar : ∀ b, t.s.nx ≤ b → β' b = none := fun b hb => by
        cases e : β' b with
        | none => rfl
        | some L' =>
          have := hO.ext.new b L' e (hnone b (by have : p.nx ≤ t.s.nx := hnx; omega))
          omega
      have hmem : ∀ b o, q.s.h.get b = some o → (b, o) ∈ q.lb := fun b o hg => by
        rcases setH_get q.lb .nil b o hg with h | h
        · exact h
        · cases h
      have key : ∀ b o, (b, o) ∈ q.lb → b < q.nx ∧ t.s.h.get (rho L b) = some (renB (rho L) o) := fun b o hm =>
        ⟨blt_iff.1 (List.all_eq_true.1 k1 _ hm), map_mem (f := t.s.h.get) (g := fun e => some (renB (rho L) e.2)) (k := fun e : Nat × Blk => rho L e.1) h2 _ hm⟩
      have hβ : ∀ b, (fun b => if b < q.nx then β' (rho L b) else none) b = β' (rho L b) := fun b => by
        show (if b < q.nx then _ else _) = _
        by_cases hb : b < q.nx
        · rw [if_pos hb]
        · rw [if_neg hb]
          have : rho L b = 1000000 := by
            unfold rho
            rw [nth_eq, List.getElem?_eq_none (by omega)]
          rw [this, hfar _ (ble_iff.1 h3)]
      have hfun : (fun b => if b < q.nx then β' (rho L b) else none) = fun b => β' (rho L b) := funext hβ
      rw [hfun]
      refine ⟨fun b o hg => ?_, fun b1 b2 o1 o2 L1 L2 hne g1 g2 l1 l2 e1 e2 er => ?_, hO.inv.size⟩
      · obtain ⟨_, hb⟩ := key b o (hmem b o hg)
        obtain ⟨L', e1, e2⟩ := hO.inv.live _ _ hb
        exact ⟨L', e1, e2.ren⟩
      · have m1 := hmem _ _ g1; have m2 := hmem _ _ g2
        obtain ⟨_, hb1⟩ := key b1 o1 m1
        obtain ⟨_, hb2⟩ := key b2 o2 m2
        have := hO.inv.alone (rho L b1) (rho L b2) _ _ L1 L2 (fun e => hne (apart_inj k2 m1 m2 e)) hb1 hb2 (by rw [renB_live]; exact l1) (by rw [renB_live]; exact l2) e1 e2 er
        rw [renB_isRo, renB_isRo] at this; exact this
    · have hfar : ∀ b, t.s.nx ≤ b → β' b = none := fun b hb => by
        cases e : β' b with
        | none => rfl
        | some L' =>
          have := hO.ext.new b L' e (hnone b (by have : p.nx ≤ t.s.nx := hnx; omega))
          omega
      have hfun : (fun b => if b < q.nx then β' (rho L b) else none) = fun b => β' (rho L b) := funext fun b => by
        by_cases hb : b < q.nx
        · rw [if_pos hb]
        · rw [if_neg hb]
          have : rho L b = 1000000 := by
            unfold rho
            rw [nth_eq, List.getElem?_eq_none (by omega)]
          rw [this, hfar _ (ble_iff.1 h3)]
      rw [hfun]
      refine ⟨hT'.size, hT'.defers, fun i v hv => ?_⟩
      have hm : (i, v) ∈ q.lt := by
        rcases setT_get q.lt .nil i v hv with h | h
        · exact h
        · cases h
      have := map_mem (f := tm'.get) (g := fun e => some (renV (rho L) e.2)) (k := Prod.fst) h1 _ hm
      obtain ⟨v', e1, e2⟩ := hT'.rel i _ this
      exact ⟨v', e1, e2.ren⟩

end
end
end Go.Ideal

namespace Go.Proofs.YtmmplhfimnhcpaaGreatDoor
open Go Go.Ideal
set_option maxRecDepth 100000

noncomputable def memo20x1 : Memo := ⟨20, [.slice none 0 0, .int .i64 (.ofNat 0)], 1, [],
    .tuple ⟨[.pointer (some ⟨4, 0, none⟩), .pointer (some ⟨29, 0, none⟩), .agg ⟨[.int .i64 (.ofNat 1), .slice none 0 0, .map (some 6), .map (some 7), .map (some 8), .map (some 9)]⟩, .bool true]⟩, 272, [(1, .cells [.int .i64 (.ofNat 1), .slice none 0 0, .map (some 6), .map (some 7), .map (some 8), .map (some 9)] 59 .var),
    (2, .map [(.string ⟨⟨[112, 48, 48, 48, 48, 48, 48, 48, 49]⟩⟩, .pointer (some ⟨14, 0, none⟩), 0)] 1),
    (3, .map [] 0),
    (4, .cells [.int .i64 (.ofNat 16777216), .map (some 2), .map (some 270), .slice none 0 0, .int .i64 (.ofNat 5), .int .i64 (.ofNat 0)] 133 .var),
    (5, .cells [.int .i64 (.ofNat 1), .slice none 0 0, .map (some 6), .map (some 7), .map (some 8), .map (some 9)] 59 .var),
    (6, .map [] 0),
    (7, .map [] 0),
    (8, .map [] 0),
    (9, .map [] 0),
    (10, .cells [.int .i64 (.ofNat 1), .slice none 0 0, .map (some 6), .map (some 7), .map (some 8), .map (some 9)] 59 .var),
    (11, .cells [.map (some 2)] 130 .var),
    (12, .cells [.map (some 2)] 130 .var),
    (13, .cells [.string ⟨⟨[112, 48, 48, 48, 48, 48, 48, 48, 49]⟩⟩] 9 .var),
    (14, .cells [.slice (some ⟨24, 0, none⟩) 256 18446744073709551872, .slice (some ⟨269, 0, none⟩) 256 18446744073709551872, .slice none 0 0] 241 .var),
    (15, .cells [.string ⟨⟨[112, 48, 48, 48, 48, 48, 48, 48, 49]⟩⟩, .string ⟨⟨[]⟩⟩, .pointer (some ⟨14, 0, none⟩)] 246 .var),
    (16, .cells [.string ⟨⟨[112, 48, 48, 48, 48, 48, 48, 48, 49]⟩⟩, .string ⟨⟨[]⟩⟩, .pointer (some ⟨14, 0, none⟩)] 246 .var),
    (17, .cells [.string ⟨⟨[112, 48, 48, 48, 48, 48, 48, 48, 49]⟩⟩, .string ⟨⟨[]⟩⟩, .pointer (some ⟨14, 0, none⟩)] 246 .var),
    (18, .cells [.string ⟨⟨[112, 48, 48, 48, 48, 48, 48, 48, 49]⟩⟩, .string ⟨⟨[]⟩⟩, .pointer (some ⟨14, 0, none⟩)] 246 .grow),
    (19, .cells [.int .i64 (.ofNat 256)] 2 .var),
    (20, .cells [.int .i64 (.ofNat 256)] 2 .var),
    (21, .cells [.string ⟨⟨[112, 48, 48, 48, 48, 48, 48, 48, 49]⟩⟩] 9 .var),
    (22, .cells [.int .i64 (.ofNat 256)] 2 .var),
    (23, .cells [.slice none 0 0] 37 .var),
    (24, .cells [.int .u8 (.ofNat 0), .int .u8 (.ofNat 0), .int .u8 (.ofNat 0), .int .u8 (.ofNat 0), .int .u8 (.ofNat 0), .int .u8 (.ofNat 0), .int .u8 (.ofNat 0), .int .u8 (.ofNat 0), .int .u8 (.ofNat 0), .int .u8 (.ofNat 0), .int .u8 (.ofNat 0), .int .u8 (.ofNat 0), .int .u8 (.ofNat 0), .int .u8 (.ofNat 0), .int .u8 (.ofNat 0), .int .u8 (.ofNat 0), .int .u8 (.ofNat 0), .int .u8 (.ofNat 0), .int .u8 (.ofNat 0), .int .u8 (.ofNat 0), .int .u8 (.ofNat 0), .int .u8 (.ofNat 0), .int .u8 (.ofNat 0), .int .u8 (.ofNat 0), .int .u8 (.ofNat 0), .int .u8 (.ofNat 0), .int .u8 (.ofNat 0), .int .u8 (.ofNat 0), .int .u8 (.ofNat 0), .int .u8 (.ofNat 0), .int .u8 (.ofNat 0), .int .u8 (.ofNat 0), .int .u8 (.ofNat 0), .int .u8 (.ofNat 0), .int .u8 (.ofNat 0), .int .u8 (.ofNat 0), .int .u8 (.ofNat 0), .int .u8 (.ofNat 0), .int .u8 (.ofNat 0), .int .u8 (.ofNat 0), .int .u8 (.ofNat 0), .int .u8 (.ofNat 0), .int .u8 (.ofNat 0), .int .u8 (.ofNat 0), .int .u8 (.ofNat 0), .int .u8 (.ofNat 0), .int .u8 (.ofNat 0), .int .u8 (.ofNat 0), .int .u8 (.ofNat 0), .int .u8 (.ofNat 0), .int .u8 (.ofNat 0), .int .u8 (.ofNat 0), .int .u8 (.ofNat 0), .int .u8 (.ofNat 0), .int .u8 (.ofNat 0), .int .u8 (.ofNat 0), .int .u8 (.ofNat 0), .int .u8 (.ofNat 0), .int .u8 (.ofNat 0), .int .u8 (.ofNat 0), .int .u8 (.ofNat 0), .int .u8 (.ofNat 0), .int .u8 (.ofNat 0), .int .u8 (.ofNat 0), .int .u8 (.ofNat 0), .int .u8 (.ofNat 0), .int .u8 (.ofNat 0), .int .u8 (.ofNat 0), .int .u8 (.ofNat 0), .int .u8 (.ofNat 0), .int .u8 (.ofNat 0), .int .u8 (.ofNat 0), .int .u8 (.ofNat 0), .int .u8 (.ofNat 0), .int .u8 (.ofNat 0), .int .u8 (.ofNat 0), .int .u8 (.ofNat 0), .int .u8 (.ofNat 0), .int .u8 (.ofNat 0), .int .u8 (.ofNat 0), .int .u8 (.ofNat 0), .int .u8 (.ofNat 0), .int .u8 (.ofNat 0), .int .u8 (.ofNat 0), .int .u8 (.ofNat 0), .int .u8 (.ofNat 0), .int .u8 (.ofNat 0), .int .u8 (.ofNat 0), .int .u8 (.ofNat 0), .int .u8 (.ofNat 0), .int .u8 (.ofNat 0), .int .u8 (.ofNat 0), .int .u8 (.ofNat 0), .int .u8 (.ofNat 0), .int .u8 (.ofNat 0), .int .u8 (.ofNat 0), .int .u8 (.ofNat 0), .int .u8 (.ofNat 0), .int .u8 (.ofNat 0), .int .u8 (.ofNat 0), .int .u8 (.ofNat 0), .int .u8 (.ofNat 0), .int .u8 (.ofNat 0), .int .u8 (.ofNat 0), .int .u8 (.ofNat 0), .int .u8 (.ofNat 0), .int .u8 (.ofNat 0), .int .u8 (.ofNat 0), .int .u8 (.ofNat 0), .int .u8 (.ofNat 0), .int .u8 (.ofNat 0), .int .u8 (.ofNat 0), .int .u8 (.ofNat 0), .int .u8 (.ofNat 0), .int .u8 (.ofNat 0), .int .u8 (.ofNat 0), .int .u8 (.ofNat 0), .int .u8 (.ofNat 0), .int .u8 (.ofNat 0), .int .u8 (.ofNat 0), .int .u8 (.ofNat 0), .int .u8 (.ofNat 0), .int .u8 (.ofNat 0), .int .u8 (.ofNat 0), .int .u8 (.ofNat 0), .int .u8 (.ofNat 0), .int .u8 (.ofNat 0), .int .u8 (.ofNat 0), .int .u8 (.ofNat 80), .int .u8 (.ofNat 68), .int .u8 (.ofNat 0), .int .u8 (.ofNat 0), .int .u8 (.ofNat 0), .int .u8 (.ofNat 0), .int .u8 (.ofNat 0), .int .u8 (.ofNat 0), .int .u8 (.ofNat 0), .int .u8 (.ofNat 1), .int .u8 (.ofNat 88), .int .u8 (.ofNat 0), .int .u8 (.ofNat 0), .int .u8 (.ofNat 0), .int .u8 (.ofNat 0), .int .u8 (.ofNat 0), .int .u8 (.ofNat 0), .int .u8 (.ofNat 0), .int .u8 (.ofNat 1), .int .u8 (.ofNat 0), .int .u8 (.ofNat 0), .int .u8 (.ofNat 0), .int .u8 (.ofNat 0), .int .u8 (.ofNat 0), .int .u8 (.ofNat 0), .int .u8 (.ofNat 0), .int .u8 (.ofNat 0), .int .u8 (.ofNat 0), .int .u8 (.ofNat 0), .int .u8 (.ofNat 0), .int .u8 (.ofNat 0), .int .u8 (.ofNat 0), .int .u8 (.ofNat 0), .int .u8 (.ofNat 0), .int .u8 (.ofNat 0), .int .u8 (.ofNat 0), .int .u8 (.ofNat 0), .int .u8 (.ofNat 0), .int .u8 (.ofNat 0), .int .u8 (.ofNat 0), .int .u8 (.ofNat 0), .int .u8 (.ofNat 0), .int .u8 (.ofNat 0), .int .u8 (.ofNat 0), .int .u8 (.ofNat 0), .int .u8 (.ofNat 0), .int .u8 (.ofNat 0), .int .u8 (.ofNat 0), .int .u8 (.ofNat 0), .int .u8 (.ofNat 0), .int .u8 (.ofNat 0), .int .u8 (.ofNat 0), .int .u8 (.ofNat 0), .int .u8 (.ofNat 0), .int .u8 (.ofNat 0), .int .u8 (.ofNat 0), .int .u8 (.ofNat 0), .int .u8 (.ofNat 0), .int .u8 (.ofNat 0), .int .u8 (.ofNat 0), .int .u8 (.ofNat 0), .int .u8 (.ofNat 0), .int .u8 (.ofNat 0), .int .u8 (.ofNat 0), .int .u8 (.ofNat 0), .int .u8 (.ofNat 0), .int .u8 (.ofNat 0), .int .u8 (.ofNat 0), .int .u8 (.ofNat 0), .int .u8 (.ofNat 0), .int .u8 (.ofNat 0), .int .u8 (.ofNat 0), .int .u8 (.ofNat 0), .int .u8 (.ofNat 0), .int .u8 (.ofNat 0), .int .u8 (.ofNat 0), .int .u8 (.ofNat 0), .int .u8 (.ofNat 0), .int .u8 (.ofNat 0), .int .u8 (.ofNat 0), .int .u8 (.ofNat 0), .int .u8 (.ofNat 0), .int .u8 (.ofNat 0), .int .u8 (.ofNat 0), .int .u8 (.ofNat 0), .int .u8 (.ofNat 0), .int .u8 (.ofNat 0), .int .u8 (.ofNat 0), .int .u8 (.ofNat 0), .int .u8 (.ofNat 0), .int .u8 (.ofNat 0), .int .u8 (.ofNat 0), .int .u8 (.ofNat 0), .int .u8 (.ofNat 0), .int .u8 (.ofNat 0), .int .u8 (.ofNat 0), .int .u8 (.ofNat 0), .int .u8 (.ofNat 0), .int .u8 (.ofNat 0), .int .u8 (.ofNat 0), .int .u8 (.ofNat 0), .int .u8 (.ofNat 0), .int .u8 (.ofNat 0), .int .u8 (.ofNat 0), .int .u8 (.ofNat 0), .int .u8 (.ofNat 0), .int .u8 (.ofNat 0), .int .u8 (.ofNat 0), .int .u8 (.ofNat 0), .int .u8 (.ofNat 0), .int .u8 (.ofNat 0), .int .u8 (.ofNat 0), .int .u8 (.ofNat 0), .int .u8 (.ofNat 0), .int .u8 (.ofNat 0), .int .u8 (.ofNat 0), .int .u8 (.ofNat 0), .int .u8 (.ofNat 0), .int .u8 (.ofNat 0), .int .u8 (.ofNat 0), .int .u8 (.ofNat 0), .int .u8 (.ofNat 0), .int .u8 (.ofNat 0), .int .u8 (.ofNat 0), .int .u8 (.ofNat 0), .int .u8 (.ofNat 136), .int .u8 (.ofNat 251), .int .u8 (.ofNat 212)] 5 .grow),
    (25, .cells [.func (.func 204) ⟨[]⟩ ⟨[.pointer (some ⟨19, 0, none⟩)]⟩] 272 .var),
    (26, .dead),
    (27, .cells [.pointer (some ⟨4, 0, none⟩), .string ⟨⟨[112, 48, 48, 48, 48, 48, 48, 48, 49]⟩⟩, .int .i64 (.ofNat 256)] 156 .var),
    (28, .cells [.pointer (some ⟨27, 0, none⟩)] 49 .var),
    (29, .cells [.pointer (some ⟨4, 0, none⟩), .pointer (some ⟨27, 0, none⟩), .int .u64 (.ofNat 1), .int .i64 (.ofNat 1), .int .i64 (.ofNat 0), .int .u64 (.ofNat 0), .int .i64 (.ofNat 0), .int .u64 (.ofNat 0), .int .i64 (.ofNat 0), .int .u64 (.ofNat 0), .int .i64 (.ofNat 0), .int .u64 (.ofNat 0), .int .i64 (.ofNat 0), .int .u64 (.ofNat 0)] 113 .var),
    (30, .cells [.pointer (some ⟨29, 0, none⟩)] 24 .var),
    (31, .cells [.func (.func 113) ⟨[]⟩ ⟨[.pointer (some ⟨28, 0, none⟩), .pointer (some ⟨30, 0, none⟩)]⟩, .func (.func 93) ⟨[.pointer (some ⟨27, 0, none⟩)]⟩ ⟨[]⟩, .func (.func 48) ⟨[.pointer (some ⟨4, 0, none⟩)]⟩ ⟨[]⟩] 128 .var),
    (32, .cells [.int .u64 (.ofNat 1), .int .i64 (.ofNat 1), .int .i64 (.ofNat 0), .int .u64 (.ofNat 0), .int .i64 (.ofNat 0), .int .u64 (.ofNat 0), .int .i64 (.ofNat 0), .int .u64 (.ofNat 0), .int .i64 (.ofNat 0), .int .u64 (.ofNat 0), .int .i64 (.ofNat 0), .int .u64 (.ofNat 0)] 47 .var),
    (33, .cells [.int .u64 (.ofNat 1)] 22 .var),
    (34, .cells [.int .i64 (.ofNat 0), .int .u64 (.ofNat 0)] 44 .var),
    (35, .cells [.int .u64 (.ofNat 0), .int .u64 (.ofNat 0)] 22 .var),
    (36, .dead),
    (37, .cells [.int .i64 (.ofNat 0), .int .u64 (.ofNat 0)] 44 .var),
    (38, .cells [.int .u64 (.ofNat 0), .int .u64 (.ofNat 0)] 22 .var),
    (39, .dead),
    (40, .cells [.int .i64 (.ofNat 0), .int .u64 (.ofNat 0)] 44 .var),
    (41, .cells [.int .u64 (.ofNat 0), .int .u64 (.ofNat 0)] 22 .var),
    (42, .dead),
    (43, .cells [.int .i64 (.ofNat 0), .int .u64 (.ofNat 0)] 44 .var),
    (44, .cells [.int .u64 (.ofNat 0), .int .u64 (.ofNat 0)] 22 .var),
    (45, .dead),
    (46, .cells [.int .i64 (.ofNat 0), .int .u64 (.ofNat 0)] 44 .var),
    (47, .cells [.int .u64 (.ofNat 0), .int .u64 (.ofNat 0)] 22 .var),
    (48, .cells [.int .u64 (.ofNat 1), .int .u64 (.ofNat 0), .int .u64 (.ofNat 0), .int .u64 (.ofNat 0), .int .u64 (.ofNat 0), .int .u64 (.ofNat 0), .int .u64 (.ofNat 0), .int .u64 (.ofNat 0), .int .u64 (.ofNat 0), .int .u64 (.ofNat 0), .int .u64 (.ofNat 0)] 22 .grow),
    (49, .cells [.int .u8 (.ofNat 0)] 5 .var),
    (50, .dead),
    (51, .cells [.int .u8 (.ofNat 0)] 5 .var),
    (52, .dead),
    (53, .cells [.int .u8 (.ofNat 0)] 5 .var),
    (54, .dead),
    (55, .cells [.int .u8 (.ofNat 0)] 5 .var),
    (56, .dead),
    (57, .cells [.int .u8 (.ofNat 0)] 5 .var),
    (58, .dead),
    (59, .cells [.int .u8 (.ofNat 0)] 5 .var),
    (60, .dead),
    (61, .cells [.int .u8 (.ofNat 0)] 5 .var),
    (62, .dead),
    (63, .cells [.int .u8 (.ofNat 1)] 5 .var),
    (64, .dead),
    (65, .cells [.int .u8 (.ofNat 0)] 5 .var),
    (66, .dead),
    (67, .cells [.int .u8 (.ofNat 0)] 5 .var),
    (68, .dead),
    (69, .cells [.int .u8 (.ofNat 0)] 5 .var),
    (70, .dead),
    (71, .cells [.int .u8 (.ofNat 0)] 5 .var),
    (72, .dead),
    (73, .cells [.int .u8 (.ofNat 0)] 5 .var),
    (74, .dead),
    (75, .cells [.int .u8 (.ofNat 0)] 5 .var),
    (76, .dead),
    (77, .cells [.int .u8 (.ofNat 0)] 5 .var),
    (78, .dead),
    (79, .cells [.int .u8 (.ofNat 0)] 5 .var),
    (80, .dead),
    (81, .cells [.int .u8 (.ofNat 0)] 5 .var),
    (82, .dead),
    (83, .cells [.int .u8 (.ofNat 0)] 5 .var),
    (84, .dead),
    (85, .cells [.int .u8 (.ofNat 0)] 5 .var),
    (86, .dead),
    (87, .cells [.int .u8 (.ofNat 0)] 5 .var),
    (88, .dead),
    (89, .cells [.int .u8 (.ofNat 0)] 5 .var),
    (90, .dead),
    (91, .cells [.int .u8 (.ofNat 0)] 5 .var),
    (92, .dead),
    (93, .cells [.int .u8 (.ofNat 0)] 5 .var),
    (94, .dead),
    (95, .cells [.int .u8 (.ofNat 0)] 5 .var),
    (96, .dead),
    (97, .cells [.int .u8 (.ofNat 0)] 5 .var),
    (98, .dead),
    (99, .cells [.int .u8 (.ofNat 0)] 5 .var),
    (100, .dead),
    (101, .cells [.int .u8 (.ofNat 0)] 5 .var),
    (102, .dead),
    (103, .cells [.int .u8 (.ofNat 0)] 5 .var),
    (104, .dead),
    (105, .cells [.int .u8 (.ofNat 0)] 5 .var),
    (106, .dead),
    (107, .cells [.int .u8 (.ofNat 0)] 5 .var),
    (108, .dead),
    (109, .cells [.int .u8 (.ofNat 0)] 5 .var),
    (110, .dead),
    (111, .cells [.int .u8 (.ofNat 0)] 5 .var),
    (112, .dead),
    (113, .cells [.int .u8 (.ofNat 0)] 5 .var),
    (114, .dead),
    (115, .cells [.int .u8 (.ofNat 0)] 5 .var),
    (116, .dead),
    (117, .cells [.int .u8 (.ofNat 0)] 5 .var),
    (118, .dead),
    (119, .cells [.int .u8 (.ofNat 0)] 5 .var),
    (120, .dead),
    (121, .cells [.int .u8 (.ofNat 0)] 5 .var),
    (122, .dead),
    (123, .cells [.int .u8 (.ofNat 0)] 5 .var),
    (124, .dead),
    (125, .cells [.int .u8 (.ofNat 0)] 5 .var),
    (126, .dead),
    (127, .cells [.int .u8 (.ofNat 0)] 5 .var),
    (128, .dead),
    (129, .cells [.int .u8 (.ofNat 0)] 5 .var),
    (130, .dead),
    (131, .cells [.int .u8 (.ofNat 0)] 5 .var),
    (132, .dead),
    (133, .cells [.int .u8 (.ofNat 0)] 5 .var),
    (134, .dead),
    (135, .cells [.int .u8 (.ofNat 0)] 5 .var),
    (136, .dead),
    (137, .cells [.int .u8 (.ofNat 0)] 5 .var),
    (138, .dead),
    (139, .cells [.int .u8 (.ofNat 0)] 5 .var),
    (140, .dead),
    (141, .cells [.int .u8 (.ofNat 0)] 5 .var),
    (142, .dead),
    (143, .cells [.int .u8 (.ofNat 0)] 5 .var),
    (144, .dead),
    (145, .cells [.int .u8 (.ofNat 0)] 5 .var),
    (146, .dead),
    (147, .cells [.int .u8 (.ofNat 0)] 5 .var),
    (148, .dead),
    (149, .cells [.int .u8 (.ofNat 0)] 5 .var),
    (150, .dead),
    (151, .cells [.int .u8 (.ofNat 0)] 5 .var),
    (152, .dead),
    (153, .cells [.int .u8 (.ofNat 0)] 5 .var),
    (154, .dead),
    (155, .cells [.int .u8 (.ofNat 0)] 5 .var),
    (156, .dead),
    (157, .cells [.int .u8 (.ofNat 0)] 5 .var),
    (158, .dead),
    (159, .cells [.int .u8 (.ofNat 0)] 5 .var),
    (160, .dead),
    (161, .cells [.int .u8 (.ofNat 0)] 5 .var),
    (162, .dead),
    (163, .cells [.int .u8 (.ofNat 0)] 5 .var),
    (164, .dead),
    (165, .cells [.int .u8 (.ofNat 0)] 5 .var),
    (166, .dead),
    (167, .cells [.int .u8 (.ofNat 0)] 5 .var),
    (168, .dead),
    (169, .cells [.int .u8 (.ofNat 0)] 5 .var),
    (170, .dead),
    (171, .cells [.int .u8 (.ofNat 0)] 5 .var),
    (172, .dead),
    (173, .cells [.int .u8 (.ofNat 0)] 5 .var),
    (174, .dead),
    (175, .cells [.int .u8 (.ofNat 0)] 5 .var),
    (176, .dead),
    (177, .cells [.int .u8 (.ofNat 0)] 5 .var),
    (178, .dead),
    (179, .cells [.int .u8 (.ofNat 0)] 5 .var),
    (180, .dead),
    (181, .cells [.int .u8 (.ofNat 0)] 5 .var),
    (182, .dead),
    (183, .cells [.int .u8 (.ofNat 0)] 5 .var),
    (184, .dead),
    (185, .cells [.int .u8 (.ofNat 0)] 5 .var),
    (186, .dead),
    (187, .cells [.int .u8 (.ofNat 0)] 5 .var),
    (188, .dead),
    (189, .cells [.int .u8 (.ofNat 0)] 5 .var),
    (190, .dead),
    (191, .cells [.int .u8 (.ofNat 0)] 5 .var),
    (192, .dead),
    (193, .cells [.int .u8 (.ofNat 0)] 5 .var),
    (194, .dead),
    (195, .cells [.int .u8 (.ofNat 0)] 5 .var),
    (196, .dead),
    (197, .cells [.int .u8 (.ofNat 0)] 5 .var),
    (198, .dead),
    (199, .cells [.int .u8 (.ofNat 0)] 5 .var),
    (200, .dead),
    (201, .cells [.int .u8 (.ofNat 0)] 5 .var),
    (202, .dead),
    (203, .cells [.int .u8 (.ofNat 0)] 5 .var),
    (204, .dead),
    (205, .cells [.int .u8 (.ofNat 0)] 5 .var),
    (206, .dead),
    (207, .cells [.int .u8 (.ofNat 0)] 5 .var),
    (208, .dead),
    (209, .cells [.int .u8 (.ofNat 0)] 5 .var),
    (210, .dead),
    (211, .cells [.int .u8 (.ofNat 0)] 5 .var),
    (212, .dead),
    (213, .cells [.int .u8 (.ofNat 0)] 5 .var),
    (214, .dead),
    (215, .cells [.int .u8 (.ofNat 0)] 5 .var),
    (216, .dead),
    (217, .cells [.int .u8 (.ofNat 0)] 5 .var),
    (218, .dead),
    (219, .cells [.int .u8 (.ofNat 0)] 5 .var),
    (220, .dead),
    (221, .cells [.int .u8 (.ofNat 0)] 5 .var),
    (222, .dead),
    (223, .cells [.int .u8 (.ofNat 0)] 5 .var),
    (224, .cells [.int .u8 (.ofNat 0), .int .u8 (.ofNat 0), .int .u8 (.ofNat 0), .int .u8 (.ofNat 0), .int .u8 (.ofNat 0), .int .u8 (.ofNat 0), .int .u8 (.ofNat 0), .int .u8 (.ofNat 1), .int .u8 (.ofNat 0), .int .u8 (.ofNat 0), .int .u8 (.ofNat 0), .int .u8 (.ofNat 0), .int .u8 (.ofNat 0), .int .u8 (.ofNat 0), .int .u8 (.ofNat 0), .int .u8 (.ofNat 0), .int .u8 (.ofNat 0), .int .u8 (.ofNat 0), .int .u8 (.ofNat 0), .int .u8 (.ofNat 0), .int .u8 (.ofNat 0), .int .u8 (.ofNat 0), .int .u8 (.ofNat 0), .int .u8 (.ofNat 0), .int .u8 (.ofNat 0), .int .u8 (.ofNat 0), .int .u8 (.ofNat 0), .int .u8 (.ofNat 0), .int .u8 (.ofNat 0), .int .u8 (.ofNat 0), .int .u8 (.ofNat 0), .int .u8 (.ofNat 0), .int .u8 (.ofNat 0), .int .u8 (.ofNat 0), .int .u8 (.ofNat 0), .int .u8 (.ofNat 0), .int .u8 (.ofNat 0), .int .u8 (.ofNat 0), .int .u8 (.ofNat 0), .int .u8 (.ofNat 0), .int .u8 (.ofNat 0), .int .u8 (.ofNat 0), .int .u8 (.ofNat 0), .int .u8 (.ofNat 0), .int .u8 (.ofNat 0), .int .u8 (.ofNat 0), .int .u8 (.ofNat 0), .int .u8 (.ofNat 0), .int .u8 (.ofNat 0), .int .u8 (.ofNat 0), .int .u8 (.ofNat 0), .int .u8 (.ofNat 0), .int .u8 (.ofNat 0), .int .u8 (.ofNat 0), .int .u8 (.ofNat 0), .int .u8 (.ofNat 0), .int .u8 (.ofNat 0), .int .u8 (.ofNat 0), .int .u8 (.ofNat 0), .int .u8 (.ofNat 0), .int .u8 (.ofNat 0), .int .u8 (.ofNat 0), .int .u8 (.ofNat 0), .int .u8 (.ofNat 0), .int .u8 (.ofNat 0), .int .u8 (.ofNat 0), .int .u8 (.ofNat 0), .int .u8 (.ofNat 0), .int .u8 (.ofNat 0), .int .u8 (.ofNat 0), .int .u8 (.ofNat 0), .int .u8 (.ofNat 0), .int .u8 (.ofNat 0), .int .u8 (.ofNat 0), .int .u8 (.ofNat 0), .int .u8 (.ofNat 0), .int .u8 (.ofNat 0), .int .u8 (.ofNat 0), .int .u8 (.ofNat 0), .int .u8 (.ofNat 0), .int .u8 (.ofNat 0), .int .u8 (.ofNat 0), .int .u8 (.ofNat 0), .int .u8 (.ofNat 0), .int .u8 (.ofNat 0), .int .u8 (.ofNat 0), .int .u8 (.ofNat 0), .int .u8 (.ofNat 0)] 5 .grow),
    (225, .cells [.int .u8 (.ofNat 80), .int .u8 (.ofNat 68)] 5 .vst),
    (226, .cells [.int .u8 (.ofNat 0)] 5 .var),
    (227, .dead),
    (228, .cells [.int .u8 (.ofNat 0)] 5 .var),
    (229, .dead),
    (230, .cells [.int .u8 (.ofNat 0)] 5 .var),
    (231, .dead),
    (232, .cells [.int .u8 (.ofNat 0)] 5 .var),
    (233, .dead),
    (234, .cells [.int .u8 (.ofNat 0)] 5 .var),
    (235, .dead),
    (236, .cells [.int .u8 (.ofNat 0)] 5 .var),
    (237, .dead),
    (238, .cells [.int .u8 (.ofNat 0)] 5 .var),
    (239, .dead),
    (240, .cells [.int .u8 (.ofNat 1)] 5 .var),
    (241, .dead),
    (242, .cells [.int .u8 (.ofNat 88)] 5 .var),
    (243, .dead),
    (244, .dead),
    (245, .dead),
    (246, .cells [.int .u8 (.ofNat 0)] 5 .var),
    (247, .dead),
    (248, .cells [.int .u8 (.ofNat 136)] 5 .var),
    (249, .dead),
    (250, .cells [.int .u8 (.ofNat 251)] 5 .var),
    (251, .dead),
    (252, .cells [.int .u8 (.ofNat 212)] 5 .var),
    (253, .cells [.int .u8 (.ofNat 80), .int .u8 (.ofNat 68), .int .u8 (.ofNat 0), .int .u8 (.ofNat 0), .int .u8 (.ofNat 0), .int .u8 (.ofNat 0), .int .u8 (.ofNat 0), .int .u8 (.ofNat 0), .int .u8 (.ofNat 0), .int .u8 (.ofNat 1), .int .u8 (.ofNat 88), .int .u8 (.ofNat 0), .int .u8 (.ofNat 0), .int .u8 (.ofNat 0), .int .u8 (.ofNat 0), .int .u8 (.ofNat 0), .int .u8 (.ofNat 0), .int .u8 (.ofNat 0), .int .u8 (.ofNat 1), .int .u8 (.ofNat 0), .int .u8 (.ofNat 0), .int .u8 (.ofNat 0), .int .u8 (.ofNat 0), .int .u8 (.ofNat 0), .int .u8 (.ofNat 0), .int .u8 (.ofNat 0), .int .u8 (.ofNat 0), .int .u8 (.ofNat 0), .int .u8 (.ofNat 0), .int .u8 (.ofNat 0), .int .u8 (.ofNat 0), .int .u8 (.ofNat 0), .int .u8 (.ofNat 0), .int .u8 (.ofNat 0), .int .u8 (.ofNat 0), .int .u8 (.ofNat 0), .int .u8 (.ofNat 0), .int .u8 (.ofNat 0), .int .u8 (.ofNat 0), .int .u8 (.ofNat 0), .int .u8 (.ofNat 0), .int .u8 (.ofNat 0), .int .u8 (.ofNat 0), .int .u8 (.ofNat 0), .int .u8 (.ofNat 0), .int .u8 (.ofNat 0), .int .u8 (.ofNat 0), .int .u8 (.ofNat 0), .int .u8 (.ofNat 0), .int .u8 (.ofNat 0), .int .u8 (.ofNat 0), .int .u8 (.ofNat 0), .int .u8 (.ofNat 0), .int .u8 (.ofNat 0), .int .u8 (.ofNat 0), .int .u8 (.ofNat 0), .int .u8 (.ofNat 0), .int .u8 (.ofNat 0), .int .u8 (.ofNat 0), .int .u8 (.ofNat 0), .int .u8 (.ofNat 0), .int .u8 (.ofNat 0), .int .u8 (.ofNat 0), .int .u8 (.ofNat 0), .int .u8 (.ofNat 0), .int .u8 (.ofNat 0), .int .u8 (.ofNat 0), .int .u8 (.ofNat 0), .int .u8 (.ofNat 0), .int .u8 (.ofNat 0), .int .u8 (.ofNat 0), .int .u8 (.ofNat 0), .int .u8 (.ofNat 0), .int .u8 (.ofNat 0), .int .u8 (.ofNat 0), .int .u8 (.ofNat 0), .int .u8 (.ofNat 0), .int .u8 (.ofNat 0), .int .u8 (.ofNat 0), .int .u8 (.ofNat 0), .int .u8 (.ofNat 0), .int .u8 (.ofNat 0), .int .u8 (.ofNat 0), .int .u8 (.ofNat 0), .int .u8 (.ofNat 0), .int .u8 (.ofNat 0), .int .u8 (.ofNat 0), .int .u8 (.ofNat 0), .int .u8 (.ofNat 0), .int .u8 (.ofNat 0), .int .u8 (.ofNat 0), .int .u8 (.ofNat 0), .int .u8 (.ofNat 0), .int .u8 (.ofNat 0), .int .u8 (.ofNat 0), .int .u8 (.ofNat 0), .int .u8 (.ofNat 0), .int .u8 (.ofNat 0), .int .u8 (.ofNat 0), .int .u8 (.ofNat 0), .int .u8 (.ofNat 0), .int .u8 (.ofNat 0), .int .u8 (.ofNat 0), .int .u8 (.ofNat 0), .int .u8 (.ofNat 0), .int .u8 (.ofNat 0), .int .u8 (.ofNat 0), .int .u8 (.ofNat 0), .int .u8 (.ofNat 0), .int .u8 (.ofNat 0), .int .u8 (.ofNat 0), .int .u8 (.ofNat 0), .int .u8 (.ofNat 0), .int .u8 (.ofNat 0), .int .u8 (.ofNat 0), .int .u8 (.ofNat 0), .int .u8 (.ofNat 0), .int .u8 (.ofNat 0), .int .u8 (.ofNat 0), .int .u8 (.ofNat 0), .int .u8 (.ofNat 0), .int .u8 (.ofNat 0), .int .u8 (.ofNat 0), .int .u8 (.ofNat 0), .int .u8 (.ofNat 0), .int .u8 (.ofNat 136), .int .u8 (.ofNat 251), .int .u8 (.ofNat 212)] 5 .grow),
    (254, .cells [.int .i64 (.ofNat 128)] 2 .var),
    (255, .cells [.string ⟨⟨[112, 48, 48, 48, 48, 48, 48, 48, 49]⟩⟩] 9 .var),
    (256, .cells [.int .i64 (.ofNat 128)] 2 .var),
    (257, .cells [.slice (some ⟨259, 0, none⟩) 128 18446744073709551744] 37 .var),
    (258, .cells [] 5 .var),
    (259, .cells [.int .u8 (.ofNat 80), .int .u8 (.ofNat 68), .int .u8 (.ofNat 0), .int .u8 (.ofNat 0), .int .u8 (.ofNat 0), .int .u8 (.ofNat 0), .int .u8 (.ofNat 0), .int .u8 (.ofNat 0), .int .u8 (.ofNat 0), .int .u8 (.ofNat 1), .int .u8 (.ofNat 88), .int .u8 (.ofNat 0), .int .u8 (.ofNat 0), .int .u8 (.ofNat 0), .int .u8 (.ofNat 0), .int .u8 (.ofNat 0), .int .u8 (.ofNat 0), .int .u8 (.ofNat 0), .int .u8 (.ofNat 1), .int .u8 (.ofNat 0), .int .u8 (.ofNat 0), .int .u8 (.ofNat 0), .int .u8 (.ofNat 0), .int .u8 (.ofNat 0), .int .u8 (.ofNat 0), .int .u8 (.ofNat 0), .int .u8 (.ofNat 0), .int .u8 (.ofNat 0), .int .u8 (.ofNat 0), .int .u8 (.ofNat 0), .int .u8 (.ofNat 0), .int .u8 (.ofNat 0), .int .u8 (.ofNat 0), .int .u8 (.ofNat 0), .int .u8 (.ofNat 0), .int .u8 (.ofNat 0), .int .u8 (.ofNat 0), .int .u8 (.ofNat 0), .int .u8 (.ofNat 0), .int .u8 (.ofNat 0), .int .u8 (.ofNat 0), .int .u8 (.ofNat 0), .int .u8 (.ofNat 0), .int .u8 (.ofNat 0), .int .u8 (.ofNat 0), .int .u8 (.ofNat 0), .int .u8 (.ofNat 0), .int .u8 (.ofNat 0), .int .u8 (.ofNat 0), .int .u8 (.ofNat 0), .int .u8 (.ofNat 0), .int .u8 (.ofNat 0), .int .u8 (.ofNat 0), .int .u8 (.ofNat 0), .int .u8 (.ofNat 0), .int .u8 (.ofNat 0), .int .u8 (.ofNat 0), .int .u8 (.ofNat 0), .int .u8 (.ofNat 0), .int .u8 (.ofNat 0), .int .u8 (.ofNat 0), .int .u8 (.ofNat 0), .int .u8 (.ofNat 0), .int .u8 (.ofNat 0), .int .u8 (.ofNat 0), .int .u8 (.ofNat 0), .int .u8 (.ofNat 0), .int .u8 (.ofNat 0), .int .u8 (.ofNat 0), .int .u8 (.ofNat 0), .int .u8 (.ofNat 0), .int .u8 (.ofNat 0), .int .u8 (.ofNat 0), .int .u8 (.ofNat 0), .int .u8 (.ofNat 0), .int .u8 (.ofNat 0), .int .u8 (.ofNat 0), .int .u8 (.ofNat 0), .int .u8 (.ofNat 0), .int .u8 (.ofNat 0), .int .u8 (.ofNat 0), .int .u8 (.ofNat 0), .int .u8 (.ofNat 0), .int .u8 (.ofNat 0), .int .u8 (.ofNat 0), .int .u8 (.ofNat 0), .int .u8 (.ofNat 0), .int .u8 (.ofNat 0), .int .u8 (.ofNat 0), .int .u8 (.ofNat 0), .int .u8 (.ofNat 0), .int .u8 (.ofNat 0), .int .u8 (.ofNat 0), .int .u8 (.ofNat 0), .int .u8 (.ofNat 0), .int .u8 (.ofNat 0), .int .u8 (.ofNat 0), .int .u8 (.ofNat 0), .int .u8 (.ofNat 0), .int .u8 (.ofNat 0), .int .u8 (.ofNat 0), .int .u8 (.ofNat 0), .int .u8 (.ofNat 0), .int .u8 (.ofNat 0), .int .u8 (.ofNat 0), .int .u8 (.ofNat 0), .int .u8 (.ofNat 0), .int .u8 (.ofNat 0), .int .u8 (.ofNat 0), .int .u8 (.ofNat 0), .int .u8 (.ofNat 0), .int .u8 (.ofNat 0), .int .u8 (.ofNat 0), .int .u8 (.ofNat 0), .int .u8 (.ofNat 0), .int .u8 (.ofNat 0), .int .u8 (.ofNat 0), .int .u8 (.ofNat 0), .int .u8 (.ofNat 0), .int .u8 (.ofNat 0), .int .u8 (.ofNat 0), .int .u8 (.ofNat 0), .int .u8 (.ofNat 0), .int .u8 (.ofNat 0), .int .u8 (.ofNat 0), .int .u8 (.ofNat 136), .int .u8 (.ofNat 251), .int .u8 (.ofNat 212)] 5 .grow),
    (260, .cells [.int .i64 (.ofNat 128)] 2 .var),
    (261, .cells [.slice (some ⟨263, 0, none⟩) 128 18446744073709551744] 37 .var),
    (262, .cells [] 5 .var),
    (263, .cells [.int .u8 (.ofNat 80), .int .u8 (.ofNat 68), .int .u8 (.ofNat 0), .int .u8 (.ofNat 0), .int .u8 (.ofNat 0), .int .u8 (.ofNat 0), .int .u8 (.ofNat 0), .int .u8 (.ofNat 0), .int .u8 (.ofNat 0), .int .u8 (.ofNat 1), .int .u8 (.ofNat 88), .int .u8 (.ofNat 0), .int .u8 (.ofNat 0), .int .u8 (.ofNat 0), .int .u8 (.ofNat 0), .int .u8 (.ofNat 0), .int .u8 (.ofNat 0), .int .u8 (.ofNat 0), .int .u8 (.ofNat 1), .int .u8 (.ofNat 0), .int .u8 (.ofNat 0), .int .u8 (.ofNat 0), .int .u8 (.ofNat 0), .int .u8 (.ofNat 0), .int .u8 (.ofNat 0), .int .u8 (.ofNat 0), .int .u8 (.ofNat 0), .int .u8 (.ofNat 0), .int .u8 (.ofNat 0), .int .u8 (.ofNat 0), .int .u8 (.ofNat 0), .int .u8 (.ofNat 0), .int .u8 (.ofNat 0), .int .u8 (.ofNat 0), .int .u8 (.ofNat 0), .int .u8 (.ofNat 0), .int .u8 (.ofNat 0), .int .u8 (.ofNat 0), .int .u8 (.ofNat 0), .int .u8 (.ofNat 0), .int .u8 (.ofNat 0), .int .u8 (.ofNat 0), .int .u8 (.ofNat 0), .int .u8 (.ofNat 0), .int .u8 (.ofNat 0), .int .u8 (.ofNat 0), .int .u8 (.ofNat 0), .int .u8 (.ofNat 0), .int .u8 (.ofNat 0), .int .u8 (.ofNat 0), .int .u8 (.ofNat 0), .int .u8 (.ofNat 0), .int .u8 (.ofNat 0), .int .u8 (.ofNat 0), .int .u8 (.ofNat 0), .int .u8 (.ofNat 0), .int .u8 (.ofNat 0), .int .u8 (.ofNat 0), .int .u8 (.ofNat 0), .int .u8 (.ofNat 0), .int .u8 (.ofNat 0), .int .u8 (.ofNat 0), .int .u8 (.ofNat 0), .int .u8 (.ofNat 0), .int .u8 (.ofNat 0), .int .u8 (.ofNat 0), .int .u8 (.ofNat 0), .int .u8 (.ofNat 0), .int .u8 (.ofNat 0), .int .u8 (.ofNat 0), .int .u8 (.ofNat 0), .int .u8 (.ofNat 0), .int .u8 (.ofNat 0), .int .u8 (.ofNat 0), .int .u8 (.ofNat 0), .int .u8 (.ofNat 0), .int .u8 (.ofNat 0), .int .u8 (.ofNat 0), .int .u8 (.ofNat 0), .int .u8 (.ofNat 0), .int .u8 (.ofNat 0), .int .u8 (.ofNat 0), .int .u8 (.ofNat 0), .int .u8 (.ofNat 0), .int .u8 (.ofNat 0), .int .u8 (.ofNat 0), .int .u8 (.ofNat 0), .int .u8 (.ofNat 0), .int .u8 (.ofNat 0), .int .u8 (.ofNat 0), .int .u8 (.ofNat 0), .int .u8 (.ofNat 0), .int .u8 (.ofNat 0), .int .u8 (.ofNat 0), .int .u8 (.ofNat 0), .int .u8 (.ofNat 0), .int .u8 (.ofNat 0), .int .u8 (.ofNat 0), .int .u8 (.ofNat 0), .int .u8 (.ofNat 0), .int .u8 (.ofNat 0), .int .u8 (.ofNat 0), .int .u8 (.ofNat 0), .int .u8 (.ofNat 0), .int .u8 (.ofNat 0), .int .u8 (.ofNat 0), .int .u8 (.ofNat 0), .int .u8 (.ofNat 0), .int .u8 (.ofNat 0), .int .u8 (.ofNat 0), .int .u8 (.ofNat 0), .int .u8 (.ofNat 0), .int .u8 (.ofNat 0), .int .u8 (.ofNat 0), .int .u8 (.ofNat 0), .int .u8 (.ofNat 0), .int .u8 (.ofNat 0), .int .u8 (.ofNat 0), .int .u8 (.ofNat 0), .int .u8 (.ofNat 0), .int .u8 (.ofNat 0), .int .u8 (.ofNat 0), .int .u8 (.ofNat 0), .int .u8 (.ofNat 0), .int .u8 (.ofNat 0), .int .u8 (.ofNat 136), .int .u8 (.ofNat 251), .int .u8 (.ofNat 212)] 5 .grow),
    (264, .cells [.func (.func 214) ⟨[]⟩ ⟨[.pointer (some ⟨260, 0, none⟩), .pointer (some ⟨261, 0, none⟩)]⟩] 272 .var),
    (265, .cells [.func (.func 214) ⟨[]⟩ ⟨[.pointer (some ⟨260, 0, none⟩), .pointer (some ⟨261, 0, none⟩)]⟩] 272 .grow),
    (266, .cells [.func (.func 204) ⟨[]⟩ ⟨[.pointer (some ⟨19, 0, none⟩)]⟩, .func (.func 214) ⟨[]⟩ ⟨[.pointer (some ⟨260, 0, none⟩), .pointer (some ⟨261, 0, none⟩)]⟩] 272 .grow),
    (267, .cells [.string ⟨⟨[112, 48, 48, 48, 48, 48, 48, 48, 49]⟩⟩] 9 .var),
    (268, .cells [] 5 .var),
    (269, .cells [.int .u8 (.ofNat 0), .int .u8 (.ofNat 0), .int .u8 (.ofNat 0), .int .u8 (.ofNat 0), .int .u8 (.ofNat 0), .int .u8 (.ofNat 0), .int .u8 (.ofNat 0), .int .u8 (.ofNat 0), .int .u8 (.ofNat 0), .int .u8 (.ofNat 0), .int .u8 (.ofNat 0), .int .u8 (.ofNat 0), .int .u8 (.ofNat 0), .int .u8 (.ofNat 0), .int .u8 (.ofNat 0), .int .u8 (.ofNat 0), .int .u8 (.ofNat 0), .int .u8 (.ofNat 0), .int .u8 (.ofNat 0), .int .u8 (.ofNat 0), .int .u8 (.ofNat 0), .int .u8 (.ofNat 0), .int .u8 (.ofNat 0), .int .u8 (.ofNat 0), .int .u8 (.ofNat 0), .int .u8 (.ofNat 0), .int .u8 (.ofNat 0), .int .u8 (.ofNat 0), .int .u8 (.ofNat 0), .int .u8 (.ofNat 0), .int .u8 (.ofNat 0), .int .u8 (.ofNat 0), .int .u8 (.ofNat 0), .int .u8 (.ofNat 0), .int .u8 (.ofNat 0), .int .u8 (.ofNat 0), .int .u8 (.ofNat 0), .int .u8 (.ofNat 0), .int .u8 (.ofNat 0), .int .u8 (.ofNat 0), .int .u8 (.ofNat 0), .int .u8 (.ofNat 0), .int .u8 (.ofNat 0), .int .u8 (.ofNat 0), .int .u8 (.ofNat 0), .int .u8 (.ofNat 0), .int .u8 (.ofNat 0), .int .u8 (.ofNat 0), .int .u8 (.ofNat 0), .int .u8 (.ofNat 0), .int .u8 (.ofNat 0), .int .u8 (.ofNat 0), .int .u8 (.ofNat 0), .int .u8 (.ofNat 0), .int .u8 (.ofNat 0), .int .u8 (.ofNat 0), .int .u8 (.ofNat 0), .int .u8 (.ofNat 0), .int .u8 (.ofNat 0), .int .u8 (.ofNat 0), .int .u8 (.ofNat 0), .int .u8 (.ofNat 0), .int .u8 (.ofNat 0), .int .u8 (.ofNat 0), .int .u8 (.ofNat 0), .int .u8 (.ofNat 0), .int .u8 (.ofNat 0), .int .u8 (.ofNat 0), .int .u8 (.ofNat 0), .int .u8 (.ofNat 0), .int .u8 (.ofNat 0), .int .u8 (.ofNat 0), .int .u8 (.ofNat 0), .int .u8 (.ofNat 0), .int .u8 (.ofNat 0), .int .u8 (.ofNat 0), .int .u8 (.ofNat 0), .int .u8 (.ofNat 0), .int .u8 (.ofNat 0), .int .u8 (.ofNat 0), .int .u8 (.ofNat 0), .int .u8 (.ofNat 0), .int .u8 (.ofNat 0), .int .u8 (.ofNat 0), .int .u8 (.ofNat 0), .int .u8 (.ofNat 0), .int .u8 (.ofNat 0), .int .u8 (.ofNat 0), .int .u8 (.ofNat 0), .int .u8 (.ofNat 0), .int .u8 (.ofNat 0), .int .u8 (.ofNat 0), .int .u8 (.ofNat 0), .int .u8 (.ofNat 0), .int .u8 (.ofNat 0), .int .u8 (.ofNat 0), .int .u8 (.ofNat 0), .int .u8 (.ofNat 0), .int .u8 (.ofNat 0), .int .u8 (.ofNat 0), .int .u8 (.ofNat 0), .int .u8 (.ofNat 0), .int .u8 (.ofNat 0), .int .u8 (.ofNat 0), .int .u8 (.ofNat 0), .int .u8 (.ofNat 0), .int .u8 (.ofNat 0), .int .u8 (.ofNat 0), .int .u8 (.ofNat 0), .int .u8 (.ofNat 0), .int .u8 (.ofNat 0), .int .u8 (.ofNat 0), .int .u8 (.ofNat 0), .int .u8 (.ofNat 0), .int .u8 (.ofNat 0), .int .u8 (.ofNat 0), .int .u8 (.ofNat 0), .int .u8 (.ofNat 0), .int .u8 (.ofNat 0), .int .u8 (.ofNat 0), .int .u8 (.ofNat 0), .int .u8 (.ofNat 0), .int .u8 (.ofNat 0), .int .u8 (.ofNat 0), .int .u8 (.ofNat 0), .int .u8 (.ofNat 0), .int .u8 (.ofNat 0), .int .u8 (.ofNat 0), .int .u8 (.ofNat 80), .int .u8 (.ofNat 68), .int .u8 (.ofNat 0), .int .u8 (.ofNat 0), .int .u8 (.ofNat 0), .int .u8 (.ofNat 0), .int .u8 (.ofNat 0), .int .u8 (.ofNat 0), .int .u8 (.ofNat 0), .int .u8 (.ofNat 1), .int .u8 (.ofNat 88), .int .u8 (.ofNat 0), .int .u8 (.ofNat 0), .int .u8 (.ofNat 0), .int .u8 (.ofNat 0), .int .u8 (.ofNat 0), .int .u8 (.ofNat 0), .int .u8 (.ofNat 0), .int .u8 (.ofNat 1), .int .u8 (.ofNat 0), .int .u8 (.ofNat 0), .int .u8 (.ofNat 0), .int .u8 (.ofNat 0), .int .u8 (.ofNat 0), .int .u8 (.ofNat 0), .int .u8 (.ofNat 0), .int .u8 (.ofNat 0), .int .u8 (.ofNat 0), .int .u8 (.ofNat 0), .int .u8 (.ofNat 0), .int .u8 (.ofNat 0), .int .u8 (.ofNat 0), .int .u8 (.ofNat 0), .int .u8 (.ofNat 0), .int .u8 (.ofNat 0), .int .u8 (.ofNat 0), .int .u8 (.ofNat 0), .int .u8 (.ofNat 0), .int .u8 (.ofNat 0), .int .u8 (.ofNat 0), .int .u8 (.ofNat 0), .int .u8 (.ofNat 0), .int .u8 (.ofNat 0), .int .u8 (.ofNat 0), .int .u8 (.ofNat 0), .int .u8 (.ofNat 0), .int .u8 (.ofNat 0), .int .u8 (.ofNat 0), .int .u8 (.ofNat 0), .int .u8 (.ofNat 0), .int .u8 (.ofNat 0), .int .u8 (.ofNat 0), .int .u8 (.ofNat 0), .int .u8 (.ofNat 0), .int .u8 (.ofNat 0), .int .u8 (.ofNat 0), .int .u8 (.ofNat 0), .int .u8 (.ofNat 0), .int .u8 (.ofNat 0), .int .u8 (.ofNat 0), .int .u8 (.ofNat 0), .int .u8 (.ofNat 0), .int .u8 (.ofNat 0), .int .u8 (.ofNat 0), .int .u8 (.ofNat 0), .int .u8 (.ofNat 0), .int .u8 (.ofNat 0), .int .u8 (.ofNat 0), .int .u8 (.ofNat 0), .int .u8 (.ofNat 0), .int .u8 (.ofNat 0), .int .u8 (.ofNat 0), .int .u8 (.ofNat 0), .int .u8 (.ofNat 0), .int .u8 (.ofNat 0), .int .u8 (.ofNat 0), .int .u8 (.ofNat 0), .int .u8 (.ofNat 0), .int .u8 (.ofNat 0), .int .u8 (.ofNat 0), .int .u8 (.ofNat 0), .int .u8 (.ofNat 0), .int .u8 (.ofNat 0), .int .u8 (.ofNat 0), .int .u8 (.ofNat 0), .int .u8 (.ofNat 0), .int .u8 (.ofNat 0), .int .u8 (.ofNat 0), .int .u8 (.ofNat 0), .int .u8 (.ofNat 0), .int .u8 (.ofNat 0), .int .u8 (.ofNat 0), .int .u8 (.ofNat 0), .int .u8 (.ofNat 0), .int .u8 (.ofNat 0), .int .u8 (.ofNat 0), .int .u8 (.ofNat 0), .int .u8 (.ofNat 0), .int .u8 (.ofNat 0), .int .u8 (.ofNat 0), .int .u8 (.ofNat 0), .int .u8 (.ofNat 0), .int .u8 (.ofNat 0), .int .u8 (.ofNat 0), .int .u8 (.ofNat 0), .int .u8 (.ofNat 0), .int .u8 (.ofNat 0), .int .u8 (.ofNat 0), .int .u8 (.ofNat 0), .int .u8 (.ofNat 0), .int .u8 (.ofNat 0), .int .u8 (.ofNat 0), .int .u8 (.ofNat 0), .int .u8 (.ofNat 0), .int .u8 (.ofNat 0), .int .u8 (.ofNat 0), .int .u8 (.ofNat 0), .int .u8 (.ofNat 0), .int .u8 (.ofNat 0), .int .u8 (.ofNat 0), .int .u8 (.ofNat 0), .int .u8 (.ofNat 0), .int .u8 (.ofNat 0), .int .u8 (.ofNat 0), .int .u8 (.ofNat 0), .int .u8 (.ofNat 136), .int .u8 (.ofNat 251), .int .u8 (.ofNat 212)] 5 .grow),
    (270, .map [(.string ⟨⟨[112, 48, 48, 48, 48, 48, 48, 48, 49]⟩⟩, .pointer (some ⟨14, 0, none⟩), 0)] 1),
    (271, .cells [.slice none 0 0, .int .i64 (.ofNat 0)] 236 .var)]⟩
theorem memo20x1_f : memo20x1.f = 20 := rfl
noncomputable def memo20x1_s : Bool := memoShape memo20x1
theorem memo20x1_shape : memo20x1_s = true := by kernel_rfl
noncomputable def memo20x1_r : Bool := memoRun y19E 100 memo20x1
theorem memo20x1_run : memo20x1_r = true := by kernel_rfl
theorem memo20x1_ok : Borne y19E 20 memo20x1 := ⟨memo20x1_f, memo20x1_shape, 100, memo20x1_run⟩

end Go.Proofs.YtmmplhfimnhcpaaGreatDoor

namespace Go.Proofs.YtmmplhfimnhcpaaGreatDoor
set_option linter.all false
set_option linter.unusedSimpArgs false
set_option linter.unusedVariables false
open Go Go.Ideal
set_option maxRecDepth 100000

/-- 'Uses' of none by the code, of any other by its contract. -/
noncomputable def usesN (args : List Value) : M Value :=
  match args with
  | .pointer none :: r => callM zE 10 27 (.pointer none :: r)
  | l => usesM l

theorem usesN_ok (N0 : Nat) (E : Env) : FunOK Tryz.prog N0 E 27 usesN := by
  intro l s v s' β w l' h hI hf hg hl
  have hen : Ideal.Enters Tryz.prog 27 := enters Tryz.func27 (by kernel_rfl) (by kernel_rfl)
  unfold usesN at h
  split at h
  · exact sim_call zGood.env (zGood.link N0) zGood.resp 10 _ _ _ _ _ _ _ _ h hI hf (fun g hg => by cases hg) hl
  · exact uses_ok hen usesAt _ _ _ _ _ _ _ h hI hf hg hl
theorem resp_usesN (l : List Value) : Resp (usesN l) := by
  unfold usesN
  split
  · exact resp_callM zGood.resp 10 _ _
  · exact resp_usesM _

noncomputable def laMs : List (FuncId × List Memo) := [(20, [memo20x1])]
noncomputable def laI : FuncId → Option (List Value → M Value) := pickF y19Intr (callM y19E 100) laMs
noncomputable def laIntr : FuncId → Option (List Value → M Value) := fun f => cond (Nat.beq 27 f) (some usesN) (laI f)
noncomputable def laE : Env := mkEnv Tryz.prog (fun _ => false) laIntr zExt
theorem laGood0 : Ideal.Good Tryz.prog (mkEnv Tryz.prog (fun _ => false) laI zExt) := by
  refine Good.layer (show Ideal.Good Tryz.prog (mkEnv Tryz.prog (fun _ => false) y19Intr zExt) from y19Good) 100 fun k l h m hm => ?_
  simp only [laMs, List.mem_cons, List.not_mem_nil, or_false, Prod.mk.injEq] at h
  obtain ⟨rfl, rfl⟩ := h
  simp only [List.mem_cons, List.not_mem_nil, or_false] at hm
  subst hm; exact memo20x1_ok
theorem laGood : Ideal.Good Tryz.prog laE := Good.intr laGood0 resp_usesN usesN_ok

/-- The free way of 'Uses'. -/
noncomputable def usesP (args : List Value) : PM Value :=
  match args with
  | [.pointer (some ⟨b, off, none⟩), .string nm] => liftP (rd b) >>= fun o => match o with
    | .cells xs _ _ => match nth xs (off + 1) with
      | some (.map (some mb)) => liftP (rd mb) >>= fun o => match o with
        | .map es clock => mustP (bornLt es clock && bornApart es []) >>= fun _ => liftP (usesL nm es) >>= fun n => liftP (guardM (Nat.blt n 1099511627776)) >>= fun _ => pure (.int .i64 (Int.ofNat n))
        | _ => failP
      | _ => failP
    | _ => failP
  | _ => failP

theorem snd_usesP (l : List Value) : Snd (usesP l) (usesN l) := by
  unfold usesP
  split
  · rename_i b off nm
    have e : usesN [.pointer (some ⟨b, off, none⟩), .string nm] = usesM [.pointer (some ⟨b, off, none⟩), .string nm] := rfl
    rw [e]; clear e
    unfold usesM
    refine Snd.bind (Snd.lift _) fun o => ?_
    cases o with
    | cells xs e k =>
      simp only
      cases hn : nth xs (off + 1) with
      | none => exact Snd.fail _
      | some v =>
        cases v with
        | map r =>
          cases r with
          | none => exact Snd.fail _
          | some mb =>
            simp only
            refine Snd.bind (Snd.lift _) fun o => ?_
            cases o with
            | map es clock =>
              simp only
              refine Snd.must ((Keeps.lift _).bind fun _ => (Keeps.lift _).bind fun _ => Keeps.pure _) fun h => ?_
              rw [h]
              intro t a t' e ho
              have := Snd.bind (Snd.lift (usesL nm es)) (fun n => Snd.bind (Snd.lift (guardM (Nat.blt n 1099511627776))) fun _ => Snd.pure (Value.int .i64 (Int.ofNat n))) t a t' e ho
              exact this
            | _ => exact Snd.fail _
        | _ => exact Snd.fail _
    | _ => exact Snd.fail _
  · exact Snd.fail _

noncomputable def laX : Ways := ⟨fun f => cond (Nat.beq 27 f) (some usesP) none, fun _ => none⟩
theorem laX_ok : WaysOK laE laX := by
  refine ⟨fun f g p hg hp l => ?_, fun f g p hg hp => (by cases hp)⟩
  have hg : cond (Nat.beq 27 f) (some usesN) (laI f) = some g := hg
  have hp : cond (Nat.beq 27 f) (some usesP) none = some p := hp
  cases hk : Nat.beq 27 f with
  | true => rw [hk] at hg hp; cases hg; cases hp; exact snd_usesP l
  | false => rw [hk] at hp; cases hp

end Go.Proofs.YtmmplhfimnhcpaaGreatDoor

namespace Go.Proofs.YtmmplhfimnhcpaaGreatDoor
set_option linter.all false
set_option linter.unusedSimpArgs false
set_option linter.unusedVariables false
open Go Go.Ideal
set_option maxRecDepth 100000

noncomputable def cl : Code → Code
  | .seq a _ => a
  | .block _ c => c
  | .loop c => c
  | c => c
noncomputable def cr : Code → Code
  | .seq _ b => b
  | c => c
noncomputable def laBody : Code := match Tryz.f4.body with
  | some c => c
  | none => .skip
noncomputable def lp0 := cl laBody
noncomputable def lp1 := cl (cr laBody)
noncomputable def lp3 := cl (cr (cr laBody))
noncomputable def lp5 := cl (cr (cr (cr laBody)))
noncomputable def ls6 := cr (cr (cr (cr laBody)))
noncomputable def lp6 := cl ls6
noncomputable def lp8 := cl (cr ls6)
noncomputable def lp9 := cl (cr (cr ls6))
noncomputable def lp10 := cl (cr (cr (cr ls6)))
noncomputable def lp11 := cl (cr (cr (cr (cr ls6))))
noncomputable def ls12 := cr (cr (cr (cr (cr ls6))))
noncomputable def lp12 := cl (cl ls12)
noncomputable def lLoop := cl (cr (cl ls12))
noncomputable def lEnd := cr ls12
noncomputable def lRound := cl lLoop
noncomputable def lTest := cl lRound
noncomputable def lB1 := cl (cl (cr lRound))
noncomputable def lNext := cr (cr lRound)
noncomputable def lA := cl lB1
noncomputable def lB := cl (cr lB1)
noncomputable def lp34 := cl (cr (cr lB1))
noncomputable def lB2 := cr (cr (cr lB1))
noncomputable def lIn := cl lB2
noncomputable def lInRound := cl lIn
noncomputable def lInTest := cl lInRound
noncomputable def lB3 := cl (cr lInRound)
noncomputable def lInNext := cr (cr lInRound)
noncomputable def lIn3 := cl lB3

theorem code0 : Tryz.f4.body = some (.seq lp0 (.seq lp1 (.seq lp3 (.seq lp5 (.seq lp6 (.seq lp8 (.seq lp9 (.seq lp10 (.seq lp11 (.seq (.seq lp12 (.block 0 lLoop)) lEnd)))))))))) := by kernel_rfl
theorem code1 : lLoop = .loop (.seq lTest (.seq (.block 1 lB1) lNext)) := by kernel_rfl
theorem code2 : lB1 = .seq lA (.seq lB (.seq lp34 (.block 2 lIn))) := by kernel_rfl
theorem code3 : lIn = .loop (.seq lInTest (.seq (.block 3 lIn3) lInNext)) := by kernel_rfl

noncomputable def nameV : Value := .string ⟨⟨[112, 48, 48, 48, 48, 48, 48, 48, 49]⟩⟩
noncomputable def rootL : List Value := [.int .u64 (.ofNat 1), .int .i64 (.ofNat 1), .int .i64 (.ofNat 0), .int .u64 (.ofNat 0), .int .i64 (.ofNat 0), .int .u64 (.ofNat 0), .int .i64 (.ofNat 0), .int .u64 (.ofNat 0), .int .i64 (.ofNat 0), .int .u64 (.ofNat 0), .int .i64 (.ofNat 0), .int .u64 (.ofNat 0)]
noncomputable def ents : List Nat → Nat → List (Value × Value × Nat)
  | [], _ => []
  | b :: r, v => (.int .i64 (.ofNat (b + 1)), .pointer (some ⟨v, 0, none⟩), b) :: ents r (v + 1)
noncomputable def views : List Nat → Nat → List (Nat × Blk)
  | [], _ => []
  | _ :: r, v => (v, .cells (.pointer (some ⟨3, 0, none⟩) :: rootL) 158 .var) :: views r (v + 1)

/-- The row of the deeds, and how long it is. -/
structure Deeds where
  xs : List Value
  e : Nat
  len : Nat
  cap : Nat
noncomputable def t0 (D : Deeds) : Nat × Value := (0, .slice (some ⟨0, 0, none⟩) D.len D.cap)
noncomputable def b0 (D : Deeds) : Nat × Blk := (0, .cells D.xs D.e .ro)
noncomputable def b2 : Nat × Blk := (2, .cells (.pointer (some ⟨1, 0, none⟩) :: .pointer (some ⟨3, 0, none⟩) :: rootL) 113 .var)
noncomputable def b3 : Nat × Blk := (3, .cells [.pointer (some ⟨1, 0, none⟩), nameV, .int .i64 (.ofNat 256)] 156 .var)
noncomputable def t4 : Nat × Value := (4, .pointer (some ⟨2, 0, none⟩))
noncomputable def t7 : Nat × Value := (7, .pointer (some ⟨5, 0, none⟩))
noncomputable def t8 : Nat × Value := (8, nameV)
noncomputable def t9 : Nat × Value := (9, .pointer (some ⟨6, 0, none⟩))
noncomputable def tn (t n : Nat) : Nat × Value := (t, .int .i64 (.ofNat n))
noncomputable def b4 (bs : List Nat) (g : Nat) : Nat × Blk := (4, .map (ents bs 7) g)
noncomputable def b5 (g : Nat) : Nat × Blk := (5, .cells [.int .i64 (.ofNat g), .map (some 4)] 154 .var)
noncomputable def b6 (ar : List Value) : Nat × Blk := (6, .cells ar 65 .var)

noncomputable def p0 (D : Deeds) : Pt := ⟨[t0 D], [b0 D], 1⟩
noncomputable def p5 (D : Deeds) : Pt := ⟨[t0 D, t4, (6, .bool true)], [b0 D, b2, b3], 4⟩
noncomputable def p8 (D : Deeds) : Pt := ⟨[t0 D, t4, t7], [b0 D, b2, b3, b4 [] 0, b5 0], 6⟩
noncomputable def p9 (D : Deeds) : Pt := ⟨[t0 D, t4, t7, t8], [b0 D, b2, b3, b4 [] 0, b5 0], 6⟩
noncomputable def no60 : List Value := List.replicate 60 (.bool false)
noncomputable def p10 (D : Deeds) : Pt := ⟨[t0 D, t4, t7, t8, t9], [b0 D, b2, b3, b4 [] 0, b5 0, b6 no60], 7⟩
noncomputable def p11 (D : Deeds) : Pt := ⟨[t0 D, t4, t7, t8, t9, tn 10 0, tn 11 0], [b0 D, b2, b3, b4 [] 0, b5 0, b6 no60], 7⟩
/-- At the loop's head: which are open, how many were given, the deed's number, the marks. -/
noncomputable def pC (D : Deeds) (bs : List Nat) (g i : Nat) (ar : List Value) : Pt :=
  ⟨[t0 D, t4, t7, t8, t9, tn 10 g, tn 11 bs.length, tn 12 i], b0 D :: b2 :: b3 :: b4 bs g :: b5 g :: b6 ar :: views bs 7, 7 + bs.length⟩
/-- At the inner loop's head. -/
noncomputable def pI (D : Deeds) (bs : List Nat) (g i : Nat) (ar : List Value) (j : Nat) : Pt :=
  ⟨[t0 D, t4, t7, t8, t9, tn 10 g, tn 11 bs.length, tn 12 i, tn 19 j], b0 D :: b2 :: b3 :: b4 bs g :: b5 g :: b6 ar :: views bs 7, 7 + bs.length⟩

/-- At the end. -/
noncomputable def pE : Pt := ⟨[(2, .bool true)], [], 0⟩

noncomputable def lrun (c : Code) (p : Pt) (sc : List (Nat × Turn)) : Option ((Ex × Tr Value) × PS) := execP laE laX (callP laE laX 100) 237 1000000 c p.tm ⟨p.s, 0, sc, true⟩
noncomputable def lres (x : Ex) (q : Pt) (L : List Nat) (ob : Bool) : Option (Ex × List (Option Value) × List (Option Blk) × Bool × Bool) :=
  some (x, q.lt.map (fun e => some (renV (rho L) e.2)), q.lb.map (fun e => some (cond (Nat.beq e.1 0 || Nat.beq e.1 6) e.2 (renB (rho L) e.2))), true, ob)
noncomputable def lpc (c : Code) (p : Pt) (sc : List (Nat × Turn)) (q : Pt) (L : List Nat) := pieceOf (lrun c p sc) (q.lt.map Prod.fst) (q.lb.map fun e => rho L e.1)

def idL (n : Nat) : List Nat := List.range n

theorem r0 (D : Deeds) : lpc lp0 (p0 D) [] (p0 D) [0] = lres .normal (p0 D) [0] true := by kernel_rfl
theorem r1 (D : Deeds) : lpc lp1 (p0 D) [] (p0 D) [0] = lres .normal (p0 D) [0] true := by kernel_rfl
theorem r3 (D : Deeds) : lpc lp3 (p0 D) [(2, .fal)] (p0 D) [0] = lres .normal (p0 D) [0] (!(Nat.blt 40 D.len) && true) := by kernel_rfl
theorem r5 (D : Deeds) : lpc lp5 (p0 D) [] (p5 D) [0, 4, 29, 27] = lres .normal (p5 D) [0, 4, 29, 27] true := by kernel_rfl
theorem r6 (D : Deeds) : lpc lp6 (p5 D) [] (p5 D) [0, 1, 2, 3] = lres .normal (p5 D) [0, 1, 2, 3] true := by kernel_rfl
theorem r8 (D : Deeds) : lpc lp8 (p5 D) [] (p8 D) [0, 1, 2, 3, 4, 5] = lres .normal (p8 D) [0, 1, 2, 3, 4, 5] true := by kernel_rfl
theorem r9 (D : Deeds) : lpc lp9 (p8 D) [] (p9 D) [0, 1, 2, 3, 4, 5] = lres .normal (p9 D) [0, 1, 2, 3, 4, 5] true := by kernel_rfl
theorem r10 (D : Deeds) : lpc lp10 (p9 D) [] (p10 D) [0, 1, 2, 3, 4, 5, 6] = lres .normal (p10 D) [0, 1, 2, 3, 4, 5, 6] true := by kernel_rfl
theorem r11 (D : Deeds) : lpc lp11 (p10 D) [] (p11 D) [0, 1, 2, 3, 4, 5, 6] = lres .normal (p11 D) [0, 1, 2, 3, 4, 5, 6] true := by kernel_rfl
theorem r12 (D : Deeds) : lpc lp12 (p11 D) [] (pC D [] 0 0 no60) [0, 1, 2, 3, 4, 5, 6] = lres .normal (pC D [] 0 0 no60) [0, 1, 2, 3, 4, 5, 6] true := by kernel_rfl

end Go.Proofs.YtmmplhfimnhcpaaGreatDoor

namespace Go.Proofs.YtmmplhfimnhcpaaGreatDoor
set_option linter.all false
open Go Go.Ideal
set_option maxRecDepth 100000
theorem tt0 (D : Deeds) (g i : Nat) (ar : List Value) : lpc lTest (pC D [] g i ar) [(3, .tru)] (pC D [] g i ar) [0, 1, 2, 3, 4, 5, 6] = lres .normal (pC D [] g i ar) [0, 1, 2, 3, 4, 5, 6] (Nat.blt i D.len && true) := by kernel_rfl
theorem tf0 (D : Deeds) (g i : Nat) (ar : List Value) : lpc lTest (pC D [] g i ar) [(3, .fal)] (pC D [] g i ar) [0, 1, 2, 3, 4, 5, 6] = lres (.exit 0) (pC D [] g i ar) [0, 1, 2, 3, 4, 5, 6] (!Nat.blt i D.len && true) := by kernel_rfl
theorem bb0 (D : Deeds) (g i : Nat) (ar : List Value) : lpc lB (pC D [] g i ar) [(17, .free), (23, .free)] (pC D [] g i ar) [0, 1, 2, 3, 4, 5, 6] = lres .normal (pC D [] g i ar) [0, 1, 2, 3, 4, 5, 6] ((bornLt (ents [] 7) g && bornApart (ents [] 7) []) && ((bornLt (ents [] 7) g && bornApart (ents [] 7) []) && true)) := by kernel_rfl
theorem bi0 (D : Deeds) (g i : Nat) (ar : List Value) : lpc lp34 (pC D [] g i ar) [] (pI D [] g i ar 0) [0, 1, 2, 3, 4, 5, 6] = lres .normal (pI D [] g i ar 0) [0, 1, 2, 3, 4, 5, 6] true := by kernel_rfl
theorem nx0 (D : Deeds) (g i : Nat) (ar : List Value) : lpc lNext (pC D [] g i ar) [(1, .free)] (pC D [] g (i + 1) ar) [0, 1, 2, 3, 4, 5, 6] = lres .normal (pC D [] g (i + 1) ar) [0, 1, 2, 3, 4, 5, 6] (eqI (wrapF .i64 (Int.ofNat (i + 1))) (Int.ofNat (i + 1)) && true) := by kernel_rfl
theorem it0 (D : Deeds) (g i j : Nat) (ar : List Value) : lpc lInTest (pI D [] g i ar j) [(2, .free), (3, .tru)] (pI D [] g i ar j) [0, 1, 2, 3, 4, 5, 6] = lres .normal (pI D [] g i ar j) [0, 1, 2, 3, 4, 5, 6] (Nat.ble j (g + 1) && (eqI (wrapF .i64 (Int.ofNat (g + 1))) (Int.ofNat (g + 1)) && true)) := by kernel_rfl
theorem if0 (D : Deeds) (g i j : Nat) (ar : List Value) : lpc lInTest (pI D [] g i ar j) [(2, .free), (3, .fal)] (pC D [] g i ar) [0, 1, 2, 3, 4, 5, 6] = lres (.exit 2) (pC D [] g i ar) [0, 1, 2, 3, 4, 5, 6] (!Nat.ble j (g + 1) && (eqI (wrapF .i64 (Int.ofNat (g + 1))) (Int.ofNat (g + 1)) && true)) := by kernel_rfl
theorem in0 (D : Deeds) (g i j : Nat) (ar : List Value) : lpc lInNext (pI D [] g i ar j) [(1, .free)] (pI D [] g i ar (j + 1)) [0, 1, 2, 3, 4, 5, 6] = lres .normal (pI D [] g i ar (j + 1)) [0, 1, 2, 3, 4, 5, 6] (eqI (wrapF .i64 (Int.ofNat (j + 1))) (Int.ofNat (j + 1)) && true) := by kernel_rfl
theorem iv0x0 (D : Deeds) (g i j : Nat) (ar : List Value) : lpc lIn3 (pI D [] g i ar j) [(13, .free), (30, .free), (31, .free), (32, .fal)] (pI D [] g i ar j) [0, 1, 2, 3, 4, 5, 6] = lres .normal (pI D [] g i ar j) [0, 1, 2, 3, 4, 5, 6] ((!(!(false == vBool (atD ar (0 + j * 1))))) && ((Nat.blt (0 + j * 1) ar.length && isBoolV (atD ar (0 + j * 1))) && (Nat.blt j 60 && true))) := by kernel_rfl
theorem tt1 (D : Deeds) (b0 : Nat) (g i : Nat) (ar : List Value) : lpc lTest (pC D [b0] g i ar) [(3, .tru)] (pC D [b0] g i ar) [0, 1, 2, 3, 4, 5, 6, 7] = lres .normal (pC D [b0] g i ar) [0, 1, 2, 3, 4, 5, 6, 7] (Nat.blt i D.len && true) := by kernel_rfl
theorem tf1 (D : Deeds) (b0 : Nat) (g i : Nat) (ar : List Value) : lpc lTest (pC D [b0] g i ar) [(3, .fal)] (pC D [b0] g i ar) [0, 1, 2, 3, 4, 5, 6, 7] = lres (.exit 0) (pC D [b0] g i ar) [0, 1, 2, 3, 4, 5, 6, 7] (!Nat.blt i D.len && true) := by kernel_rfl
theorem bb1 (D : Deeds) (b0 : Nat) (g i : Nat) (ar : List Value) : lpc lB (pC D [b0] g i ar) [(17, .free), (23, .free)] (pC D [b0] g i ar) [0, 1, 2, 3, 4, 5, 6, 7] = lres .normal (pC D [b0] g i ar) [0, 1, 2, 3, 4, 5, 6, 7] ((bornLt (ents [b0] 7) g && bornApart (ents [b0] 7) []) && ((bornLt (ents [b0] 7) g && bornApart (ents [b0] 7) []) && true)) := by kernel_rfl
theorem bi1 (D : Deeds) (b0 : Nat) (g i : Nat) (ar : List Value) : lpc lp34 (pC D [b0] g i ar) [] (pI D [b0] g i ar 0) [0, 1, 2, 3, 4, 5, 6, 7] = lres .normal (pI D [b0] g i ar 0) [0, 1, 2, 3, 4, 5, 6, 7] true := by kernel_rfl
theorem nx1 (D : Deeds) (b0 : Nat) (g i : Nat) (ar : List Value) : lpc lNext (pC D [b0] g i ar) [(1, .free)] (pC D [b0] g (i + 1) ar) [0, 1, 2, 3, 4, 5, 6, 7] = lres .normal (pC D [b0] g (i + 1) ar) [0, 1, 2, 3, 4, 5, 6, 7] (eqI (wrapF .i64 (Int.ofNat (i + 1))) (Int.ofNat (i + 1)) && true) := by kernel_rfl
theorem it1 (D : Deeds) (b0 : Nat) (g i j : Nat) (ar : List Value) : lpc lInTest (pI D [b0] g i ar j) [(2, .free), (3, .tru)] (pI D [b0] g i ar j) [0, 1, 2, 3, 4, 5, 6, 7] = lres .normal (pI D [b0] g i ar j) [0, 1, 2, 3, 4, 5, 6, 7] (Nat.ble j (g + 1) && (eqI (wrapF .i64 (Int.ofNat (g + 1))) (Int.ofNat (g + 1)) && true)) := by kernel_rfl
theorem if1 (D : Deeds) (b0 : Nat) (g i j : Nat) (ar : List Value) : lpc lInTest (pI D [b0] g i ar j) [(2, .free), (3, .fal)] (pC D [b0] g i ar) [0, 1, 2, 3, 4, 5, 6, 7] = lres (.exit 2) (pC D [b0] g i ar) [0, 1, 2, 3, 4, 5, 6, 7] (!Nat.ble j (g + 1) && (eqI (wrapF .i64 (Int.ofNat (g + 1))) (Int.ofNat (g + 1)) && true)) := by kernel_rfl
theorem in1 (D : Deeds) (b0 : Nat) (g i j : Nat) (ar : List Value) : lpc lInNext (pI D [b0] g i ar j) [(1, .free)] (pI D [b0] g i ar (j + 1)) [0, 1, 2, 3, 4, 5, 6, 7] = lres .normal (pI D [b0] g i ar (j + 1)) [0, 1, 2, 3, 4, 5, 6, 7] (eqI (wrapF .i64 (Int.ofNat (j + 1))) (Int.ofNat (j + 1)) && true) := by kernel_rfl
theorem iv1x0 (D : Deeds) (b0 : Nat) (g i j : Nat) (ar : List Value) : lpc lIn3 (pI D [b0] g i ar j) [(13, .free), (14, .yes), (31, .free), (32, .free), (33, .fal)] (pI D [b0] g i ar j) [0, 1, 2, 3, 4, 5, 6, 7] = lres .normal (pI D [b0] g i ar j) [0, 1, 2, 3, 4, 5, 6, 7] ((!(!(true == vBool (atD ar (0 + j * 1))))) && ((Nat.blt (0 + j * 1) ar.length && isBoolV (atD ar (0 + j * 1))) && (Nat.blt j 60 && (decide (Int.ofNat j = Int.ofNat (b0 + 1)) && true)))) := by kernel_rfl
theorem iv1x1 (D : Deeds) (b0 : Nat) (g i j : Nat) (ar : List Value) : lpc lIn3 (pI D [b0] g i ar j) [(13, .free), (14, .no), (31, .free), (32, .free), (33, .fal)] (pI D [b0] g i ar j) [0, 1, 2, 3, 4, 5, 6, 7] = lres .normal (pI D [b0] g i ar j) [0, 1, 2, 3, 4, 5, 6, 7] ((!(!(false == vBool (atD ar (0 + j * 1))))) && ((Nat.blt (0 + j * 1) ar.length && isBoolV (atD ar (0 + j * 1))) && (Nat.blt j 60 && (!decide (Int.ofNat j = Int.ofNat (b0 + 1)) && true)))) := by kernel_rfl
theorem tt2 (D : Deeds) (b0 b1 : Nat) (g i : Nat) (ar : List Value) : lpc lTest (pC D [b0, b1] g i ar) [(3, .tru)] (pC D [b0, b1] g i ar) [0, 1, 2, 3, 4, 5, 6, 7, 8] = lres .normal (pC D [b0, b1] g i ar) [0, 1, 2, 3, 4, 5, 6, 7, 8] (Nat.blt i D.len && true) := by kernel_rfl
theorem tf2 (D : Deeds) (b0 b1 : Nat) (g i : Nat) (ar : List Value) : lpc lTest (pC D [b0, b1] g i ar) [(3, .fal)] (pC D [b0, b1] g i ar) [0, 1, 2, 3, 4, 5, 6, 7, 8] = lres (.exit 0) (pC D [b0, b1] g i ar) [0, 1, 2, 3, 4, 5, 6, 7, 8] (!Nat.blt i D.len && true) := by kernel_rfl
theorem bb2 (D : Deeds) (b0 b1 : Nat) (g i : Nat) (ar : List Value) : lpc lB (pC D [b0, b1] g i ar) [(17, .free), (23, .free)] (pC D [b0, b1] g i ar) [0, 1, 2, 3, 4, 5, 6, 7, 8] = lres .normal (pC D [b0, b1] g i ar) [0, 1, 2, 3, 4, 5, 6, 7, 8] ((bornLt (ents [b0, b1] 7) g && bornApart (ents [b0, b1] 7) []) && ((bornLt (ents [b0, b1] 7) g && bornApart (ents [b0, b1] 7) []) && true)) := by kernel_rfl
theorem bi2 (D : Deeds) (b0 b1 : Nat) (g i : Nat) (ar : List Value) : lpc lp34 (pC D [b0, b1] g i ar) [] (pI D [b0, b1] g i ar 0) [0, 1, 2, 3, 4, 5, 6, 7, 8] = lres .normal (pI D [b0, b1] g i ar 0) [0, 1, 2, 3, 4, 5, 6, 7, 8] true := by kernel_rfl
theorem nx2 (D : Deeds) (b0 b1 : Nat) (g i : Nat) (ar : List Value) : lpc lNext (pC D [b0, b1] g i ar) [(1, .free)] (pC D [b0, b1] g (i + 1) ar) [0, 1, 2, 3, 4, 5, 6, 7, 8] = lres .normal (pC D [b0, b1] g (i + 1) ar) [0, 1, 2, 3, 4, 5, 6, 7, 8] (eqI (wrapF .i64 (Int.ofNat (i + 1))) (Int.ofNat (i + 1)) && true) := by kernel_rfl
theorem it2 (D : Deeds) (b0 b1 : Nat) (g i j : Nat) (ar : List Value) : lpc lInTest (pI D [b0, b1] g i ar j) [(2, .free), (3, .tru)] (pI D [b0, b1] g i ar j) [0, 1, 2, 3, 4, 5, 6, 7, 8] = lres .normal (pI D [b0, b1] g i ar j) [0, 1, 2, 3, 4, 5, 6, 7, 8] (Nat.ble j (g + 1) && (eqI (wrapF .i64 (Int.ofNat (g + 1))) (Int.ofNat (g + 1)) && true)) := by kernel_rfl
theorem if2 (D : Deeds) (b0 b1 : Nat) (g i j : Nat) (ar : List Value) : lpc lInTest (pI D [b0, b1] g i ar j) [(2, .free), (3, .fal)] (pC D [b0, b1] g i ar) [0, 1, 2, 3, 4, 5, 6, 7, 8] = lres (.exit 2) (pC D [b0, b1] g i ar) [0, 1, 2, 3, 4, 5, 6, 7, 8] (!Nat.ble j (g + 1) && (eqI (wrapF .i64 (Int.ofNat (g + 1))) (Int.ofNat (g + 1)) && true)) := by kernel_rfl
theorem in2 (D : Deeds) (b0 b1 : Nat) (g i j : Nat) (ar : List Value) : lpc lInNext (pI D [b0, b1] g i ar j) [(1, .free)] (pI D [b0, b1] g i ar (j + 1)) [0, 1, 2, 3, 4, 5, 6, 7, 8] = lres .normal (pI D [b0, b1] g i ar (j + 1)) [0, 1, 2, 3, 4, 5, 6, 7, 8] (eqI (wrapF .i64 (Int.ofNat (j + 1))) (Int.ofNat (j + 1)) && true) := by kernel_rfl
theorem iv2x0 (D : Deeds) (b0 b1 : Nat) (g i j : Nat) (ar : List Value) : lpc lIn3 (pI D [b0, b1] g i ar j) [(13, .free), (14, .yes), (31, .free), (32, .free), (33, .fal)] (pI D [b0, b1] g i ar j) [0, 1, 2, 3, 4, 5, 6, 7, 8] = lres .normal (pI D [b0, b1] g i ar j) [0, 1, 2, 3, 4, 5, 6, 7, 8] ((!(!(true == vBool (atD ar (0 + j * 1))))) && ((Nat.blt (0 + j * 1) ar.length && isBoolV (atD ar (0 + j * 1))) && (Nat.blt j 60 && (decide (Int.ofNat j = Int.ofNat (b0 + 1)) && true)))) := by kernel_rfl
theorem iv2x1 (D : Deeds) (b0 b1 : Nat) (g i j : Nat) (ar : List Value) : lpc lIn3 (pI D [b0, b1] g i ar j) [(13, .free), (14, .no), (15, .yes), (32, .free), (33, .free), (34, .fal)] (pI D [b0, b1] g i ar j) [0, 1, 2, 3, 4, 5, 6, 7, 8] = lres .normal (pI D [b0, b1] g i ar j) [0, 1, 2, 3, 4, 5, 6, 7, 8] ((!(!(true == vBool (atD ar (0 + j * 1))))) && ((Nat.blt (0 + j * 1) ar.length && isBoolV (atD ar (0 + j * 1))) && (Nat.blt j 60 && (decide (Int.ofNat j = Int.ofNat (b1 + 1)) && (!decide (Int.ofNat j = Int.ofNat (b0 + 1)) && true))))) := by kernel_rfl
theorem iv2x2 (D : Deeds) (b0 b1 : Nat) (g i j : Nat) (ar : List Value) : lpc lIn3 (pI D [b0, b1] g i ar j) [(13, .free), (14, .no), (15, .no), (32, .free), (33, .free), (34, .fal)] (pI D [b0, b1] g i ar j) [0, 1, 2, 3, 4, 5, 6, 7, 8] = lres .normal (pI D [b0, b1] g i ar j) [0, 1, 2, 3, 4, 5, 6, 7, 8] ((!(!(false == vBool (atD ar (0 + j * 1))))) && ((Nat.blt (0 + j * 1) ar.length && isBoolV (atD ar (0 + j * 1))) && (Nat.blt j 60 && (!decide (Int.ofNat j = Int.ofNat (b1 + 1)) && (!decide (Int.ofNat j = Int.ofNat (b0 + 1)) && true))))) := by kernel_rfl
theorem tt3 (D : Deeds) (b0 b1 b2 : Nat) (g i : Nat) (ar : List Value) : lpc lTest (pC D [b0, b1, b2] g i ar) [(3, .tru)] (pC D [b0, b1, b2] g i ar) [0, 1, 2, 3, 4, 5, 6, 7, 8, 9] = lres .normal (pC D [b0, b1, b2] g i ar) [0, 1, 2, 3, 4, 5, 6, 7, 8, 9] (Nat.blt i D.len && true) := by kernel_rfl
theorem tf3 (D : Deeds) (b0 b1 b2 : Nat) (g i : Nat) (ar : List Value) : lpc lTest (pC D [b0, b1, b2] g i ar) [(3, .fal)] (pC D [b0, b1, b2] g i ar) [0, 1, 2, 3, 4, 5, 6, 7, 8, 9] = lres (.exit 0) (pC D [b0, b1, b2] g i ar) [0, 1, 2, 3, 4, 5, 6, 7, 8, 9] (!Nat.blt i D.len && true) := by kernel_rfl
theorem bb3 (D : Deeds) (b0 b1 b2 : Nat) (g i : Nat) (ar : List Value) : lpc lB (pC D [b0, b1, b2] g i ar) [(17, .free), (23, .free)] (pC D [b0, b1, b2] g i ar) [0, 1, 2, 3, 4, 5, 6, 7, 8, 9] = lres .normal (pC D [b0, b1, b2] g i ar) [0, 1, 2, 3, 4, 5, 6, 7, 8, 9] ((bornLt (ents [b0, b1, b2] 7) g && bornApart (ents [b0, b1, b2] 7) []) && ((bornLt (ents [b0, b1, b2] 7) g && bornApart (ents [b0, b1, b2] 7) []) && true)) := by kernel_rfl
theorem bi3 (D : Deeds) (b0 b1 b2 : Nat) (g i : Nat) (ar : List Value) : lpc lp34 (pC D [b0, b1, b2] g i ar) [] (pI D [b0, b1, b2] g i ar 0) [0, 1, 2, 3, 4, 5, 6, 7, 8, 9] = lres .normal (pI D [b0, b1, b2] g i ar 0) [0, 1, 2, 3, 4, 5, 6, 7, 8, 9] true := by kernel_rfl
theorem nx3 (D : Deeds) (b0 b1 b2 : Nat) (g i : Nat) (ar : List Value) : lpc lNext (pC D [b0, b1, b2] g i ar) [(1, .free)] (pC D [b0, b1, b2] g (i + 1) ar) [0, 1, 2, 3, 4, 5, 6, 7, 8, 9] = lres .normal (pC D [b0, b1, b2] g (i + 1) ar) [0, 1, 2, 3, 4, 5, 6, 7, 8, 9] (eqI (wrapF .i64 (Int.ofNat (i + 1))) (Int.ofNat (i + 1)) && true) := by kernel_rfl
theorem it3 (D : Deeds) (b0 b1 b2 : Nat) (g i j : Nat) (ar : List Value) : lpc lInTest (pI D [b0, b1, b2] g i ar j) [(2, .free), (3, .tru)] (pI D [b0, b1, b2] g i ar j) [0, 1, 2, 3, 4, 5, 6, 7, 8, 9] = lres .normal (pI D [b0, b1, b2] g i ar j) [0, 1, 2, 3, 4, 5, 6, 7, 8, 9] (Nat.ble j (g + 1) && (eqI (wrapF .i64 (Int.ofNat (g + 1))) (Int.ofNat (g + 1)) && true)) := by kernel_rfl
theorem if3 (D : Deeds) (b0 b1 b2 : Nat) (g i j : Nat) (ar : List Value) : lpc lInTest (pI D [b0, b1, b2] g i ar j) [(2, .free), (3, .fal)] (pC D [b0, b1, b2] g i ar) [0, 1, 2, 3, 4, 5, 6, 7, 8, 9] = lres (.exit 2) (pC D [b0, b1, b2] g i ar) [0, 1, 2, 3, 4, 5, 6, 7, 8, 9] (!Nat.ble j (g + 1) && (eqI (wrapF .i64 (Int.ofNat (g + 1))) (Int.ofNat (g + 1)) && true)) := by kernel_rfl
theorem in3 (D : Deeds) (b0 b1 b2 : Nat) (g i j : Nat) (ar : List Value) : lpc lInNext (pI D [b0, b1, b2] g i ar j) [(1, .free)] (pI D [b0, b1, b2] g i ar (j + 1)) [0, 1, 2, 3, 4, 5, 6, 7, 8, 9] = lres .normal (pI D [b0, b1, b2] g i ar (j + 1)) [0, 1, 2, 3, 4, 5, 6, 7, 8, 9] (eqI (wrapF .i64 (Int.ofNat (j + 1))) (Int.ofNat (j + 1)) && true) := by kernel_rfl
theorem iv3x0 (D : Deeds) (b0 b1 b2 : Nat) (g i j : Nat) (ar : List Value) : lpc lIn3 (pI D [b0, b1, b2] g i ar j) [(13, .free), (14, .yes), (31, .free), (32, .free), (33, .fal)] (pI D [b0, b1, b2] g i ar j) [0, 1, 2, 3, 4, 5, 6, 7, 8, 9] = lres .normal (pI D [b0, b1, b2] g i ar j) [0, 1, 2, 3, 4, 5, 6, 7, 8, 9] ((!(!(true == vBool (atD ar (0 + j * 1))))) && ((Nat.blt (0 + j * 1) ar.length && isBoolV (atD ar (0 + j * 1))) && (Nat.blt j 60 && (decide (Int.ofNat j = Int.ofNat (b0 + 1)) && true)))) := by kernel_rfl
theorem iv3x1 (D : Deeds) (b0 b1 b2 : Nat) (g i j : Nat) (ar : List Value) : lpc lIn3 (pI D [b0, b1, b2] g i ar j) [(13, .free), (14, .no), (15, .yes), (32, .free), (33, .free), (34, .fal)] (pI D [b0, b1, b2] g i ar j) [0, 1, 2, 3, 4, 5, 6, 7, 8, 9] = lres .normal (pI D [b0, b1, b2] g i ar j) [0, 1, 2, 3, 4, 5, 6, 7, 8, 9] ((!(!(true == vBool (atD ar (0 + j * 1))))) && ((Nat.blt (0 + j * 1) ar.length && isBoolV (atD ar (0 + j * 1))) && (Nat.blt j 60 && (decide (Int.ofNat j = Int.ofNat (b1 + 1)) && (!decide (Int.ofNat j = Int.ofNat (b0 + 1)) && true))))) := by kernel_rfl
theorem iv3x2 (D : Deeds) (b0 b1 b2 : Nat) (g i j : Nat) (ar : List Value) : lpc lIn3 (pI D [b0, b1, b2] g i ar j) [(13, .free), (14, .no), (15, .no), (16, .yes), (33, .free), (34, .free), (35, .fal)] (pI D [b0, b1, b2] g i ar j) [0, 1, 2, 3, 4, 5, 6, 7, 8, 9] = lres .normal (pI D [b0, b1, b2] g i ar j) [0, 1, 2, 3, 4, 5, 6, 7, 8, 9] ((!(!(true == vBool (atD ar (0 + j * 1))))) && ((Nat.blt (0 + j * 1) ar.length && isBoolV (atD ar (0 + j * 1))) && (Nat.blt j 60 && (decide (Int.ofNat j = Int.ofNat (b2 + 1)) && (!decide (Int.ofNat j = Int.ofNat (b1 + 1)) && (!decide (Int.ofNat j = Int.ofNat (b0 + 1)) && true)))))) := by kernel_rfl
theorem iv3x3 (D : Deeds) (b0 b1 b2 : Nat) (g i j : Nat) (ar : List Value) : lpc lIn3 (pI D [b0, b1, b2] g i ar j) [(13, .free), (14, .no), (15, .no), (16, .no), (33, .free), (34, .free), (35, .fal)] (pI D [b0, b1, b2] g i ar j) [0, 1, 2, 3, 4, 5, 6, 7, 8, 9] = lres .normal (pI D [b0, b1, b2] g i ar j) [0, 1, 2, 3, 4, 5, 6, 7, 8, 9] ((!(!(false == vBool (atD ar (0 + j * 1))))) && ((Nat.blt (0 + j * 1) ar.length && isBoolV (atD ar (0 + j * 1))) && (Nat.blt j 60 && (!decide (Int.ofNat j = Int.ofNat (b2 + 1)) && (!decide (Int.ofNat j = Int.ofNat (b1 + 1)) && (!decide (Int.ofNat j = Int.ofNat (b0 + 1)) && true)))))) := by kernel_rfl
theorem tt4 (D : Deeds) (b0 b1 b2 b3 : Nat) (g i : Nat) (ar : List Value) : lpc lTest (pC D [b0, b1, b2, b3] g i ar) [(3, .tru)] (pC D [b0, b1, b2, b3] g i ar) [0, 1, 2, 3, 4, 5, 6, 7, 8, 9, 10] = lres .normal (pC D [b0, b1, b2, b3] g i ar) [0, 1, 2, 3, 4, 5, 6, 7, 8, 9, 10] (Nat.blt i D.len && true) := by kernel_rfl
theorem tf4 (D : Deeds) (b0 b1 b2 b3 : Nat) (g i : Nat) (ar : List Value) : lpc lTest (pC D [b0, b1, b2, b3] g i ar) [(3, .fal)] (pC D [b0, b1, b2, b3] g i ar) [0, 1, 2, 3, 4, 5, 6, 7, 8, 9, 10] = lres (.exit 0) (pC D [b0, b1, b2, b3] g i ar) [0, 1, 2, 3, 4, 5, 6, 7, 8, 9, 10] (!Nat.blt i D.len && true) := by kernel_rfl
theorem bb4 (D : Deeds) (b0 b1 b2 b3 : Nat) (g i : Nat) (ar : List Value) : lpc lB (pC D [b0, b1, b2, b3] g i ar) [(17, .free), (23, .free)] (pC D [b0, b1, b2, b3] g i ar) [0, 1, 2, 3, 4, 5, 6, 7, 8, 9, 10] = lres .normal (pC D [b0, b1, b2, b3] g i ar) [0, 1, 2, 3, 4, 5, 6, 7, 8, 9, 10] ((bornLt (ents [b0, b1, b2, b3] 7) g && bornApart (ents [b0, b1, b2, b3] 7) []) && ((bornLt (ents [b0, b1, b2, b3] 7) g && bornApart (ents [b0, b1, b2, b3] 7) []) && true)) := by kernel_rfl
theorem bi4 (D : Deeds) (b0 b1 b2 b3 : Nat) (g i : Nat) (ar : List Value) : lpc lp34 (pC D [b0, b1, b2, b3] g i ar) [] (pI D [b0, b1, b2, b3] g i ar 0) [0, 1, 2, 3, 4, 5, 6, 7, 8, 9, 10] = lres .normal (pI D [b0, b1, b2, b3] g i ar 0) [0, 1, 2, 3, 4, 5, 6, 7, 8, 9, 10] true := by kernel_rfl
theorem nx4 (D : Deeds) (b0 b1 b2 b3 : Nat) (g i : Nat) (ar : List Value) : lpc lNext (pC D [b0, b1, b2, b3] g i ar) [(1, .free)] (pC D [b0, b1, b2, b3] g (i + 1) ar) [0, 1, 2, 3, 4, 5, 6, 7, 8, 9, 10] = lres .normal (pC D [b0, b1, b2, b3] g (i + 1) ar) [0, 1, 2, 3, 4, 5, 6, 7, 8, 9, 10] (eqI (wrapF .i64 (Int.ofNat (i + 1))) (Int.ofNat (i + 1)) && true) := by kernel_rfl
theorem it4 (D : Deeds) (b0 b1 b2 b3 : Nat) (g i j : Nat) (ar : List Value) : lpc lInTest (pI D [b0, b1, b2, b3] g i ar j) [(2, .free), (3, .tru)] (pI D [b0, b1, b2, b3] g i ar j) [0, 1, 2, 3, 4, 5, 6, 7, 8, 9, 10] = lres .normal (pI D [b0, b1, b2, b3] g i ar j) [0, 1, 2, 3, 4, 5, 6, 7, 8, 9, 10] (Nat.ble j (g + 1) && (eqI (wrapF .i64 (Int.ofNat (g + 1))) (Int.ofNat (g + 1)) && true)) := by kernel_rfl
theorem if4 (D : Deeds) (b0 b1 b2 b3 : Nat) (g i j : Nat) (ar : List Value) : lpc lInTest (pI D [b0, b1, b2, b3] g i ar j) [(2, .free), (3, .fal)] (pC D [b0, b1, b2, b3] g i ar) [0, 1, 2, 3, 4, 5, 6, 7, 8, 9, 10] = lres (.exit 2) (pC D [b0, b1, b2, b3] g i ar) [0, 1, 2, 3, 4, 5, 6, 7, 8, 9, 10] (!Nat.ble j (g + 1) && (eqI (wrapF .i64 (Int.ofNat (g + 1))) (Int.ofNat (g + 1)) && true)) := by kernel_rfl
theorem in4 (D : Deeds) (b0 b1 b2 b3 : Nat) (g i j : Nat) (ar : List Value) : lpc lInNext (pI D [b0, b1, b2, b3] g i ar j) [(1, .free)] (pI D [b0, b1, b2, b3] g i ar (j + 1)) [0, 1, 2, 3, 4, 5, 6, 7, 8, 9, 10] = lres .normal (pI D [b0, b1, b2, b3] g i ar (j + 1)) [0, 1, 2, 3, 4, 5, 6, 7, 8, 9, 10] (eqI (wrapF .i64 (Int.ofNat (j + 1))) (Int.ofNat (j + 1)) && true) := by kernel_rfl
theorem iv4x0 (D : Deeds) (b0 b1 b2 b3 : Nat) (g i j : Nat) (ar : List Value) : lpc lIn3 (pI D [b0, b1, b2, b3] g i ar j) [(13, .free), (14, .yes), (31, .free), (32, .free), (33, .fal)] (pI D [b0, b1, b2, b3] g i ar j) [0, 1, 2, 3, 4, 5, 6, 7, 8, 9, 10] = lres .normal (pI D [b0, b1, b2, b3] g i ar j) [0, 1, 2, 3, 4, 5, 6, 7, 8, 9, 10] ((!(!(true == vBool (atD ar (0 + j * 1))))) && ((Nat.blt (0 + j * 1) ar.length && isBoolV (atD ar (0 + j * 1))) && (Nat.blt j 60 && (decide (Int.ofNat j = Int.ofNat (b0 + 1)) && true)))) := by kernel_rfl
theorem iv4x1 (D : Deeds) (b0 b1 b2 b3 : Nat) (g i j : Nat) (ar : List Value) : lpc lIn3 (pI D [b0, b1, b2, b3] g i ar j) [(13, .free), (14, .no), (15, .yes), (32, .free), (33, .free), (34, .fal)] (pI D [b0, b1, b2, b3] g i ar j) [0, 1, 2, 3, 4, 5, 6, 7, 8, 9, 10] = lres .normal (pI D [b0, b1, b2, b3] g i ar j) [0, 1, 2, 3, 4, 5, 6, 7, 8, 9, 10] ((!(!(true == vBool (atD ar (0 + j * 1))))) && ((Nat.blt (0 + j * 1) ar.length && isBoolV (atD ar (0 + j * 1))) && (Nat.blt j 60 && (decide (Int.ofNat j = Int.ofNat (b1 + 1)) && (!decide (Int.ofNat j = Int.ofNat (b0 + 1)) && true))))) := by kernel_rfl
theorem iv4x2 (D : Deeds) (b0 b1 b2 b3 : Nat) (g i j : Nat) (ar : List Value) : lpc lIn3 (pI D [b0, b1, b2, b3] g i ar j) [(13, .free), (14, .no), (15, .no), (16, .yes), (33, .free), (34, .free), (35, .fal)] (pI D [b0, b1, b2, b3] g i ar j) [0, 1, 2, 3, 4, 5, 6, 7, 8, 9, 10] = lres .normal (pI D [b0, b1, b2, b3] g i ar j) [0, 1, 2, 3, 4, 5, 6, 7, 8, 9, 10] ((!(!(true == vBool (atD ar (0 + j * 1))))) && ((Nat.blt (0 + j * 1) ar.length && isBoolV (atD ar (0 + j * 1))) && (Nat.blt j 60 && (decide (Int.ofNat j = Int.ofNat (b2 + 1)) && (!decide (Int.ofNat j = Int.ofNat (b1 + 1)) && (!decide (Int.ofNat j = Int.ofNat (b0 + 1)) && true)))))) := by kernel_rfl
theorem iv4x3 (D : Deeds) (b0 b1 b2 b3 : Nat) (g i j : Nat) (ar : List Value) : lpc lIn3 (pI D [b0, b1, b2, b3] g i ar j) [(13, .free), (14, .no), (15, .no), (16, .no), (17, .yes), (34, .free), (35, .free), (36, .fal)] (pI D [b0, b1, b2, b3] g i ar j) [0, 1, 2, 3, 4, 5, 6, 7, 8, 9, 10] = lres .normal (pI D [b0, b1, b2, b3] g i ar j) [0, 1, 2, 3, 4, 5, 6, 7, 8, 9, 10] ((!(!(true == vBool (atD ar (0 + j * 1))))) && ((Nat.blt (0 + j * 1) ar.length && isBoolV (atD ar (0 + j * 1))) && (Nat.blt j 60 && (decide (Int.ofNat j = Int.ofNat (b3 + 1)) && (!decide (Int.ofNat j = Int.ofNat (b2 + 1)) && (!decide (Int.ofNat j = Int.ofNat (b1 + 1)) && (!decide (Int.ofNat j = Int.ofNat (b0 + 1)) && true))))))) := by kernel_rfl
theorem iv4x4 (D : Deeds) (b0 b1 b2 b3 : Nat) (g i j : Nat) (ar : List Value) : lpc lIn3 (pI D [b0, b1, b2, b3] g i ar j) [(13, .free), (14, .no), (15, .no), (16, .no), (17, .no), (34, .free), (35, .free), (36, .fal)] (pI D [b0, b1, b2, b3] g i ar j) [0, 1, 2, 3, 4, 5, 6, 7, 8, 9, 10] = lres .normal (pI D [b0, b1, b2, b3] g i ar j) [0, 1, 2, 3, 4, 5, 6, 7, 8, 9, 10] ((!(!(false == vBool (atD ar (0 + j * 1))))) && ((Nat.blt (0 + j * 1) ar.length && isBoolV (atD ar (0 + j * 1))) && (Nat.blt j 60 && (!decide (Int.ofNat j = Int.ofNat (b3 + 1)) && (!decide (Int.ofNat j = Int.ofNat (b2 + 1)) && (!decide (Int.ofNat j = Int.ofNat (b1 + 1)) && (!decide (Int.ofNat j = Int.ofNat (b0 + 1)) && true))))))) := by kernel_rfl
end Go.Proofs.YtmmplhfimnhcpaaGreatDoor

namespace Go.Proofs.YtmmplhfimnhcpaaGreatDoor
set_option linter.all false
open Go Go.Ideal
set_option maxRecDepth 100000
theorem add0 (D : Deeds) (g i : Nat) (ar : List Value) : lpc lA (pC D [] g i ar) [(2, .free), (3, .free), (4, .num 0), (61, .free), (74, .free), (90, .free), (97, .fal), (101, .free), (102, .free)] (pC D [g] (g + 1) i (splice ar (0 + (g + 1) * 1) [.bool true])) [0, 1, 2, 3, 4, 5, 6, 9] = lres .normal (pC D [g] (g + 1) i (splice ar (0 + (g + 1) * 1) [.bool true])) [0, 1, 2, 3, 4, 5, 6, 9] ((Nat.ble (0 + (g + 1) * 1 + 1) ar.length && true) && (Nat.blt (g + 1) 60 && (!(!(eqI (Int.ofNat (g + 1)) (Int.ofNat (g + 1)))) && (eqI (wrapF .i64 (Int.ofNat (g + 1))) (Int.ofNat (g + 1)) && (eqI (wrapF .i64 (Int.ofNat (g + 1))) (Int.ofNat (g + 1)) && (eqI ((vInt (atD D.xs (0 + i * 1))).tmod 2) (Int.ofNat 0) && ((Nat.blt (0 + i * 1) D.xs.length && isIntV .u8 (atD D.xs (0 + i * 1))) && (Nat.blt i D.len && true)))))))) := by kernel_rfl
theorem del0x0 (D : Deeds) (g i d k : Nat) (ar : List Value) : lpc lA (pC D [] g i ar) [(2, .free), (3, .free), (4, .num 1), (9, .free), (10, .free), (11, .num d), (13, .free), (15, .free), (16, .num k), (37, .free), (67, .free), (68, .free), (69, .fal)] (pC D [] g i ar) [0, 1, 2, 3, 4, 5, 6] = lres .normal (pC D [] g i ar) [0, 1, 2, 3, 4, 5, 6] ((!(!(false == vBool (atD ar (0 + k * 1))))) && ((Nat.blt (0 + k * 1) ar.length && isBoolV (atD ar (0 + k * 1))) && (Nat.blt k 60 && (eqI (((Int.ofNat d).tmod 50).tmod (Int.ofNat (g + 2))) (Int.ofNat k) && (eqI (wrapF .i64 (Int.ofNat (g + 2))) (Int.ofNat (g + 2)) && (eqI (wrapF .i64 ((Int.ofNat d).tmod 50)) ((Int.ofNat d).tmod 50) && (eqI (wrapF .u8 ((vInt (atD D.xs (0 + i * 1))).tdiv 2)) (Int.ofNat d) && ((Nat.blt (0 + i * 1) D.xs.length && isIntV .u8 (atD D.xs (0 + i * 1))) && (Nat.blt i D.len && (eqI ((vInt (atD D.xs (0 + i * 1))).tmod 2) (Int.ofNat 1) && ((Nat.blt (0 + i * 1) D.xs.length && isIntV .u8 (atD D.xs (0 + i * 1))) && (Nat.blt i D.len && true)))))))))))) := by kernel_rfl
theorem add1 (D : Deeds) (b0 : Nat) (g i : Nat) (ar : List Value) : lpc lA (pC D [b0] g i ar) [(2, .free), (3, .free), (4, .num 0), (61, .free), (74, .free), (75, .no), (91, .free), (98, .fal), (102, .free), (103, .free)] (pC D [b0, g] (g + 1) i (splice ar (0 + (g + 1) * 1) [.bool true])) [0, 1, 2, 3, 4, 5, 6, 7, 10] = lres .normal (pC D [b0, g] (g + 1) i (splice ar (0 + (g + 1) * 1) [.bool true])) [0, 1, 2, 3, 4, 5, 6, 7, 10] ((Nat.ble (0 + (g + 1) * 1 + 1) ar.length && true) && (Nat.blt (g + 1) 60 && (!(!(eqI (Int.ofNat (g + 1)) (Int.ofNat (g + 1)))) && (eqI (wrapF .i64 (Int.ofNat (g + 1))) (Int.ofNat (g + 1)) && (!decide (Int.ofNat (g + 1) = Int.ofNat (b0 + 1)) && (eqI (wrapF .i64 (Int.ofNat (g + 1))) (Int.ofNat (g + 1)) && (eqI ((vInt (atD D.xs (0 + i * 1))).tmod 2) (Int.ofNat 0) && ((Nat.blt (0 + i * 1) D.xs.length && isIntV .u8 (atD D.xs (0 + i * 1))) && (Nat.blt i D.len && true))))))))) := by kernel_rfl
theorem del1x0 (D : Deeds) (b0 : Nat) (g i d k : Nat) (ar : List Value) : lpc lA (pC D [b0] g i ar) [(2, .free), (3, .free), (4, .num 1), (9, .free), (10, .free), (11, .num d), (13, .free), (15, .free), (16, .num k), (37, .free), (38, .yes), (61, .free), (62, .yes), (87, .free), (102, .free), (103, .free), (104, .fal), (134, .free), (135, .free)] (pC D [] g i (splice ar (0 + k * 1) [.bool false])) [0, 1, 2, 3, 4, 5, 6] = lres .normal (pC D [] g i (splice ar (0 + k * 1) [.bool false])) [0, 1, 2, 3, 4, 5, 6] ((Nat.ble (0 + k * 1 + 1) ar.length && true) && (Nat.blt k 60 && ((!(!(true == vBool (atD ar (0 + k * 1))))) && ((Nat.blt (0 + k * 1) ar.length && isBoolV (atD ar (0 + k * 1))) && (Nat.blt k 60 && ((bornLt (ents [] 7) g && bornApart (ents [] 7) []) && (decide (Int.ofNat k = Int.ofNat (b0 + 1)) && (decide (Int.ofNat k = Int.ofNat (b0 + 1)) && (eqI (((Int.ofNat d).tmod 50).tmod (Int.ofNat (g + 2))) (Int.ofNat k) && (eqI (wrapF .i64 (Int.ofNat (g + 2))) (Int.ofNat (g + 2)) && (eqI (wrapF .i64 ((Int.ofNat d).tmod 50)) ((Int.ofNat d).tmod 50) && (eqI (wrapF .u8 ((vInt (atD D.xs (0 + i * 1))).tdiv 2)) (Int.ofNat d) && ((Nat.blt (0 + i * 1) D.xs.length && isIntV .u8 (atD D.xs (0 + i * 1))) && (Nat.blt i D.len && (eqI ((vInt (atD D.xs (0 + i * 1))).tmod 2) (Int.ofNat 1) && ((Nat.blt (0 + i * 1) D.xs.length && isIntV .u8 (atD D.xs (0 + i * 1))) && (Nat.blt i D.len && true))))))))))))))))) := by kernel_rfl
theorem del1x1 (D : Deeds) (b0 : Nat) (g i d k : Nat) (ar : List Value) : lpc lA (pC D [b0] g i ar) [(2, .free), (3, .free), (4, .num 1), (9, .free), (10, .free), (11, .num d), (13, .free), (15, .free), (16, .num k), (37, .free), (38, .no), (68, .free), (69, .free), (70, .fal)] (pC D [b0] g i ar) [0, 1, 2, 3, 4, 5, 6, 7] = lres .normal (pC D [b0] g i ar) [0, 1, 2, 3, 4, 5, 6, 7] ((!(!(false == vBool (atD ar (0 + k * 1))))) && ((Nat.blt (0 + k * 1) ar.length && isBoolV (atD ar (0 + k * 1))) && (Nat.blt k 60 && (!decide (Int.ofNat k = Int.ofNat (b0 + 1)) && (eqI (((Int.ofNat d).tmod 50).tmod (Int.ofNat (g + 2))) (Int.ofNat k) && (eqI (wrapF .i64 (Int.ofNat (g + 2))) (Int.ofNat (g + 2)) && (eqI (wrapF .i64 ((Int.ofNat d).tmod 50)) ((Int.ofNat d).tmod 50) && (eqI (wrapF .u8 ((vInt (atD D.xs (0 + i * 1))).tdiv 2)) (Int.ofNat d) && ((Nat.blt (0 + i * 1) D.xs.length && isIntV .u8 (atD D.xs (0 + i * 1))) && (Nat.blt i D.len && (eqI ((vInt (atD D.xs (0 + i * 1))).tmod 2) (Int.ofNat 1) && ((Nat.blt (0 + i * 1) D.xs.length && isIntV .u8 (atD D.xs (0 + i * 1))) && (Nat.blt i D.len && true))))))))))))) := by kernel_rfl
theorem add2 (D : Deeds) (b0 b1 : Nat) (g i : Nat) (ar : List Value) : lpc lA (pC D [b0, b1] g i ar) [(2, .free), (3, .free), (4, .num 0), (61, .free), (74, .free), (75, .no), (76, .no), (92, .free), (99, .fal), (103, .free), (104, .free)] (pC D [b0, b1, g] (g + 1) i (splice ar (0 + (g + 1) * 1) [.bool true])) [0, 1, 2, 3, 4, 5, 6, 7, 8, 11] = lres .normal (pC D [b0, b1, g] (g + 1) i (splice ar (0 + (g + 1) * 1) [.bool true])) [0, 1, 2, 3, 4, 5, 6, 7, 8, 11] ((Nat.ble (0 + (g + 1) * 1 + 1) ar.length && true) && (Nat.blt (g + 1) 60 && (!(!(eqI (Int.ofNat (g + 1)) (Int.ofNat (g + 1)))) && (eqI (wrapF .i64 (Int.ofNat (g + 1))) (Int.ofNat (g + 1)) && (!decide (Int.ofNat (g + 1) = Int.ofNat (b1 + 1)) && (!decide (Int.ofNat (g + 1) = Int.ofNat (b0 + 1)) && (eqI (wrapF .i64 (Int.ofNat (g + 1))) (Int.ofNat (g + 1)) && (eqI ((vInt (atD D.xs (0 + i * 1))).tmod 2) (Int.ofNat 0) && ((Nat.blt (0 + i * 1) D.xs.length && isIntV .u8 (atD D.xs (0 + i * 1))) && (Nat.blt i D.len && true)))))))))) := by kernel_rfl
theorem del2x0 (D : Deeds) (b0 b1 : Nat) (g i d k : Nat) (ar : List Value) : lpc lA (pC D [b0, b1] g i ar) [(2, .free), (3, .free), (4, .num 1), (9, .free), (10, .free), (11, .num d), (13, .free), (15, .free), (16, .num k), (37, .free), (38, .yes), (61, .free), (62, .yes), (87, .free), (102, .free), (103, .free), (104, .fal), (134, .free), (135, .free)] (pC D [b1] g i (splice ar (0 + k * 1) [.bool false])) [0, 1, 2, 3, 4, 5, 6, 8] = lres .normal (pC D [b1] g i (splice ar (0 + k * 1) [.bool false])) [0, 1, 2, 3, 4, 5, 6, 8] ((Nat.ble (0 + k * 1 + 1) ar.length && true) && (Nat.blt k 60 && ((!(!(true == vBool (atD ar (0 + k * 1))))) && ((Nat.blt (0 + k * 1) ar.length && isBoolV (atD ar (0 + k * 1))) && (Nat.blt k 60 && ((bornLt (ents [b1] 7) g && bornApart (ents [b1] 7) []) && (decide (Int.ofNat k = Int.ofNat (b0 + 1)) && (decide (Int.ofNat k = Int.ofNat (b0 + 1)) && (eqI (((Int.ofNat d).tmod 50).tmod (Int.ofNat (g + 2))) (Int.ofNat k) && (eqI (wrapF .i64 (Int.ofNat (g + 2))) (Int.ofNat (g + 2)) && (eqI (wrapF .i64 ((Int.ofNat d).tmod 50)) ((Int.ofNat d).tmod 50) && (eqI (wrapF .u8 ((vInt (atD D.xs (0 + i * 1))).tdiv 2)) (Int.ofNat d) && ((Nat.blt (0 + i * 1) D.xs.length && isIntV .u8 (atD D.xs (0 + i * 1))) && (Nat.blt i D.len && (eqI ((vInt (atD D.xs (0 + i * 1))).tmod 2) (Int.ofNat 1) && ((Nat.blt (0 + i * 1) D.xs.length && isIntV .u8 (atD D.xs (0 + i * 1))) && (Nat.blt i D.len && true))))))))))))))))) := by kernel_rfl
theorem del2x1 (D : Deeds) (b0 b1 : Nat) (g i d k : Nat) (ar : List Value) : lpc lA (pC D [b0, b1] g i ar) [(2, .free), (3, .free), (4, .num 1), (9, .free), (10, .free), (11, .num d), (13, .free), (15, .free), (16, .num k), (37, .free), (38, .no), (39, .yes), (62, .free), (63, .no), (64, .yes), (89, .free), (104, .free), (105, .free), (106, .fal), (136, .free), (137, .free)] (pC D [b0] g i (splice ar (0 + k * 1) [.bool false])) [0, 1, 2, 3, 4, 5, 6, 7] = lres .normal (pC D [b0] g i (splice ar (0 + k * 1) [.bool false])) [0, 1, 2, 3, 4, 5, 6, 7] ((Nat.ble (0 + k * 1 + 1) ar.length && true) && (Nat.blt k 60 && ((!(!(true == vBool (atD ar (0 + k * 1))))) && ((Nat.blt (0 + k * 1) ar.length && isBoolV (atD ar (0 + k * 1))) && (Nat.blt k 60 && ((bornLt (ents [b0] 7) g && bornApart (ents [b0] 7) []) && (decide (Int.ofNat k = Int.ofNat (b1 + 1)) && (!decide (Int.ofNat k = Int.ofNat (b0 + 1)) && (decide (Int.ofNat k = Int.ofNat (b1 + 1)) && (!decide (Int.ofNat k = Int.ofNat (b0 + 1)) && (eqI (((Int.ofNat d).tmod 50).tmod (Int.ofNat (g + 2))) (Int.ofNat k) && (eqI (wrapF .i64 (Int.ofNat (g + 2))) (Int.ofNat (g + 2)) && (eqI (wrapF .i64 ((Int.ofNat d).tmod 50)) ((Int.ofNat d).tmod 50) && (eqI (wrapF .u8 ((vInt (atD D.xs (0 + i * 1))).tdiv 2)) (Int.ofNat d) && ((Nat.blt (0 + i * 1) D.xs.length && isIntV .u8 (atD D.xs (0 + i * 1))) && (Nat.blt i D.len && (eqI ((vInt (atD D.xs (0 + i * 1))).tmod 2) (Int.ofNat 1) && ((Nat.blt (0 + i * 1) D.xs.length && isIntV .u8 (atD D.xs (0 + i * 1))) && (Nat.blt i D.len && true))))))))))))))))))) := by kernel_rfl
theorem del2x2 (D : Deeds) (b0 b1 : Nat) (g i d k : Nat) (ar : List Value) : lpc lA (pC D [b0, b1] g i ar) [(2, .free), (3, .free), (4, .num 1), (9, .free), (10, .free), (11, .num d), (13, .free), (15, .free), (16, .num k), (37, .free), (38, .no), (39, .no), (69, .free), (70, .free), (71, .fal)] (pC D [b0, b1] g i ar) [0, 1, 2, 3, 4, 5, 6, 7, 8] = lres .normal (pC D [b0, b1] g i ar) [0, 1, 2, 3, 4, 5, 6, 7, 8] ((!(!(false == vBool (atD ar (0 + k * 1))))) && ((Nat.blt (0 + k * 1) ar.length && isBoolV (atD ar (0 + k * 1))) && (Nat.blt k 60 && (!decide (Int.ofNat k = Int.ofNat (b1 + 1)) && (!decide (Int.ofNat k = Int.ofNat (b0 + 1)) && (eqI (((Int.ofNat d).tmod 50).tmod (Int.ofNat (g + 2))) (Int.ofNat k) && (eqI (wrapF .i64 (Int.ofNat (g + 2))) (Int.ofNat (g + 2)) && (eqI (wrapF .i64 ((Int.ofNat d).tmod 50)) ((Int.ofNat d).tmod 50) && (eqI (wrapF .u8 ((vInt (atD D.xs (0 + i * 1))).tdiv 2)) (Int.ofNat d) && ((Nat.blt (0 + i * 1) D.xs.length && isIntV .u8 (atD D.xs (0 + i * 1))) && (Nat.blt i D.len && (eqI ((vInt (atD D.xs (0 + i * 1))).tmod 2) (Int.ofNat 1) && ((Nat.blt (0 + i * 1) D.xs.length && isIntV .u8 (atD D.xs (0 + i * 1))) && (Nat.blt i D.len && true)))))))))))))) := by kernel_rfl
theorem add3 (D : Deeds) (b0 b1 b2 : Nat) (g i : Nat) (ar : List Value) : lpc lA (pC D [b0, b1, b2] g i ar) [(2, .free), (3, .free), (4, .num 0), (61, .free), (74, .free), (75, .no), (76, .no), (77, .no), (93, .free), (100, .fal), (104, .free), (105, .free)] (pC D [b0, b1, b2, g] (g + 1) i (splice ar (0 + (g + 1) * 1) [.bool true])) [0, 1, 2, 3, 4, 5, 6, 7, 8, 9, 12] = lres .normal (pC D [b0, b1, b2, g] (g + 1) i (splice ar (0 + (g + 1) * 1) [.bool true])) [0, 1, 2, 3, 4, 5, 6, 7, 8, 9, 12] ((Nat.ble (0 + (g + 1) * 1 + 1) ar.length && true) && (Nat.blt (g + 1) 60 && (!(!(eqI (Int.ofNat (g + 1)) (Int.ofNat (g + 1)))) && (eqI (wrapF .i64 (Int.ofNat (g + 1))) (Int.ofNat (g + 1)) && (!decide (Int.ofNat (g + 1) = Int.ofNat (b2 + 1)) && (!decide (Int.ofNat (g + 1) = Int.ofNat (b1 + 1)) && (!decide (Int.ofNat (g + 1) = Int.ofNat (b0 + 1)) && (eqI (wrapF .i64 (Int.ofNat (g + 1))) (Int.ofNat (g + 1)) && (eqI ((vInt (atD D.xs (0 + i * 1))).tmod 2) (Int.ofNat 0) && ((Nat.blt (0 + i * 1) D.xs.length && isIntV .u8 (atD D.xs (0 + i * 1))) && (Nat.blt i D.len && true))))))))))) := by kernel_rfl
theorem del3x0 (D : Deeds) (b0 b1 b2 : Nat) (g i d k : Nat) (ar : List Value) : lpc lA (pC D [b0, b1, b2] g i ar) [(2, .free), (3, .free), (4, .num 1), (9, .free), (10, .free), (11, .num d), (13, .free), (15, .free), (16, .num k), (37, .free), (38, .yes), (61, .free), (62, .yes), (87, .free), (102, .free), (103, .free), (104, .fal), (134, .free), (135, .free)] (pC D [b1, b2] g i (splice ar (0 + k * 1) [.bool false])) [0, 1, 2, 3, 4, 5, 6, 8, 9] = lres .normal (pC D [b1, b2] g i (splice ar (0 + k * 1) [.bool false])) [0, 1, 2, 3, 4, 5, 6, 8, 9] ((Nat.ble (0 + k * 1 + 1) ar.length && true) && (Nat.blt k 60 && ((!(!(true == vBool (atD ar (0 + k * 1))))) && ((Nat.blt (0 + k * 1) ar.length && isBoolV (atD ar (0 + k * 1))) && (Nat.blt k 60 && ((bornLt (ents [b1, b2] 7) g && bornApart (ents [b1, b2] 7) []) && (decide (Int.ofNat k = Int.ofNat (b0 + 1)) && (decide (Int.ofNat k = Int.ofNat (b0 + 1)) && (eqI (((Int.ofNat d).tmod 50).tmod (Int.ofNat (g + 2))) (Int.ofNat k) && (eqI (wrapF .i64 (Int.ofNat (g + 2))) (Int.ofNat (g + 2)) && (eqI (wrapF .i64 ((Int.ofNat d).tmod 50)) ((Int.ofNat d).tmod 50) && (eqI (wrapF .u8 ((vInt (atD D.xs (0 + i * 1))).tdiv 2)) (Int.ofNat d) && ((Nat.blt (0 + i * 1) D.xs.length && isIntV .u8 (atD D.xs (0 + i * 1))) && (Nat.blt i D.len && (eqI ((vInt (atD D.xs (0 + i * 1))).tmod 2) (Int.ofNat 1) && ((Nat.blt (0 + i * 1) D.xs.length && isIntV .u8 (atD D.xs (0 + i * 1))) && (Nat.blt i D.len && true))))))))))))))))) := by kernel_rfl
theorem del3x1 (D : Deeds) (b0 b1 b2 : Nat) (g i d k : Nat) (ar : List Value) : lpc lA (pC D [b0, b1, b2] g i ar) [(2, .free), (3, .free), (4, .num 1), (9, .free), (10, .free), (11, .num d), (13, .free), (15, .free), (16, .num k), (37, .free), (38, .no), (39, .yes), (62, .free), (63, .no), (64, .yes), (89, .free), (104, .free), (105, .free), (106, .fal), (136, .free), (137, .free)] (pC D [b0, b2] g i (splice ar (0 + k * 1) [.bool false])) [0, 1, 2, 3, 4, 5, 6, 7, 9] = lres .normal (pC D [b0, b2] g i (splice ar (0 + k * 1) [.bool false])) [0, 1, 2, 3, 4, 5, 6, 7, 9] ((Nat.ble (0 + k * 1 + 1) ar.length && true) && (Nat.blt k 60 && ((!(!(true == vBool (atD ar (0 + k * 1))))) && ((Nat.blt (0 + k * 1) ar.length && isBoolV (atD ar (0 + k * 1))) && (Nat.blt k 60 && ((bornLt (ents [b0, b2] 7) g && bornApart (ents [b0, b2] 7) []) && (decide (Int.ofNat k = Int.ofNat (b1 + 1)) && (!decide (Int.ofNat k = Int.ofNat (b0 + 1)) && (decide (Int.ofNat k = Int.ofNat (b1 + 1)) && (!decide (Int.ofNat k = Int.ofNat (b0 + 1)) && (eqI (((Int.ofNat d).tmod 50).tmod (Int.ofNat (g + 2))) (Int.ofNat k) && (eqI (wrapF .i64 (Int.ofNat (g + 2))) (Int.ofNat (g + 2)) && (eqI (wrapF .i64 ((Int.ofNat d).tmod 50)) ((Int.ofNat d).tmod 50) && (eqI (wrapF .u8 ((vInt (atD D.xs (0 + i * 1))).tdiv 2)) (Int.ofNat d) && ((Nat.blt (0 + i * 1) D.xs.length && isIntV .u8 (atD D.xs (0 + i * 1))) && (Nat.blt i D.len && (eqI ((vInt (atD D.xs (0 + i * 1))).tmod 2) (Int.ofNat 1) && ((Nat.blt (0 + i * 1) D.xs.length && isIntV .u8 (atD D.xs (0 + i * 1))) && (Nat.blt i D.len && true))))))))))))))))))) := by kernel_rfl
theorem del3x2 (D : Deeds) (b0 b1 b2 : Nat) (g i d k : Nat) (ar : List Value) : lpc lA (pC D [b0, b1, b2] g i ar) [(2, .free), (3, .free), (4, .num 1), (9, .free), (10, .free), (11, .num d), (13, .free), (15, .free), (16, .num k), (37, .free), (38, .no), (39, .no), (40, .yes), (63, .free), (64, .no), (65, .no), (66, .yes), (91, .free), (106, .free), (107, .free), (108, .fal), (138, .free), (139, .free)] (pC D [b0, b1] g i (splice ar (0 + k * 1) [.bool false])) [0, 1, 2, 3, 4, 5, 6, 7, 8] = lres .normal (pC D [b0, b1] g i (splice ar (0 + k * 1) [.bool false])) [0, 1, 2, 3, 4, 5, 6, 7, 8] ((Nat.ble (0 + k * 1 + 1) ar.length && true) && (Nat.blt k 60 && ((!(!(true == vBool (atD ar (0 + k * 1))))) && ((Nat.blt (0 + k * 1) ar.length && isBoolV (atD ar (0 + k * 1))) && (Nat.blt k 60 && ((bornLt (ents [b0, b1] 7) g && bornApart (ents [b0, b1] 7) []) && (decide (Int.ofNat k = Int.ofNat (b2 + 1)) && (!decide (Int.ofNat k = Int.ofNat (b1 + 1)) && (!decide (Int.ofNat k = Int.ofNat (b0 + 1)) && (decide (Int.ofNat k = Int.ofNat (b2 + 1)) && (!decide (Int.ofNat k = Int.ofNat (b1 + 1)) && (!decide (Int.ofNat k = Int.ofNat (b0 + 1)) && (eqI (((Int.ofNat d).tmod 50).tmod (Int.ofNat (g + 2))) (Int.ofNat k) && (eqI (wrapF .i64 (Int.ofNat (g + 2))) (Int.ofNat (g + 2)) && (eqI (wrapF .i64 ((Int.ofNat d).tmod 50)) ((Int.ofNat d).tmod 50) && (eqI (wrapF .u8 ((vInt (atD D.xs (0 + i * 1))).tdiv 2)) (Int.ofNat d) && ((Nat.blt (0 + i * 1) D.xs.length && isIntV .u8 (atD D.xs (0 + i * 1))) && (Nat.blt i D.len && (eqI ((vInt (atD D.xs (0 + i * 1))).tmod 2) (Int.ofNat 1) && ((Nat.blt (0 + i * 1) D.xs.length && isIntV .u8 (atD D.xs (0 + i * 1))) && (Nat.blt i D.len && true))))))))))))))))))))) := by kernel_rfl
theorem del3x3 (D : Deeds) (b0 b1 b2 : Nat) (g i d k : Nat) (ar : List Value) : lpc lA (pC D [b0, b1, b2] g i ar) [(2, .free), (3, .free), (4, .num 1), (9, .free), (10, .free), (11, .num d), (13, .free), (15, .free), (16, .num k), (37, .free), (38, .no), (39, .no), (40, .no), (70, .free), (71, .free), (72, .fal)] (pC D [b0, b1, b2] g i ar) [0, 1, 2, 3, 4, 5, 6, 7, 8, 9] = lres .normal (pC D [b0, b1, b2] g i ar) [0, 1, 2, 3, 4, 5, 6, 7, 8, 9] ((!(!(false == vBool (atD ar (0 + k * 1))))) && ((Nat.blt (0 + k * 1) ar.length && isBoolV (atD ar (0 + k * 1))) && (Nat.blt k 60 && (!decide (Int.ofNat k = Int.ofNat (b2 + 1)) && (!decide (Int.ofNat k = Int.ofNat (b1 + 1)) && (!decide (Int.ofNat k = Int.ofNat (b0 + 1)) && (eqI (((Int.ofNat d).tmod 50).tmod (Int.ofNat (g + 2))) (Int.ofNat k) && (eqI (wrapF .i64 (Int.ofNat (g + 2))) (Int.ofNat (g + 2)) && (eqI (wrapF .i64 ((Int.ofNat d).tmod 50)) ((Int.ofNat d).tmod 50) && (eqI (wrapF .u8 ((vInt (atD D.xs (0 + i * 1))).tdiv 2)) (Int.ofNat d) && ((Nat.blt (0 + i * 1) D.xs.length && isIntV .u8 (atD D.xs (0 + i * 1))) && (Nat.blt i D.len && (eqI ((vInt (atD D.xs (0 + i * 1))).tmod 2) (Int.ofNat 1) && ((Nat.blt (0 + i * 1) D.xs.length && isIntV .u8 (atD D.xs (0 + i * 1))) && (Nat.blt i D.len && true))))))))))))))) := by kernel_rfl
theorem many (D : Deeds) (b0 b1 b2 b3 : Nat) (g i : Nat) (ar : List Value) : lpc lA (pC D [b0, b1, b2, b3] g i ar) [(2, .free), (3, .free), (4, .num 0)] (pC D [b0, b1, b2, b3] g i ar) [0, 1, 2, 3, 4, 5, 6, 7, 8, 9, 10] = lres .normal (pC D [b0, b1, b2, b3] g i ar) [0, 1, 2, 3, 4, 5, 6, 7, 8, 9, 10] (eqI ((vInt (atD D.xs (0 + i * 1))).tmod 2) (Int.ofNat 0) && ((Nat.blt (0 + i * 1) D.xs.length && isIntV .u8 (atD D.xs (0 + i * 1))) && (Nat.blt i D.len && true))) := by kernel_rfl
theorem del4x0 (D : Deeds) (b0 b1 b2 b3 : Nat) (g i d k : Nat) (ar : List Value) : lpc lA (pC D [b0, b1, b2, b3] g i ar) [(2, .free), (3, .free), (4, .num 1), (9, .free), (10, .free), (11, .num d), (13, .free), (15, .free), (16, .num k), (37, .free), (38, .yes), (61, .free), (62, .yes), (87, .free), (102, .free), (103, .free), (104, .fal), (134, .free), (135, .free)] (pC D [b1, b2, b3] g i (splice ar (0 + k * 1) [.bool false])) [0, 1, 2, 3, 4, 5, 6, 8, 9, 10] = lres .normal (pC D [b1, b2, b3] g i (splice ar (0 + k * 1) [.bool false])) [0, 1, 2, 3, 4, 5, 6, 8, 9, 10] ((Nat.ble (0 + k * 1 + 1) ar.length && true) && (Nat.blt k 60 && ((!(!(true == vBool (atD ar (0 + k * 1))))) && ((Nat.blt (0 + k * 1) ar.length && isBoolV (atD ar (0 + k * 1))) && (Nat.blt k 60 && ((bornLt (ents [b1, b2, b3] 7) g && bornApart (ents [b1, b2, b3] 7) []) && (decide (Int.ofNat k = Int.ofNat (b0 + 1)) && (decide (Int.ofNat k = Int.ofNat (b0 + 1)) && (eqI (((Int.ofNat d).tmod 50).tmod (Int.ofNat (g + 2))) (Int.ofNat k) && (eqI (wrapF .i64 (Int.ofNat (g + 2))) (Int.ofNat (g + 2)) && (eqI (wrapF .i64 ((Int.ofNat d).tmod 50)) ((Int.ofNat d).tmod 50) && (eqI (wrapF .u8 ((vInt (atD D.xs (0 + i * 1))).tdiv 2)) (Int.ofNat d) && ((Nat.blt (0 + i * 1) D.xs.length && isIntV .u8 (atD D.xs (0 + i * 1))) && (Nat.blt i D.len && (eqI ((vInt (atD D.xs (0 + i * 1))).tmod 2) (Int.ofNat 1) && ((Nat.blt (0 + i * 1) D.xs.length && isIntV .u8 (atD D.xs (0 + i * 1))) && (Nat.blt i D.len && true))))))))))))))))) := by kernel_rfl
theorem del4x1 (D : Deeds) (b0 b1 b2 b3 : Nat) (g i d k : Nat) (ar : List Value) : lpc lA (pC D [b0, b1, b2, b3] g i ar) [(2, .free), (3, .free), (4, .num 1), (9, .free), (10, .free), (11, .num d), (13, .free), (15, .free), (16, .num k), (37, .free), (38, .no), (39, .yes), (62, .free), (63, .no), (64, .yes), (89, .free), (104, .free), (105, .free), (106, .fal), (136, .free), (137, .free)] (pC D [b0, b2, b3] g i (splice ar (0 + k * 1) [.bool false])) [0, 1, 2, 3, 4, 5, 6, 7, 9, 10] = lres .normal (pC D [b0, b2, b3] g i (splice ar (0 + k * 1) [.bool false])) [0, 1, 2, 3, 4, 5, 6, 7, 9, 10] ((Nat.ble (0 + k * 1 + 1) ar.length && true) && (Nat.blt k 60 && ((!(!(true == vBool (atD ar (0 + k * 1))))) && ((Nat.blt (0 + k * 1) ar.length && isBoolV (atD ar (0 + k * 1))) && (Nat.blt k 60 && ((bornLt (ents [b0, b2, b3] 7) g && bornApart (ents [b0, b2, b3] 7) []) && (decide (Int.ofNat k = Int.ofNat (b1 + 1)) && (!decide (Int.ofNat k = Int.ofNat (b0 + 1)) && (decide (Int.ofNat k = Int.ofNat (b1 + 1)) && (!decide (Int.ofNat k = Int.ofNat (b0 + 1)) && (eqI (((Int.ofNat d).tmod 50).tmod (Int.ofNat (g + 2))) (Int.ofNat k) && (eqI (wrapF .i64 (Int.ofNat (g + 2))) (Int.ofNat (g + 2)) && (eqI (wrapF .i64 ((Int.ofNat d).tmod 50)) ((Int.ofNat d).tmod 50) && (eqI (wrapF .u8 ((vInt (atD D.xs (0 + i * 1))).tdiv 2)) (Int.ofNat d) && ((Nat.blt (0 + i * 1) D.xs.length && isIntV .u8 (atD D.xs (0 + i * 1))) && (Nat.blt i D.len && (eqI ((vInt (atD D.xs (0 + i * 1))).tmod 2) (Int.ofNat 1) && ((Nat.blt (0 + i * 1) D.xs.length && isIntV .u8 (atD D.xs (0 + i * 1))) && (Nat.blt i D.len && true))))))))))))))))))) := by kernel_rfl
theorem del4x2 (D : Deeds) (b0 b1 b2 b3 : Nat) (g i d k : Nat) (ar : List Value) : lpc lA (pC D [b0, b1, b2, b3] g i ar) [(2, .free), (3, .free), (4, .num 1), (9, .free), (10, .free), (11, .num d), (13, .free), (15, .free), (16, .num k), (37, .free), (38, .no), (39, .no), (40, .yes), (63, .free), (64, .no), (65, .no), (66, .yes), (91, .free), (106, .free), (107, .free), (108, .fal), (138, .free), (139, .free)] (pC D [b0, b1, b3] g i (splice ar (0 + k * 1) [.bool false])) [0, 1, 2, 3, 4, 5, 6, 7, 8, 10] = lres .normal (pC D [b0, b1, b3] g i (splice ar (0 + k * 1) [.bool false])) [0, 1, 2, 3, 4, 5, 6, 7, 8, 10] ((Nat.ble (0 + k * 1 + 1) ar.length && true) && (Nat.blt k 60 && ((!(!(true == vBool (atD ar (0 + k * 1))))) && ((Nat.blt (0 + k * 1) ar.length && isBoolV (atD ar (0 + k * 1))) && (Nat.blt k 60 && ((bornLt (ents [b0, b1, b3] 7) g && bornApart (ents [b0, b1, b3] 7) []) && (decide (Int.ofNat k = Int.ofNat (b2 + 1)) && (!decide (Int.ofNat k = Int.ofNat (b1 + 1)) && (!decide (Int.ofNat k = Int.ofNat (b0 + 1)) && (decide (Int.ofNat k = Int.ofNat (b2 + 1)) && (!decide (Int.ofNat k = Int.ofNat (b1 + 1)) && (!decide (Int.ofNat k = Int.ofNat (b0 + 1)) && (eqI (((Int.ofNat d).tmod 50).tmod (Int.ofNat (g + 2))) (Int.ofNat k) && (eqI (wrapF .i64 (Int.ofNat (g + 2))) (Int.ofNat (g + 2)) && (eqI (wrapF .i64 ((Int.ofNat d).tmod 50)) ((Int.ofNat d).tmod 50) && (eqI (wrapF .u8 ((vInt (atD D.xs (0 + i * 1))).tdiv 2)) (Int.ofNat d) && ((Nat.blt (0 + i * 1) D.xs.length && isIntV .u8 (atD D.xs (0 + i * 1))) && (Nat.blt i D.len && (eqI ((vInt (atD D.xs (0 + i * 1))).tmod 2) (Int.ofNat 1) && ((Nat.blt (0 + i * 1) D.xs.length && isIntV .u8 (atD D.xs (0 + i * 1))) && (Nat.blt i D.len && true))))))))))))))))))))) := by kernel_rfl
theorem del4x3 (D : Deeds) (b0 b1 b2 b3 : Nat) (g i d k : Nat) (ar : List Value) : lpc lA (pC D [b0, b1, b2, b3] g i ar) [(2, .free), (3, .free), (4, .num 1), (9, .free), (10, .free), (11, .num d), (13, .free), (15, .free), (16, .num k), (37, .free), (38, .no), (39, .no), (40, .no), (41, .yes), (64, .free), (65, .no), (66, .no), (67, .no), (68, .yes), (93, .free), (108, .free), (109, .free), (110, .fal), (140, .free), (141, .free)] (pC D [b0, b1, b2] g i (splice ar (0 + k * 1) [.bool false])) [0, 1, 2, 3, 4, 5, 6, 7, 8, 9] = lres .normal (pC D [b0, b1, b2] g i (splice ar (0 + k * 1) [.bool false])) [0, 1, 2, 3, 4, 5, 6, 7, 8, 9] ((Nat.ble (0 + k * 1 + 1) ar.length && true) && (Nat.blt k 60 && ((!(!(true == vBool (atD ar (0 + k * 1))))) && ((Nat.blt (0 + k * 1) ar.length && isBoolV (atD ar (0 + k * 1))) && (Nat.blt k 60 && ((bornLt (ents [b0, b1, b2] 7) g && bornApart (ents [b0, b1, b2] 7) []) && (decide (Int.ofNat k = Int.ofNat (b3 + 1)) && (!decide (Int.ofNat k = Int.ofNat (b2 + 1)) && (!decide (Int.ofNat k = Int.ofNat (b1 + 1)) && (!decide (Int.ofNat k = Int.ofNat (b0 + 1)) && (decide (Int.ofNat k = Int.ofNat (b3 + 1)) && (!decide (Int.ofNat k = Int.ofNat (b2 + 1)) && (!decide (Int.ofNat k = Int.ofNat (b1 + 1)) && (!decide (Int.ofNat k = Int.ofNat (b0 + 1)) && (eqI (((Int.ofNat d).tmod 50).tmod (Int.ofNat (g + 2))) (Int.ofNat k) && (eqI (wrapF .i64 (Int.ofNat (g + 2))) (Int.ofNat (g + 2)) && (eqI (wrapF .i64 ((Int.ofNat d).tmod 50)) ((Int.ofNat d).tmod 50) && (eqI (wrapF .u8 ((vInt (atD D.xs (0 + i * 1))).tdiv 2)) (Int.ofNat d) && ((Nat.blt (0 + i * 1) D.xs.length && isIntV .u8 (atD D.xs (0 + i * 1))) && (Nat.blt i D.len && (eqI ((vInt (atD D.xs (0 + i * 1))).tmod 2) (Int.ofNat 1) && ((Nat.blt (0 + i * 1) D.xs.length && isIntV .u8 (atD D.xs (0 + i * 1))) && (Nat.blt i D.len && true))))))))))))))))))))))) := by kernel_rfl
theorem del4x4 (D : Deeds) (b0 b1 b2 b3 : Nat) (g i d k : Nat) (ar : List Value) : lpc lA (pC D [b0, b1, b2, b3] g i ar) [(2, .free), (3, .free), (4, .num 1), (9, .free), (10, .free), (11, .num d), (13, .free), (15, .free), (16, .num k), (37, .free), (38, .no), (39, .no), (40, .no), (41, .no), (71, .free), (72, .free), (73, .fal)] (pC D [b0, b1, b2, b3] g i ar) [0, 1, 2, 3, 4, 5, 6, 7, 8, 9, 10] = lres .normal (pC D [b0, b1, b2, b3] g i ar) [0, 1, 2, 3, 4, 5, 6, 7, 8, 9, 10] ((!(!(false == vBool (atD ar (0 + k * 1))))) && ((Nat.blt (0 + k * 1) ar.length && isBoolV (atD ar (0 + k * 1))) && (Nat.blt k 60 && (!decide (Int.ofNat k = Int.ofNat (b3 + 1)) && (!decide (Int.ofNat k = Int.ofNat (b2 + 1)) && (!decide (Int.ofNat k = Int.ofNat (b1 + 1)) && (!decide (Int.ofNat k = Int.ofNat (b0 + 1)) && (eqI (((Int.ofNat d).tmod 50).tmod (Int.ofNat (g + 2))) (Int.ofNat k) && (eqI (wrapF .i64 (Int.ofNat (g + 2))) (Int.ofNat (g + 2)) && (eqI (wrapF .i64 ((Int.ofNat d).tmod 50)) ((Int.ofNat d).tmod 50) && (eqI (wrapF .u8 ((vInt (atD D.xs (0 + i * 1))).tdiv 2)) (Int.ofNat d) && ((Nat.blt (0 + i * 1) D.xs.length && isIntV .u8 (atD D.xs (0 + i * 1))) && (Nat.blt i D.len && (eqI ((vInt (atD D.xs (0 + i * 1))).tmod 2) (Int.ofNat 1) && ((Nat.blt (0 + i * 1) D.xs.length && isIntV .u8 (atD D.xs (0 + i * 1))) && (Nat.blt i D.len && true)))))))))))))))) := by kernel_rfl
end Go.Proofs.YtmmplhfimnhcpaaGreatDoor

namespace Go.Proofs.YtmmplhfimnhcpaaGreatDoor
set_option linter.all false
open Go Go.Ideal
set_option maxRecDepth 100000
theorem end0 (D : Deeds) (g i : Nat) (ar : List Value) : lpc lEnd (pC D [] g i ar) [] (pE) [] = lres .ret (pE) [] true := by kernel_rfl
theorem end1 (D : Deeds) (b0 : Nat) (g i : Nat) (ar : List Value) : lpc lEnd (pC D [b0] g i ar) [] (pE) [] = lres .ret (pE) [] true := by kernel_rfl
theorem end2 (D : Deeds) (b0 b1 : Nat) (g i : Nat) (ar : List Value) : lpc lEnd (pC D [b0, b1] g i ar) [] (pE) [] = lres .ret (pE) [] true := by kernel_rfl
theorem end3 (D : Deeds) (b0 b1 b2 : Nat) (g i : Nat) (ar : List Value) : lpc lEnd (pC D [b0, b1, b2] g i ar) [] (pE) [] = lres .ret (pE) [] true := by kernel_rfl
theorem end4 (D : Deeds) (b0 b1 b2 b3 : Nat) (g i : Nat) (ar : List Value) : lpc lEnd (pC D [b0, b1, b2, b3] g i ar) [] (pE) [] = lres .ret (pE) [] true := by kernel_rfl
theorem r3t (D : Deeds) : lpc lp3 (p0 D) [(2, .tru)] (pE) [] = lres .ret (pE) [] (Nat.blt 40 D.len && true) := by kernel_rfl
end Go.Proofs.YtmmplhfimnhcpaaGreatDoor

namespace Go.Proofs.YtmmplhfimnhcpaaGreatDoor
set_option linter.all false
set_option linter.unusedSimpArgs false
set_option linter.unusedVariables false
open Go Go.Ideal
set_option maxRecDepth 100000
set_option maxHeartbeats 2000000

theorem renL_id {ρ : Nat → Nat} : ∀ {l : List Value}, l.all simple = true → renL ρ l = l
  | [], _ => rfl
  | v :: r, h => by
    simp only [List.all_cons, Bool.and_eq_true] at h
    unfold renL
    rw [renL_id h.2]
    congr 1
    have h1 := h.1
    unfold simple at h1
    split at h1 <;> first | rfl | cases h1

theorem views_key : ∀ (bs : List Nat) (v : Nat) (e : Nat × Blk), e ∈ views bs v → v ≤ e.1
  | [], _, _, h => by cases h
  | _ :: r, v, e, h => by
    unfold views at h
    rcases List.mem_cons.1 h with rfl | h
    · exact Nat.le_refl _
    · exact Nat.le_trans (Nat.le_succ _) (views_key r (v + 1) e h)

structure DOK (D : Deeds) : Prop where
  xs : ∀ v ∈ D.xs, ∃ n : Nat, n ≤ 255 ∧ v = .int .u8 (.ofNat n)
  len : D.len ≤ D.xs.length
  few : D.len ≤ 40
theorem DOK.simple {D : Deeds} (h : DOK D) : D.xs.all simple = true := by
  rw [List.all_eq_true]
  intro v hv
  obtain ⟨n, _, rfl⟩ := h.xs v hv
  rfl

structure St (bs : List Nat) (g : Nat) (ar : List Value) : Prop where
  len : bs.length ≤ 4
  nd : bs.Nodup
  lt : ∀ b ∈ bs, b < g
  gl : g ≤ 40
  al : ar.length = 60
  cell : ∀ k, k < 60 → ar[k]? = some (.bool (decide (k ∈ bs.map (· + 1))))
theorem St.simple {bs : List Nat} {g : Nat} {ar : List Value} (h : St bs g ar) : ar.all simple = true := by
  rw [List.all_eq_true]
  intro v hv
  obtain ⟨k, hk⟩ := List.mem_iff_getElem?.1 hv
  have := (List.getElem?_eq_some_iff.1 hk).1
  rw [h.cell k (by have := h.al; omega)] at hk
  cases hk; rfl
theorem St.atD {bs : List Nat} {g : Nat} {ar : List Value} (h : St bs g ar) {k : Nat} (hk : k < 60) : Ideal.atD ar (0 + k * 1) = .bool (decide (k ∈ bs.map (· + 1))) := by
  unfold Ideal.atD
  rw [nth_eq, show 0 + k * 1 = k by omega, h.cell k hk]
theorem St.is {bs : List Nat} {g : Nat} {ar : List Value} (h : St bs g ar) {k : Nat} (hk : k < 60) : (Nat.blt (0 + k * 1) ar.length && isBoolV (Ideal.atD ar (0 + k * 1))) = true := by
  rw [h.atD hk, h.al, Bool.and_eq_true]
  exact ⟨blt_iff.2 (by omega), rfl⟩
theorem St.put {bs : List Nat} {g : Nat} {ar : List Value} (h : St bs g ar) {k : Nat} (hk : k < 60) : (Nat.ble (0 + k * 1 + 1) ar.length && true) = true := by
  rw [h.al, Bool.and_true]; exact ble_iff.2 (by omega)
theorem St.set {bs bs' : List Nat} {g g' : Nat} {ar : List Value} (h : St bs g ar) {k : Nat} (hk : k < 60) {b : Bool} (h1 : bs'.length ≤ 4) (h2 : bs'.Nodup) (h3 : ∀ b ∈ bs', b < g') (h4 : g' ≤ 40)
    (h5 : ∀ x, x ∈ bs'.map (· + 1) ↔ (if x = k then b = true else x ∈ bs.map (· + 1))) : St bs' g' (splice ar (0 + k * 1) [.bool b]) := by
  have e : 0 + k * 1 = k := by omega
  have hl := h.al
  rw [e]
  refine ⟨h1, h2, h3, h4, by rw [splice_length _ _ _ (by simp; omega), hl], fun x hx => ?_⟩
  rw [splice_get _ _ _ (by simp; omega)]
  by_cases hxk : x = k
  · subst hxk
    rw [if_pos ⟨Nat.le_refl _, by simp⟩, Nat.sub_self]
    have := h5 x
    rw [if_pos rfl] at this
    cases b <;> simp_all
  · rw [if_neg (by simp; omega), h.cell x hx]
    have := h5 x
    rw [if_neg hxk] at this
    simp only [this]

theorem stepL {c : Code} {p q : Pt} {L : List Nat} {sc : List (Nat × Turn)} {x : Ex} {ob : Bool} (h : lpc c p sc q L = lres x q L ob) (hob : ob = true)
    (hq : (keysOK q.nx q.lb && apart (rho L) q.lb && Nat.beq L.length q.nx) = true) (hr : ∀ e ∈ q.lb, (Nat.beq e.1 0 || Nat.beq e.1 6) = true → renB (rho L) e.2 = e.2)
    {N0 : Nat} {w0 w : World} {a : Act} (hF : Fam N0 237 p w0 a w) : c.wp Tryz.prog (fun ex a' w' => ExR ex x ∧ Fam N0 237 q w0 a' w') a w := by
  refine Fam.step laGood laX_ok (d := 100) (k := 1000000) (L := L) (sc := sc) (x := x) (ob := ob) ?_ hob hq hF
  have e : q.lb.map (fun e => some (renB (rho L) e.2)) = q.lb.map (fun e => some (cond (Nat.beq e.1 0 || Nat.beq e.1 6) e.2 (renB (rho L) e.2))) := by
    refine List.map_congr_left fun e he => ?_
    cases hb : Nat.beq e.1 0 || Nat.beq e.1 6 with
    | true => rw [hr e he hb]; rfl
    | false => rfl
  rw [e]
  exact h

theorem keepC {D : Deeds} {bs : List Nat} {g : Nat} {ar : List Value} (hD : D.xs.all simple = true) (ha : ar.all simple = true) (ρ : Nat → Nat) :
    ∀ e ∈ b0 D :: b2 :: b3 :: b4 bs g :: b5 g :: b6 ar :: views bs 7, (Nat.beq e.1 0 || Nat.beq e.1 6) = true → renB ρ e.2 = e.2 := by
  intro e he ht
  simp only [List.mem_cons] at he
  rcases he with rfl | rfl | rfl | rfl | rfl | rfl | he
  · show Blk.cells (renL ρ D.xs) D.e .ro = _
    rw [renL_id hD]; rfl
  · cases ht
  · cases ht
  · cases ht
  · cases ht
  · show Blk.cells (renL ρ ar) 65 .var = _
    rw [renL_id ha]; rfl
  · have := views_key bs 7 e he
    have h0 : Nat.beq e.1 0 = false := by
      cases h : Nat.beq e.1 0 with
      | true => have := Nat.eq_of_beq_eq_true h; omega
      | false => rfl
    have h6 : Nat.beq e.1 6 = false := by
      cases h : Nat.beq e.1 6 with
      | true => have := Nat.eq_of_beq_eq_true h; omega
      | false => rfl
    rw [h0, h6] at ht; cases ht

/-! the obligations -/
theorem an {a b : Bool} (h : a = true) (k : b = true) : (a && b) = true := by rw [h, k]; rfl
theorem nn {a : Bool} (h : a = true) : (!(!a)) = true := by rw [h]; rfl
theorem nt {a : Bool} (h : a = false) : (!a) = true := by rw [h]; rfl
theorem bt {a : Bool} (h : a = true) : (true == a) = true := by rw [h]; rfl
theorem bf {a : Bool} (h : a = false) : (false == a) = true := by rw [h]; rfl
theorem hB {a b : Nat} (h : a < b) : Nat.blt a b = true := blt_iff.2 h
theorem hNB {a b : Nat} (h : ¬ a < b) : Nat.blt a b = false := by
  cases e : Nat.blt a b with
  | true => exact absurd (blt_iff.1 e) h
  | false => rfl
theorem hE {a b : Nat} (h : a ≤ b) : Nat.ble a b = true := ble_iff.2 h
theorem hNE {a b : Nat} (h : ¬ a ≤ b) : Nat.ble a b = false := by
  cases e : Nat.ble a b with
  | true => exact absurd (ble_iff.1 e) h
  | false => rfl
theorem wrapN {n : Nat} (h : n < 9223372036854775808) : eqI (wrapF .i64 (Int.ofNat n)) (Int.ofNat n) = true := by
  have e : wrapF .i64 (Int.ofNat n) = Int.ofNat n := by
    have h1 : (0 : Int) ≤ Int.ofNat n := Int.natCast_nonneg n
    have h2 : Int.ofNat n < 9223372036854775808 := by simp only [Int.ofNat_eq_natCast]; omega
    generalize Int.ofNat n = x at *
    unfold wrapF
    have : x % 18446744073709551616 = x := Int.emod_eq_of_lt h1 (by omega)
    simp only [this]
    rw [if_neg (by omega)]
  rw [e]
  exact Nat.beq_refl n
theorem dT {a b : Nat} (h : a = b) : decide (Int.ofNat a = Int.ofNat b) = true := by subst h; simp
theorem dF {a b : Nat} (h : a ≠ b) : decide (Int.ofNat a = Int.ofNat b) = false := by
  rw [decide_eq_false_iff_not]
  intro e
  exact h (Int.ofNat.inj e)
theorem born {bs : List Nat} {g : Nat} (h1 : ∀ b ∈ bs, b < g) (v : Nat) : bornLt (ents bs v) g = true := by
  induction bs generalizing v with
  | nil => rfl
  | cons b r ih =>
    unfold ents bornLt
    exact an (hB (h1 b List.mem_cons_self)) (ih (fun b hb => h1 b (List.mem_cons_of_mem _ hb)) _)
theorem hasN_false : ∀ {l : List Nat} {b : Nat}, b ∉ l → hasN l b = false
  | [], _, _ => rfl
  | a :: r, b, h => by
    unfold hasN
    have h1 : Nat.beq a b = false := by
      cases e : Nat.beq a b with
      | true => exact absurd (Nat.eq_of_beq_eq_true e) (fun e => h (e ▸ List.mem_cons_self))
      | false => rfl
    rw [h1, hasN_false fun hb => h (List.mem_cons_of_mem _ hb)]; rfl
theorem aparts : ∀ {bs : List Nat} (seen : List Nat) (v : Nat), bs.Nodup → (∀ b ∈ bs, b ∉ seen) → bornApart (ents bs v) seen = true
  | [], _, _, _, _ => rfl
  | b :: r, seen, v, h, hs => by
    unfold ents bornApart
    have hn := List.nodup_cons.1 h
    refine an (nt (hasN_false (hs b List.mem_cons_self))) (aparts (b :: seen) _ hn.2 fun x hx => ?_)
    rw [List.mem_cons]
    rintro (rfl | hx')
    · exact hn.1 hx
    · exact hs x (List.mem_cons_of_mem _ hx) hx'
theorem bornX {bs : List Nat} {g : Nat} {ar : List Value} (h : St bs g ar) : (bornLt (ents bs 7) g && bornApart (ents bs 7) []) = true := an (born h.lt 7) (aparts [] 7 h.nd fun _ _ h => by cases h)

end Go.Proofs.YtmmplhfimnhcpaaGreatDoor

namespace Go.Proofs.YtmmplhfimnhcpaaGreatDoor
set_option linter.all false
set_option linter.unusedSimpArgs false
set_option linter.unusedVariables false
open Go Go.Ideal
set_option maxRecDepth 100000
set_option maxHeartbeats 4000000

theorem L_tt {D : Deeds} {bs : List Nat} {g i : Nat} {ar : List Value} (hD : DOK D) (h : St bs g ar) (hi : i < D.len) {N0 : Nat} {w0 w : World} {a : Act} (hF : Fam N0 237 (pC D bs g i ar) w0 a w) :
    lTest.wp Tryz.prog (fun ex a' w' => ExR ex .normal ∧ Fam N0 237 (pC D bs g i ar) w0 a' w') a w := by
  have f1 := hB hi
  have hs := h.simple
  match bs, h with
  | [], h => exact stepL (tt0 D g i ar) (by repeat' (first | assumption | exact rfl | apply an | apply nn | apply nt | apply bt | apply bf)) (by kernel_rfl) (keepC hD.simple hs _) hF
  | [b0], h => exact stepL (tt1 D b0 g i ar) (by repeat' (first | assumption | exact rfl | apply an | apply nn | apply nt | apply bt | apply bf)) (by kernel_rfl) (keepC hD.simple hs _) hF
  | [b0, b1], h => exact stepL (tt2 D b0 b1 g i ar) (by repeat' (first | assumption | exact rfl | apply an | apply nn | apply nt | apply bt | apply bf)) (by kernel_rfl) (keepC hD.simple hs _) hF
  | [b0, b1, b2], h => exact stepL (tt3 D b0 b1 b2 g i ar) (by repeat' (first | assumption | exact rfl | apply an | apply nn | apply nt | apply bt | apply bf)) (by kernel_rfl) (keepC hD.simple hs _) hF
  | [b0, b1, b2, b3], h => exact stepL (tt4 D b0 b1 b2 b3 g i ar) (by repeat' (first | assumption | exact rfl | apply an | apply nn | apply nt | apply bt | apply bf)) (by kernel_rfl) (keepC hD.simple hs _) hF
  | _ :: _ :: _ :: _ :: _ :: _, h => exact absurd h.len (by simp)
theorem L_tf {D : Deeds} {bs : List Nat} {g i : Nat} {ar : List Value} (hD : DOK D) (h : St bs g ar) (hi : ¬ i < D.len) {N0 : Nat} {w0 w : World} {a : Act} (hF : Fam N0 237 (pC D bs g i ar) w0 a w) :
    lTest.wp Tryz.prog (fun ex a' w' => ExR ex (.exit 0) ∧ Fam N0 237 (pC D bs g i ar) w0 a' w') a w := by
  have f1 := hNB hi
  have hs := h.simple
  match bs, h with
  | [], h => exact stepL (tf0 D g i ar) (by repeat' (first | assumption | exact rfl | apply an | apply nn | apply nt | apply bt | apply bf)) (by kernel_rfl) (keepC hD.simple hs _) hF
  | [b0], h => exact stepL (tf1 D b0 g i ar) (by repeat' (first | assumption | exact rfl | apply an | apply nn | apply nt | apply bt | apply bf)) (by kernel_rfl) (keepC hD.simple hs _) hF
  | [b0, b1], h => exact stepL (tf2 D b0 b1 g i ar) (by repeat' (first | assumption | exact rfl | apply an | apply nn | apply nt | apply bt | apply bf)) (by kernel_rfl) (keepC hD.simple hs _) hF
  | [b0, b1, b2], h => exact stepL (tf3 D b0 b1 b2 g i ar) (by repeat' (first | assumption | exact rfl | apply an | apply nn | apply nt | apply bt | apply bf)) (by kernel_rfl) (keepC hD.simple hs _) hF
  | [b0, b1, b2, b3], h => exact stepL (tf4 D b0 b1 b2 b3 g i ar) (by repeat' (first | assumption | exact rfl | apply an | apply nn | apply nt | apply bt | apply bf)) (by kernel_rfl) (keepC hD.simple hs _) hF
  | _ :: _ :: _ :: _ :: _ :: _, h => exact absurd h.len (by simp)
theorem L_bb {D : Deeds} {bs : List Nat} {g i : Nat} {ar : List Value} (hD : DOK D) (h : St bs g ar) {N0 : Nat} {w0 w : World} {a : Act} (hF : Fam N0 237 (pC D bs g i ar) w0 a w) :
    lB.wp Tryz.prog (fun ex a' w' => ExR ex .normal ∧ Fam N0 237 (pC D bs g i ar) w0 a' w') a w := by
  have f1 := bornX h
  have hs := h.simple
  match bs, h with
  | [], h => exact stepL (bb0 D g i ar) (by repeat' (first | assumption | exact rfl | apply an | apply nn | apply nt | apply bt | apply bf)) (by kernel_rfl) (keepC hD.simple hs _) hF
  | [b0], h => exact stepL (bb1 D b0 g i ar) (by repeat' (first | assumption | exact rfl | apply an | apply nn | apply nt | apply bt | apply bf)) (by kernel_rfl) (keepC hD.simple hs _) hF
  | [b0, b1], h => exact stepL (bb2 D b0 b1 g i ar) (by repeat' (first | assumption | exact rfl | apply an | apply nn | apply nt | apply bt | apply bf)) (by kernel_rfl) (keepC hD.simple hs _) hF
  | [b0, b1, b2], h => exact stepL (bb3 D b0 b1 b2 g i ar) (by repeat' (first | assumption | exact rfl | apply an | apply nn | apply nt | apply bt | apply bf)) (by kernel_rfl) (keepC hD.simple hs _) hF
  | [b0, b1, b2, b3], h => exact stepL (bb4 D b0 b1 b2 b3 g i ar) (by repeat' (first | assumption | exact rfl | apply an | apply nn | apply nt | apply bt | apply bf)) (by kernel_rfl) (keepC hD.simple hs _) hF
  | _ :: _ :: _ :: _ :: _ :: _, h => exact absurd h.len (by simp)
theorem L_bi {D : Deeds} {bs : List Nat} {g i : Nat} {ar : List Value} (hD : DOK D) (h : St bs g ar) {N0 : Nat} {w0 w : World} {a : Act} (hF : Fam N0 237 (pC D bs g i ar) w0 a w) :
    lp34.wp Tryz.prog (fun ex a' w' => ExR ex .normal ∧ Fam N0 237 (pI D bs g i ar 0) w0 a' w') a w := by
  have hs := h.simple
  match bs, h with
  | [], h => exact stepL (bi0 D g i ar) (by repeat' (first | assumption | exact rfl | apply an | apply nn | apply nt | apply bt | apply bf)) (by kernel_rfl) (keepC hD.simple hs _) hF
  | [b0], h => exact stepL (bi1 D b0 g i ar) (by repeat' (first | assumption | exact rfl | apply an | apply nn | apply nt | apply bt | apply bf)) (by kernel_rfl) (keepC hD.simple hs _) hF
  | [b0, b1], h => exact stepL (bi2 D b0 b1 g i ar) (by repeat' (first | assumption | exact rfl | apply an | apply nn | apply nt | apply bt | apply bf)) (by kernel_rfl) (keepC hD.simple hs _) hF
  | [b0, b1, b2], h => exact stepL (bi3 D b0 b1 b2 g i ar) (by repeat' (first | assumption | exact rfl | apply an | apply nn | apply nt | apply bt | apply bf)) (by kernel_rfl) (keepC hD.simple hs _) hF
  | [b0, b1, b2, b3], h => exact stepL (bi4 D b0 b1 b2 b3 g i ar) (by repeat' (first | assumption | exact rfl | apply an | apply nn | apply nt | apply bt | apply bf)) (by kernel_rfl) (keepC hD.simple hs _) hF
  | _ :: _ :: _ :: _ :: _ :: _, h => exact absurd h.len (by simp)
theorem L_nx {D : Deeds} {bs : List Nat} {g i : Nat} {ar : List Value} (hD : DOK D) (h : St bs g ar) (hi : i < D.len) {N0 : Nat} {w0 w : World} {a : Act} (hF : Fam N0 237 (pC D bs g i ar) w0 a w) :
    lNext.wp Tryz.prog (fun ex a' w' => ExR ex .normal ∧ Fam N0 237 (pC D bs g (i + 1) ar) w0 a' w') a w := by
  have w_i : eqI (wrapF .i64 (Int.ofNat (i + 1))) (Int.ofNat (i + 1)) = true := wrapN (by have := h.gl; have := hD.few; omega)
  have hs := h.simple
  match bs, h with
  | [], h => exact stepL (nx0 D g i ar) (by repeat' (first | assumption | exact rfl | apply an | apply nn | apply nt | apply bt | apply bf)) (by kernel_rfl) (keepC hD.simple hs _) hF
  | [b0], h => exact stepL (nx1 D b0 g i ar) (by repeat' (first | assumption | exact rfl | apply an | apply nn | apply nt | apply bt | apply bf)) (by kernel_rfl) (keepC hD.simple hs _) hF
  | [b0, b1], h => exact stepL (nx2 D b0 b1 g i ar) (by repeat' (first | assumption | exact rfl | apply an | apply nn | apply nt | apply bt | apply bf)) (by kernel_rfl) (keepC hD.simple hs _) hF
  | [b0, b1, b2], h => exact stepL (nx3 D b0 b1 b2 g i ar) (by repeat' (first | assumption | exact rfl | apply an | apply nn | apply nt | apply bt | apply bf)) (by kernel_rfl) (keepC hD.simple hs _) hF
  | [b0, b1, b2, b3], h => exact stepL (nx4 D b0 b1 b2 b3 g i ar) (by repeat' (first | assumption | exact rfl | apply an | apply nn | apply nt | apply bt | apply bf)) (by kernel_rfl) (keepC hD.simple hs _) hF
  | _ :: _ :: _ :: _ :: _ :: _, h => exact absurd h.len (by simp)
theorem L_it {D : Deeds} {bs : List Nat} {g i j : Nat} {ar : List Value} (hD : DOK D) (h : St bs g ar) (hj : j ≤ g + 1) {N0 : Nat} {w0 w : World} {a : Act} (hF : Fam N0 237 (pI D bs g i ar j) w0 a w) :
    lInTest.wp Tryz.prog (fun ex a' w' => ExR ex .normal ∧ Fam N0 237 (pI D bs g i ar j) w0 a' w') a w := by
  have w_g : eqI (wrapF .i64 (Int.ofNat (g + 1))) (Int.ofNat (g + 1)) = true := wrapN (by have := h.gl; have := hD.few; omega)
  have f1 := hE hj
  have hs := h.simple
  match bs, h with
  | [], h => exact stepL (it0 D g i j ar) (by repeat' (first | assumption | exact rfl | apply an | apply nn | apply nt | apply bt | apply bf)) (by kernel_rfl) (keepC hD.simple hs _) hF
  | [b0], h => exact stepL (it1 D b0 g i j ar) (by repeat' (first | assumption | exact rfl | apply an | apply nn | apply nt | apply bt | apply bf)) (by kernel_rfl) (keepC hD.simple hs _) hF
  | [b0, b1], h => exact stepL (it2 D b0 b1 g i j ar) (by repeat' (first | assumption | exact rfl | apply an | apply nn | apply nt | apply bt | apply bf)) (by kernel_rfl) (keepC hD.simple hs _) hF
  | [b0, b1, b2], h => exact stepL (it3 D b0 b1 b2 g i j ar) (by repeat' (first | assumption | exact rfl | apply an | apply nn | apply nt | apply bt | apply bf)) (by kernel_rfl) (keepC hD.simple hs _) hF
  | [b0, b1, b2, b3], h => exact stepL (it4 D b0 b1 b2 b3 g i j ar) (by repeat' (first | assumption | exact rfl | apply an | apply nn | apply nt | apply bt | apply bf)) (by kernel_rfl) (keepC hD.simple hs _) hF
  | _ :: _ :: _ :: _ :: _ :: _, h => exact absurd h.len (by simp)
theorem L_if {D : Deeds} {bs : List Nat} {g i j : Nat} {ar : List Value} (hD : DOK D) (h : St bs g ar) (hj : ¬ j ≤ g + 1) {N0 : Nat} {w0 w : World} {a : Act} (hF : Fam N0 237 (pI D bs g i ar j) w0 a w) :
    lInTest.wp Tryz.prog (fun ex a' w' => ExR ex (.exit 2) ∧ Fam N0 237 (pC D bs g i ar) w0 a' w') a w := by
  have w_g : eqI (wrapF .i64 (Int.ofNat (g + 1))) (Int.ofNat (g + 1)) = true := wrapN (by have := h.gl; have := hD.few; omega)
  have f1 := hNE hj
  have hs := h.simple
  match bs, h with
  | [], h => exact stepL (if0 D g i j ar) (by repeat' (first | assumption | exact rfl | apply an | apply nn | apply nt | apply bt | apply bf)) (by kernel_rfl) (keepC hD.simple hs _) hF
  | [b0], h => exact stepL (if1 D b0 g i j ar) (by repeat' (first | assumption | exact rfl | apply an | apply nn | apply nt | apply bt | apply bf)) (by kernel_rfl) (keepC hD.simple hs _) hF
  | [b0, b1], h => exact stepL (if2 D b0 b1 g i j ar) (by repeat' (first | assumption | exact rfl | apply an | apply nn | apply nt | apply bt | apply bf)) (by kernel_rfl) (keepC hD.simple hs _) hF
  | [b0, b1, b2], h => exact stepL (if3 D b0 b1 b2 g i j ar) (by repeat' (first | assumption | exact rfl | apply an | apply nn | apply nt | apply bt | apply bf)) (by kernel_rfl) (keepC hD.simple hs _) hF
  | [b0, b1, b2, b3], h => exact stepL (if4 D b0 b1 b2 b3 g i j ar) (by repeat' (first | assumption | exact rfl | apply an | apply nn | apply nt | apply bt | apply bf)) (by kernel_rfl) (keepC hD.simple hs _) hF
  | _ :: _ :: _ :: _ :: _ :: _, h => exact absurd h.len (by simp)
theorem L_in {D : Deeds} {bs : List Nat} {g i j : Nat} {ar : List Value} (hD : DOK D) (h : St bs g ar) (hj : j ≤ g + 1) {N0 : Nat} {w0 w : World} {a : Act} (hF : Fam N0 237 (pI D bs g i ar j) w0 a w) :
    lInNext.wp Tryz.prog (fun ex a' w' => ExR ex .normal ∧ Fam N0 237 (pI D bs g i ar (j + 1)) w0 a' w') a w := by
  have w_j : eqI (wrapF .i64 (Int.ofNat (j + 1))) (Int.ofNat (j + 1)) = true := wrapN (by have := h.gl; have := hD.few; omega)
  have hs := h.simple
  match bs, h with
  | [], h => exact stepL (in0 D g i j ar) (by repeat' (first | assumption | exact rfl | apply an | apply nn | apply nt | apply bt | apply bf)) (by kernel_rfl) (keepC hD.simple hs _) hF
  | [b0], h => exact stepL (in1 D b0 g i j ar) (by repeat' (first | assumption | exact rfl | apply an | apply nn | apply nt | apply bt | apply bf)) (by kernel_rfl) (keepC hD.simple hs _) hF
  | [b0, b1], h => exact stepL (in2 D b0 b1 g i j ar) (by repeat' (first | assumption | exact rfl | apply an | apply nn | apply nt | apply bt | apply bf)) (by kernel_rfl) (keepC hD.simple hs _) hF
  | [b0, b1, b2], h => exact stepL (in3 D b0 b1 b2 g i j ar) (by repeat' (first | assumption | exact rfl | apply an | apply nn | apply nt | apply bt | apply bf)) (by kernel_rfl) (keepC hD.simple hs _) hF
  | [b0, b1, b2, b3], h => exact stepL (in4 D b0 b1 b2 b3 g i j ar) (by repeat' (first | assumption | exact rfl | apply an | apply nn | apply nt | apply bt | apply bf)) (by kernel_rfl) (keepC hD.simple hs _) hF
  | _ :: _ :: _ :: _ :: _ :: _, h => exact absurd h.len (by simp)
theorem L_end {D : Deeds} {bs : List Nat} {g i : Nat} {ar : List Value} (hD : DOK D) (h : St bs g ar) {N0 : Nat} {w0 w : World} {a : Act} (hF : Fam N0 237 (pC D bs g i ar) w0 a w) :
    lEnd.wp Tryz.prog (fun ex a' w' => ExR ex .ret ∧ Fam N0 237 (pE) w0 a' w') a w := by
  have hs := h.simple
  match bs, h with
  | [], h => exact stepL (end0 D g i ar) (by repeat' (first | assumption | exact rfl | apply an | apply nn | apply nt | apply bt | apply bf)) (by kernel_rfl) (fun _ he => by cases he) hF
  | [b0], h => exact stepL (end1 D b0 g i ar) (by repeat' (first | assumption | exact rfl | apply an | apply nn | apply nt | apply bt | apply bf)) (by kernel_rfl) (fun _ he => by cases he) hF
  | [b0, b1], h => exact stepL (end2 D b0 b1 g i ar) (by repeat' (first | assumption | exact rfl | apply an | apply nn | apply nt | apply bt | apply bf)) (by kernel_rfl) (fun _ he => by cases he) hF
  | [b0, b1, b2], h => exact stepL (end3 D b0 b1 b2 g i ar) (by repeat' (first | assumption | exact rfl | apply an | apply nn | apply nt | apply bt | apply bf)) (by kernel_rfl) (fun _ he => by cases he) hF
  | [b0, b1, b2, b3], h => exact stepL (end4 D b0 b1 b2 b3 g i ar) (by repeat' (first | assumption | exact rfl | apply an | apply nn | apply nt | apply bt | apply bf)) (by kernel_rfl) (fun _ he => by cases he) hF
  | _ :: _ :: _ :: _ :: _ :: _, h => exact absurd h.len (by simp)
theorem L_iv {D : Deeds} {bs : List Nat} {g i j : Nat} {ar : List Value} (hD : DOK D) (h : St bs g ar) (hj : j ≤ g + 1) {N0 : Nat} {w0 w : World} {a : Act} (hF : Fam N0 237 (pI D bs g i ar j) w0 a w) :
    lIn3.wp Tryz.prog (fun ex a' w' => ExR ex .normal ∧ Fam N0 237 (pI D bs g i ar j) w0 a' w') a w := by
  have hj' : j < 60 := by have := h.gl; omega
  have f1 := hB hj'
  have f2 := h.is hj'
  have hv : vBool (atD ar (0 + j * 1)) = decide (j ∈ bs.map (· + 1)) := by rw [h.atD hj']; rfl
  have hs := h.simple
  match bs, h with
  | [], h =>
    have t : vBool (atD ar (0 + j * 1)) = false := by rw [hv]; simp []
    exact stepL (iv0x0 D g i j ar) (by repeat' (first | assumption | exact rfl | apply an | apply nn | apply nt | apply bt | apply bf)) (by kernel_rfl) (keepC hD.simple hs _) hF
  | [b0], h =>
    by_cases e0 : j = b0 + 1
    · have t : vBool (atD ar (0 + j * 1)) = true := by rw [hv]; simp [e0]
      have d0 := dT e0
      exact stepL (iv1x0 D b0 g i j ar) (by repeat' (first | assumption | exact rfl | apply an | apply nn | apply nt | apply bt | apply bf)) (by kernel_rfl) (keepC hD.simple hs _) hF
    have d0 := dF e0
    have t : vBool (atD ar (0 + j * 1)) = false := by rw [hv]; simp [e0]
    exact stepL (iv1x1 D b0 g i j ar) (by repeat' (first | assumption | exact rfl | apply an | apply nn | apply nt | apply bt | apply bf)) (by kernel_rfl) (keepC hD.simple hs _) hF
  | [b0, b1], h =>
    by_cases e0 : j = b0 + 1
    · have t : vBool (atD ar (0 + j * 1)) = true := by rw [hv]; simp [e0]
      have d0 := dT e0
      exact stepL (iv2x0 D b0 b1 g i j ar) (by repeat' (first | assumption | exact rfl | apply an | apply nn | apply nt | apply bt | apply bf)) (by kernel_rfl) (keepC hD.simple hs _) hF
    have d0 := dF e0
    by_cases e1 : j = b1 + 1
    · have t : vBool (atD ar (0 + j * 1)) = true := by rw [hv]; simp [e1]
      have d1 := dT e1
      exact stepL (iv2x1 D b0 b1 g i j ar) (by repeat' (first | assumption | exact rfl | apply an | apply nn | apply nt | apply bt | apply bf)) (by kernel_rfl) (keepC hD.simple hs _) hF
    have d1 := dF e1
    have t : vBool (atD ar (0 + j * 1)) = false := by rw [hv]; simp [e0, e1]
    exact stepL (iv2x2 D b0 b1 g i j ar) (by repeat' (first | assumption | exact rfl | apply an | apply nn | apply nt | apply bt | apply bf)) (by kernel_rfl) (keepC hD.simple hs _) hF
  | [b0, b1, b2], h =>
    by_cases e0 : j = b0 + 1
    · have t : vBool (atD ar (0 + j * 1)) = true := by rw [hv]; simp [e0]
      have d0 := dT e0
      exact stepL (iv3x0 D b0 b1 b2 g i j ar) (by repeat' (first | assumption | exact rfl | apply an | apply nn | apply nt | apply bt | apply bf)) (by kernel_rfl) (keepC hD.simple hs _) hF
    have d0 := dF e0
    by_cases e1 : j = b1 + 1
    · have t : vBool (atD ar (0 + j * 1)) = true := by rw [hv]; simp [e1]
      have d1 := dT e1
      exact stepL (iv3x1 D b0 b1 b2 g i j ar) (by repeat' (first | assumption | exact rfl | apply an | apply nn | apply nt | apply bt | apply bf)) (by kernel_rfl) (keepC hD.simple hs _) hF
    have d1 := dF e1
    by_cases e2 : j = b2 + 1
    · have t : vBool (atD ar (0 + j * 1)) = true := by rw [hv]; simp [e2]
      have d2 := dT e2
      exact stepL (iv3x2 D b0 b1 b2 g i j ar) (by repeat' (first | assumption | exact rfl | apply an | apply nn | apply nt | apply bt | apply bf)) (by kernel_rfl) (keepC hD.simple hs _) hF
    have d2 := dF e2
    have t : vBool (atD ar (0 + j * 1)) = false := by rw [hv]; simp [e0, e1, e2]
    exact stepL (iv3x3 D b0 b1 b2 g i j ar) (by repeat' (first | assumption | exact rfl | apply an | apply nn | apply nt | apply bt | apply bf)) (by kernel_rfl) (keepC hD.simple hs _) hF
  | [b0, b1, b2, b3], h =>
    by_cases e0 : j = b0 + 1
    · have t : vBool (atD ar (0 + j * 1)) = true := by rw [hv]; simp [e0]
      have d0 := dT e0
      exact stepL (iv4x0 D b0 b1 b2 b3 g i j ar) (by repeat' (first | assumption | exact rfl | apply an | apply nn | apply nt | apply bt | apply bf)) (by kernel_rfl) (keepC hD.simple hs _) hF
    have d0 := dF e0
    by_cases e1 : j = b1 + 1
    · have t : vBool (atD ar (0 + j * 1)) = true := by rw [hv]; simp [e1]
      have d1 := dT e1
      exact stepL (iv4x1 D b0 b1 b2 b3 g i j ar) (by repeat' (first | assumption | exact rfl | apply an | apply nn | apply nt | apply bt | apply bf)) (by kernel_rfl) (keepC hD.simple hs _) hF
    have d1 := dF e1
    by_cases e2 : j = b2 + 1
    · have t : vBool (atD ar (0 + j * 1)) = true := by rw [hv]; simp [e2]
      have d2 := dT e2
      exact stepL (iv4x2 D b0 b1 b2 b3 g i j ar) (by repeat' (first | assumption | exact rfl | apply an | apply nn | apply nt | apply bt | apply bf)) (by kernel_rfl) (keepC hD.simple hs _) hF
    have d2 := dF e2
    by_cases e3 : j = b3 + 1
    · have t : vBool (atD ar (0 + j * 1)) = true := by rw [hv]; simp [e3]
      have d3 := dT e3
      exact stepL (iv4x3 D b0 b1 b2 b3 g i j ar) (by repeat' (first | assumption | exact rfl | apply an | apply nn | apply nt | apply bt | apply bf)) (by kernel_rfl) (keepC hD.simple hs _) hF
    have d3 := dF e3
    have t : vBool (atD ar (0 + j * 1)) = false := by rw [hv]; simp [e0, e1, e2, e3]
    exact stepL (iv4x4 D b0 b1 b2 b3 g i j ar) (by repeat' (first | assumption | exact rfl | apply an | apply nn | apply nt | apply bt | apply bf)) (by kernel_rfl) (keepC hD.simple hs _) hF
  | _ :: _ :: _ :: _ :: _ :: _, h => exact absurd h.len (by simp)

theorem St.add {bs : List Nat} {g : Nat} {ar : List Value} (h : St bs g ar) (hl : bs.length < 4) (hg : g < 40) : St (bs ++ [g]) (g + 1) (splice ar (0 + (g + 1) * 1) [.bool true]) := by
  refine h.set (by omega) (by simp; omega) ?_ ?_ (by omega) fun x => ?_
  · rw [List.nodup_append]
    refine ⟨h.nd, by simp, fun a ha b hb => ?_⟩
    simp at hb
    have := h.lt a ha
    omega
  · intro b hb
    rcases List.mem_append.1 hb with hb | hb
    · have := h.lt b hb; omega
    · simp at hb; omega
  · by_cases e : x = g + 1
    · rw [if_pos e]; simp [e]
    · rw [if_neg e]; simp; omega
theorem St.del {l1 l2 : List Nat} {b g k : Nat} {ar : List Value} (h : St (l1 ++ b :: l2) g ar) (hk : k = b + 1) : St (l1 ++ l2) g (splice ar (0 + k * 1) [.bool false]) := by
  subst hk
  have hb : b < g := h.lt b (by simp)
  have hnd := h.nd
  rw [List.nodup_append] at hnd
  obtain ⟨n1, n2, n3⟩ := hnd
  have n2' := List.nodup_cons.1 n2
  have hlen := h.len
  refine h.set (by have := h.gl; omega) (by simp at hlen ⊢; omega) ?_ (fun x hx => h.lt x ?_) h.gl fun x => ?_
  · rw [List.nodup_append]
    exact ⟨n1, n2'.2, fun a ha c hc => n3 a ha c (List.mem_cons_of_mem _ hc)⟩
  · rcases List.mem_append.1 hx with hx | hx
    · exact List.mem_append.2 (.inl hx)
    · exact List.mem_append.2 (.inr (List.mem_cons_of_mem _ hx))
  · by_cases e : x = b + 1
    · rw [if_pos e]
      subst e
      constructor
      · intro hx
        simp only [List.mem_map, List.mem_append, Nat.add_right_cancel_iff, exists_eq_right] at hx
        rcases hx with hx | hx
        · exact absurd rfl (n3 b hx b List.mem_cons_self)
        · exact absurd hx n2'.1
      · intro hx; cases hx
    · rw [if_neg e]
      simp only [List.mem_map, List.mem_append, List.mem_cons]
      constructor
      · rintro ⟨y, hy, rfl⟩
        exact ⟨y, by rcases hy with hy | hy <;> simp [hy], rfl⟩
      · rintro ⟨y, hy, rfl⟩
        refine ⟨y, ?_, rfl⟩
        rcases hy with hy | rfl | hy
        · exact .inl hy
        · exact absurd rfl e
        · exact .inr hy

theorem L_A {D : Deeds} {bs : List Nat} {g i : Nat} {ar : List Value} (hD : DOK D) (h : St bs g ar) (hi : i < D.len) (hg : g ≤ i) {N0 : Nat} {w0 w : World} {a : Act} (hF : Fam N0 237 (pC D bs g i ar) w0 a w) :
    lA.wp Tryz.prog (fun ex a' w' => ExR ex .normal ∧ ∃ bs' g' ar', St bs' g' ar' ∧ g' ≤ i + 1 ∧ Fam N0 237 (pC D bs' g' i ar') w0 a' w') a w := by
  have hlen := hD.len
  have hfew := hD.few
  obtain ⟨v, hv⟩ : ∃ v, D.xs[i]? = some v := ⟨_, List.getElem?_eq_getElem (show i < D.xs.length by omega)⟩
  obtain ⟨n, hn, rfl⟩ := hD.xs v (List.mem_of_getElem? hv)
  have hat : atD D.xs (0 + i * 1) = .int .u8 (.ofNat n) := by unfold atD; rw [nth_eq, show 0 + i * 1 = i by omega, hv]
  have x1 := hB hi
  have x2 : (Nat.blt (0 + i * 1) D.xs.length && isIntV .u8 (atD D.xs (0 + i * 1))) = true := by rw [hat]; exact an (hB (by omega)) rfl
  have w1 : eqI (wrapF .i64 (Int.ofNat (g + 1))) (Int.ofNat (g + 1)) = true := wrapN (by omega)
  have w2 : eqI (wrapF .i64 (Int.ofNat (g + 2))) (Int.ofNat (g + 2)) = true := wrapN (by omega)
  have hs := h.simple
  have up : ∀ {q : Pt} {bs' : List Nat} {g' : Nat} {ar' : List Value}, St bs' g' ar' → g' ≤ i + 1 → q = pC D bs' g' i ar' → lA.wp Tryz.prog (fun ex a' w' => ExR ex .normal ∧ Fam N0 237 q w0 a' w') a w →
      lA.wp Tryz.prog (fun ex a' w' => ExR ex .normal ∧ ∃ bs' g' ar', St bs' g' ar' ∧ g' ≤ i + 1 ∧ Fam N0 237 (pC D bs' g' i ar') w0 a' w') a w := by
    intro q bs' g' ar' h1 h2 hq hw
    subst hq
    exact wp_mono hw fun ex a' w' hh => ⟨hh.1, bs', g', ar', h1, h2, hh.2⟩
  rcases Nat.mod_two_eq_zero_or_one n with hpar | hpar
  · have x3 : eqI ((vInt (atD D.xs (0 + i * 1))).tmod 2) (Int.ofNat 0) = true := by
      rw [hat]
      show Nat.beq (n % 2) 0 = true
      rw [hpar]; rfl
    have q1 : eqI (Int.ofNat (g + 1)) (Int.ofNat (g + 1)) = true := Nat.beq_refl (g + 1)
    have q2 : Nat.blt (g + 1) 60 = true := hB (by omega)
    have q3 := h.put (k := g + 1) (by omega)
    match bs, h with
    | [], h =>
      have hS := h.add (by simp) (by omega)
      exact up hS (by omega) rfl (stepL (add0 D g i ar) (by repeat' (first | assumption | exact rfl | apply an | apply nn | apply nt | apply bt | apply bf)) (by kernel_rfl) (keepC hD.simple hS.simple _) hF)
    | [b0], h =>
      have d0 : decide (Int.ofNat (g + 1) = Int.ofNat (b0 + 1)) = false := dF (by have := h.lt b0 (by simp); omega)
      have hS := h.add (by simp) (by omega)
      exact up hS (by omega) rfl (stepL (add1 D b0 g i ar) (by repeat' (first | assumption | exact rfl | apply an | apply nn | apply nt | apply bt | apply bf)) (by kernel_rfl) (keepC hD.simple hS.simple _) hF)
    | [b0, b1], h =>
      have d0 : decide (Int.ofNat (g + 1) = Int.ofNat (b0 + 1)) = false := dF (by have := h.lt b0 (by simp); omega)
      have d1 : decide (Int.ofNat (g + 1) = Int.ofNat (b1 + 1)) = false := dF (by have := h.lt b1 (by simp); omega)
      have hS := h.add (by simp) (by omega)
      exact up hS (by omega) rfl (stepL (add2 D b0 b1 g i ar) (by repeat' (first | assumption | exact rfl | apply an | apply nn | apply nt | apply bt | apply bf)) (by kernel_rfl) (keepC hD.simple hS.simple _) hF)
    | [b0, b1, b2], h =>
      have d0 : decide (Int.ofNat (g + 1) = Int.ofNat (b0 + 1)) = false := dF (by have := h.lt b0 (by simp); omega)
      have d1 : decide (Int.ofNat (g + 1) = Int.ofNat (b1 + 1)) = false := dF (by have := h.lt b1 (by simp); omega)
      have d2 : decide (Int.ofNat (g + 1) = Int.ofNat (b2 + 1)) = false := dF (by have := h.lt b2 (by simp); omega)
      have hS := h.add (by simp) (by omega)
      exact up hS (by omega) rfl (stepL (add3 D b0 b1 b2 g i ar) (by repeat' (first | assumption | exact rfl | apply an | apply nn | apply nt | apply bt | apply bf)) (by kernel_rfl) (keepC hD.simple hS.simple _) hF)
    | [b0, b1, b2, b3], h => exact up h (by omega) rfl (stepL (many D b0 b1 b2 b3 g i ar) (by repeat' (first | assumption | exact rfl | apply an | apply nn | apply nt | apply bt | apply bf)) (by kernel_rfl) (keepC hD.simple hs _) hF)
    | _ :: _ :: _ :: _ :: _ :: _, h => exact absurd h.len (by simp)
  · have x3 : eqI ((vInt (atD D.xs (0 + i * 1))).tmod 2) (Int.ofNat 1) = true := by
      rw [hat]
      show Nat.beq (n % 2) 1 = true
      rw [hpar]; rfl
    obtain ⟨d, hd⟩ : ∃ d, d = n / 2 := ⟨_, rfl⟩
    have x4 : eqI (wrapF .u8 ((vInt (atD D.xs (0 + i * 1))).tdiv 2)) (Int.ofNat d) = true := by
      rw [hat, hd]
      show Nat.beq ((n / 2) % 256) (n / 2) = true
      rw [Nat.mod_eq_of_lt (by omega)]; exact Nat.beq_refl _
    have x5 : eqI (wrapF .i64 ((Int.ofNat d).tmod 50)) ((Int.ofNat d).tmod 50) = true := wrapN (n := d % 50) (by omega)
    obtain ⟨k, hk⟩ : ∃ k, k = d % 50 % (g + 2) := ⟨_, rfl⟩
    have hk2 : k < g + 2 := by rw [hk]; exact Nat.mod_lt _ (by omega)
    have x6 : eqI (((Int.ofNat d).tmod 50).tmod (Int.ofNat (g + 2))) (Int.ofNat k) = true := by
      show Nat.beq (d % 50 % (g + 2)) k = true
      rw [hk]; exact Nat.beq_refl _
    have hk' : k < 60 := by omega
    have f1 := hB hk'
    have f2 := h.is hk'
    have f3 := h.put hk'
    have hv : vBool (atD ar (0 + k * 1)) = decide (k ∈ bs.map (· + 1)) := by rw [h.atD hk']; rfl
    match bs, h with
    | [], h =>
      have t : vBool (atD ar (0 + k * 1)) = false := by rw [hv]; simp []
      exact up h (by omega) rfl (stepL (del0x0 D g i d k ar) (by repeat' (first | assumption | exact rfl | apply an | apply nn | apply nt | apply bt | apply bf)) (by kernel_rfl) (keepC hD.simple hs _) hF)
    | [b0], h =>
      by_cases e0 : k = b0 + 1
      · have t : vBool (atD ar (0 + k * 1)) = true := by rw [hv]; simp [e0]
        have d0 := dT e0
        have hS := St.del (l1 := []) (l2 := []) h e0
        have hX := bornX hS
        exact up hS (by omega) rfl (stepL (del1x0 D b0 g i d k ar) (by repeat' (first | assumption | exact rfl | apply an | apply nn | apply nt | apply bt | apply bf)) (by kernel_rfl) (keepC hD.simple hS.simple _) hF)
      have d0 := dF e0
      have t : vBool (atD ar (0 + k * 1)) = false := by rw [hv]; simp [e0]
      exact up h (by omega) rfl (stepL (del1x1 D b0 g i d k ar) (by repeat' (first | assumption | exact rfl | apply an | apply nn | apply nt | apply bt | apply bf)) (by kernel_rfl) (keepC hD.simple hs _) hF)
    | [b0, b1], h =>
      by_cases e0 : k = b0 + 1
      · have t : vBool (atD ar (0 + k * 1)) = true := by rw [hv]; simp [e0]
        have d0 := dT e0
        have hS := St.del (l1 := []) (l2 := [b1]) h e0
        have hX := bornX hS
        exact up hS (by omega) rfl (stepL (del2x0 D b0 b1 g i d k ar) (by repeat' (first | assumption | exact rfl | apply an | apply nn | apply nt | apply bt | apply bf)) (by kernel_rfl) (keepC hD.simple hS.simple _) hF)
      have d0 := dF e0
      by_cases e1 : k = b1 + 1
      · have t : vBool (atD ar (0 + k * 1)) = true := by rw [hv]; simp [e1]
        have d1 := dT e1
        have hS := St.del (l1 := [b0]) (l2 := []) h e1
        have hX := bornX hS
        exact up hS (by omega) rfl (stepL (del2x1 D b0 b1 g i d k ar) (by repeat' (first | assumption | exact rfl | apply an | apply nn | apply nt | apply bt | apply bf)) (by kernel_rfl) (keepC hD.simple hS.simple _) hF)
      have d1 := dF e1
      have t : vBool (atD ar (0 + k * 1)) = false := by rw [hv]; simp [e0, e1]
      exact up h (by omega) rfl (stepL (del2x2 D b0 b1 g i d k ar) (by repeat' (first | assumption | exact rfl | apply an | apply nn | apply nt | apply bt | apply bf)) (by kernel_rfl) (keepC hD.simple hs _) hF)
    | [b0, b1, b2], h =>
      by_cases e0 : k = b0 + 1
      · have t : vBool (atD ar (0 + k * 1)) = true := by rw [hv]; simp [e0]
        have d0 := dT e0
        have hS := St.del (l1 := []) (l2 := [b1, b2]) h e0
        have hX := bornX hS
        exact up hS (by omega) rfl (stepL (del3x0 D b0 b1 b2 g i d k ar) (by repeat' (first | assumption | exact rfl | apply an | apply nn | apply nt | apply bt | apply bf)) (by kernel_rfl) (keepC hD.simple hS.simple _) hF)
      have d0 := dF e0
      by_cases e1 : k = b1 + 1
      · have t : vBool (atD ar (0 + k * 1)) = true := by rw [hv]; simp [e1]
        have d1 := dT e1
        have hS := St.del (l1 := [b0]) (l2 := [b2]) h e1
        have hX := bornX hS
        exact up hS (by omega) rfl (stepL (del3x1 D b0 b1 b2 g i d k ar) (by repeat' (first | assumption | exact rfl | apply an | apply nn | apply nt | apply bt | apply bf)) (by kernel_rfl) (keepC hD.simple hS.simple _) hF)
      have d1 := dF e1
      by_cases e2 : k = b2 + 1
      · have t : vBool (atD ar (0 + k * 1)) = true := by rw [hv]; simp [e2]
        have d2 := dT e2
        have hS := St.del (l1 := [b0, b1]) (l2 := []) h e2
        have hX := bornX hS
        exact up hS (by omega) rfl (stepL (del3x2 D b0 b1 b2 g i d k ar) (by repeat' (first | assumption | exact rfl | apply an | apply nn | apply nt | apply bt | apply bf)) (by kernel_rfl) (keepC hD.simple hS.simple _) hF)
      have d2 := dF e2
      have t : vBool (atD ar (0 + k * 1)) = false := by rw [hv]; simp [e0, e1, e2]
      exact up h (by omega) rfl (stepL (del3x3 D b0 b1 b2 g i d k ar) (by repeat' (first | assumption | exact rfl | apply an | apply nn | apply nt | apply bt | apply bf)) (by kernel_rfl) (keepC hD.simple hs _) hF)
    | [b0, b1, b2, b3], h =>
      by_cases e0 : k = b0 + 1
      · have t : vBool (atD ar (0 + k * 1)) = true := by rw [hv]; simp [e0]
        have d0 := dT e0
        have hS := St.del (l1 := []) (l2 := [b1, b2, b3]) h e0
        have hX := bornX hS
        exact up hS (by omega) rfl (stepL (del4x0 D b0 b1 b2 b3 g i d k ar) (by repeat' (first | assumption | exact rfl | apply an | apply nn | apply nt | apply bt | apply bf)) (by kernel_rfl) (keepC hD.simple hS.simple _) hF)
      have d0 := dF e0
      by_cases e1 : k = b1 + 1
      · have t : vBool (atD ar (0 + k * 1)) = true := by rw [hv]; simp [e1]
        have d1 := dT e1
        have hS := St.del (l1 := [b0]) (l2 := [b2, b3]) h e1
        have hX := bornX hS
        exact up hS (by omega) rfl (stepL (del4x1 D b0 b1 b2 b3 g i d k ar) (by repeat' (first | assumption | exact rfl | apply an | apply nn | apply nt | apply bt | apply bf)) (by kernel_rfl) (keepC hD.simple hS.simple _) hF)
      have d1 := dF e1
      by_cases e2 : k = b2 + 1
      · have t : vBool (atD ar (0 + k * 1)) = true := by rw [hv]; simp [e2]
        have d2 := dT e2
        have hS := St.del (l1 := [b0, b1]) (l2 := [b3]) h e2
        have hX := bornX hS
        exact up hS (by omega) rfl (stepL (del4x2 D b0 b1 b2 b3 g i d k ar) (by repeat' (first | assumption | exact rfl | apply an | apply nn | apply nt | apply bt | apply bf)) (by kernel_rfl) (keepC hD.simple hS.simple _) hF)
      have d2 := dF e2
      by_cases e3 : k = b3 + 1
      · have t : vBool (atD ar (0 + k * 1)) = true := by rw [hv]; simp [e3]
        have d3 := dT e3
        have hS := St.del (l1 := [b0, b1, b2]) (l2 := []) h e3
        have hX := bornX hS
        exact up hS (by omega) rfl (stepL (del4x3 D b0 b1 b2 b3 g i d k ar) (by repeat' (first | assumption | exact rfl | apply an | apply nn | apply nt | apply bt | apply bf)) (by kernel_rfl) (keepC hD.simple hS.simple _) hF)
      have d3 := dF e3
      have t : vBool (atD ar (0 + k * 1)) = false := by rw [hv]; simp [e0, e1, e2, e3]
      exact up h (by omega) rfl (stepL (del4x4 D b0 b1 b2 b3 g i d k ar) (by repeat' (first | assumption | exact rfl | apply an | apply nn | apply nt | apply bt | apply bf)) (by kernel_rfl) (keepC hD.simple hs _) hF)
    | _ :: _ :: _ :: _ :: _ :: _, h => exact absurd h.len (by simp)

end Go.Proofs.YtmmplhfimnhcpaaGreatDoor

namespace Go.Proofs.YtmmplhfimnhcpaaGreatDoor
set_option linter.all false
set_option linter.unusedSimpArgs false
set_option linter.unusedVariables false
open Go Go.Ideal Go.RowKit
set_option maxRecDepth 100000
set_option maxHeartbeats 4000000

theorem L_inner {D : Deeds} {bs : List Nat} {g i : Nat} {ar : List Value} (hD : DOK D) (h : St bs g ar) {N0 : Nat} {w0 : World} : ∀ (t : Nat) {j : Nat} {w : World} {a : Act}, g + 2 - j ≤ t →
    Fam N0 237 (pI D bs g i ar j) w0 a w →
    LoopWp Tryz.prog (.seq lInTest (.seq (.block 3 lIn3) lInNext)) (fun ex a' w' => ex = .exit 2 ∧ Fam N0 237 (pC D bs g i ar) w0 a' w') a w := by
  intro t
  induction t with
  | zero =>
    intro j w a ht hF
    refine LoopWp.round (wp_seq ?_)
    refine wp_mono (L_if hD h (by omega) hF) ?_
    rintro ex a1 w1 ⟨hx, hF1⟩
    cases ex <;> simp only [ExR] at hx
    subst hx
    exact ⟨rfl, hF1⟩
  | succ t ih =>
    intro j w a ht hF
    refine LoopWp.round (wp_seq ?_)
    by_cases hj : j ≤ g + 1
    · refine wp_mono (L_it hD h hj hF) ?_
      rintro ex a1 w1 ⟨hx, hF1⟩
      cases ex <;> simp only [ExR] at hx
      refine wp_seq (wp_block ?_)
      refine wp_mono (L_iv hD h hj hF1) ?_
      rintro ex a2 w2 ⟨hx, hF2⟩
      cases ex <;> simp only [ExR] at hx
      refine wp_mono (L_in hD h hj hF2) ?_
      rintro ex a3 w3 ⟨hx, hF3⟩
      cases ex <;> simp only [ExR] at hx
      exact ih (by omega) hF3
    · refine wp_mono (L_if hD h hj hF) ?_
      rintro ex a1 w1 ⟨hx, hF1⟩
      cases ex <;> simp only [ExR] at hx
      subst hx
      exact ⟨rfl, hF1⟩

theorem L_round {D : Deeds} {bs : List Nat} {g i : Nat} {ar : List Value} (hD : DOK D) (h : St bs g ar) (hi : i < D.len) (hg : g ≤ i) {N0 : Nat} {w0 w : World} {a : Act} (hF : Fam N0 237 (pC D bs g i ar) w0 a w) :
    (Code.block 1 lB1).wp Tryz.prog (fun ex a' w' => ex = .normal ∧ ∃ bs' g' ar', St bs' g' ar' ∧ g' ≤ i + 1 ∧ Fam N0 237 (pC D bs' g' i ar') w0 a' w') a w := by
  refine wp_block ?_
  rw [code2]
  refine wp_seq (wp_mono (L_A hD h hi hg hF) ?_)
  rintro ex a1 w1 ⟨hx, bs1, g1, ar1, h1, hg1, hF1⟩
  cases ex <;> simp only [ExR] at hx
  refine wp_seq (wp_mono (L_bb hD h1 hF1) ?_)
  rintro ex a2 w2 ⟨hx, hF2⟩
  cases ex <;> simp only [ExR] at hx
  refine wp_seq (wp_mono (L_bi hD h1 hF2) ?_)
  rintro ex a3 w3 ⟨hx, hF3⟩
  cases ex <;> simp only [ExR] at hx
  refine wp_block ?_
  rw [code3]
  refine wp_mono (L_inner hD h1 (g1 + 2) (by omega) hF3).wp ?_
  rintro ex a4 w4 ⟨rfl, hF4⟩
  exact ⟨rfl, bs1, g1, ar1, h1, hg1, hF4⟩

theorem L_outer {D : Deeds} (hD : DOK D) {N0 : Nat} {w0 : World} : ∀ (t : Nat) {bs : List Nat} {g i : Nat} {ar : List Value} {w : World} {a : Act}, D.len - i ≤ t → St bs g ar → g ≤ i →
    Fam N0 237 (pC D bs g i ar) w0 a w →
    LoopWp Tryz.prog (.seq lTest (.seq (.block 1 lB1) lNext)) (fun ex a' w' => ex = .exit 0 ∧ ∃ bs' g' i' ar', St bs' g' ar' ∧ Fam N0 237 (pC D bs' g' i' ar') w0 a' w') a w := by
  intro t
  induction t with
  | zero =>
    intro bs g i ar w a ht h hg hF
    refine LoopWp.round (wp_seq ?_)
    refine wp_mono (L_tf hD h (by omega) hF) ?_
    rintro ex a1 w1 ⟨hx, hF1⟩
    cases ex <;> simp only [ExR] at hx
    subst hx
    exact ⟨rfl, bs, g, i, ar, h, hF1⟩
  | succ t ih =>
    intro bs g i ar w a ht h hg hF
    refine LoopWp.round (wp_seq ?_)
    by_cases hi : i < D.len
    · refine wp_mono (L_tt hD h hi hF) ?_
      rintro ex a1 w1 ⟨hx, hF1⟩
      cases ex <;> simp only [ExR] at hx
      refine wp_seq (wp_mono (L_round hD h hi hg hF1) ?_)
      rintro ex a2 w2 ⟨rfl, bs1, g1, ar1, h1, hg1, hF2⟩
      refine wp_mono (L_nx hD h1 hi hF2) ?_
      rintro ex a3 w3 ⟨hx, hF3⟩
      cases ex <;> simp only [ExR] at hx
      exact ih (by omega) h1 hg1 hF3
    · refine wp_mono (L_tf hD h hi hF) ?_
      rintro ex a1 w1 ⟨hx, hF1⟩
      cases ex <;> simp only [ExR] at hx
      subst hx
      exact ⟨rfl, bs, g, i, ar, h, hF1⟩

theorem no60_ok : St [] 0 no60 := by
  refine ⟨by simp, by simp, by simp, by omega, by simp [no60], fun k hk => ?_⟩
  unfold no60
  rw [List.getElem?_replicate, if_pos hk]
  simp
theorem keep6 {D : Deeds} (hD : D.xs.all simple = true) (ρ : Nat → Nat) : ∀ e ∈ [b0 D, b2, b3, b4 [] 0, b5 0, b6 no60], (Nat.beq e.1 0 || Nat.beq e.1 6) = true → renB ρ e.2 = e.2 :=
  keepC (bs := []) hD no60_ok.simple ρ
theorem keep5 {D : Deeds} (hD : D.xs.all simple = true) (ρ : Nat → Nat) : ∀ e ∈ [b0 D, b2, b3, b4 [] 0, b5 0], (Nat.beq e.1 0 || Nat.beq e.1 6) = true → renB ρ e.2 = e.2 :=
  fun e he => keep6 hD ρ e (List.mem_append_left [b6 no60] he)
theorem keep3 {D : Deeds} (hD : D.xs.all simple = true) (ρ : Nat → Nat) : ∀ e ∈ [b0 D, b2, b3], (Nat.beq e.1 0 || Nat.beq e.1 6) = true → renB ρ e.2 = e.2 :=
  fun e he => keep5 hD ρ e (List.mem_append_left [b4 [] 0, b5 0] he)
theorem keep1 {D : Deeds} (hD : D.xs.all simple = true) (ρ : Nat → Nat) : ∀ e ∈ [b0 D], (Nat.beq e.1 0 || Nat.beq e.1 6) = true → renB ρ e.2 = e.2 :=
  fun e he => keep3 hD ρ e (List.mem_append_left [b2, b3] he)


theorem L_body {D : Deeds} (hD : D.xs.all simple = true) (hk : D.len ≤ 40 → DOK D) {N0 : Nat} {w0 w : World} {a : Act} (hF : Fam N0 237 (p0 D) w0 a w) :
    (Code.seq lp0 (.seq lp1 (.seq lp3 (.seq lp5 (.seq lp6 (.seq lp8 (.seq lp9 (.seq lp10 (.seq lp11 (.seq (.seq lp12 (.block 0 lLoop)) lEnd)))))))))).wp Tryz.prog
      (fun ex a' w' => ex = .ret ∧ Fam N0 237 pE w0 a' w') a w := by
  refine wp_seq (wp_mono (stepL (r0 D) rfl (by kernel_rfl) (keep1 hD _) hF) ?_)
  rintro ex a1 w1 ⟨hx, hF1⟩; cases ex <;> simp only [ExR] at hx
  refine wp_seq (wp_mono (stepL (r1 D) rfl (by kernel_rfl) (keep1 hD _) hF1) ?_)
  rintro ex a2 w2 ⟨hx, hF2⟩; cases ex <;> simp only [ExR] at hx
  by_cases hl : 40 < D.len
  · refine wp_seq (wp_mono (stepL (r3t D) (an (hB hl) rfl) (by kernel_rfl) (fun _ he => by cases he) hF2) ?_)
    rintro ex a3 w3 ⟨hx, hF3⟩; cases ex <;> simp only [ExR] at hx
    exact ⟨rfl, hF3⟩
  have hO := hk (by omega)
  refine wp_seq (wp_mono (stepL (r3 D) (an (nt (hNB hl)) rfl) (by kernel_rfl) (keep1 hD _) hF2) ?_)
  rintro ex a3 w3 ⟨hx, hF3⟩; cases ex <;> simp only [ExR] at hx
  refine wp_seq (wp_mono (stepL (r5 D) rfl (by kernel_rfl) (keep3 hD _) hF3) ?_)
  rintro ex a4 w4 ⟨hx, hF4⟩; cases ex <;> simp only [ExR] at hx
  refine wp_seq (wp_mono (stepL (r6 D) rfl (by kernel_rfl) (keep3 hD _) hF4) ?_)
  rintro ex a5 w5 ⟨hx, hF5⟩; cases ex <;> simp only [ExR] at hx
  refine wp_seq (wp_mono (stepL (r8 D) rfl (by kernel_rfl) (keep5 hD _) hF5) ?_)
  rintro ex a6 w6 ⟨hx, hF6⟩; cases ex <;> simp only [ExR] at hx
  refine wp_seq (wp_mono (stepL (r9 D) rfl (by kernel_rfl) (keep5 hD _) hF6) ?_)
  rintro ex a7 w7 ⟨hx, hF7⟩; cases ex <;> simp only [ExR] at hx
  refine wp_seq (wp_mono (stepL (r10 D) rfl (by kernel_rfl) (keep6 hD _) hF7) ?_)
  rintro ex a8 w8 ⟨hx, hF8⟩; cases ex <;> simp only [ExR] at hx
  refine wp_seq (wp_mono (stepL (r11 D) rfl (by kernel_rfl) (keep6 hD _) hF8) ?_)
  rintro ex a9 w9 ⟨hx, hF9⟩; cases ex <;> simp only [ExR] at hx
  refine wp_seq (wp_seq (wp_mono (stepL (r12 D) rfl (by kernel_rfl) (keepC (bs := []) hD no60_ok.simple _) hF9) ?_))
  rintro ex a10 w10 ⟨hx, hF10⟩; cases ex <;> simp only [ExR] at hx
  refine wp_block ?_
  rw [code1]
  refine wp_mono (L_outer hO D.len (by omega) no60_ok (Nat.le_refl _) hF10).wp ?_
  rintro ex a11 w11 ⟨rfl, bs, g, i, ar, h, hF11⟩
  show lEnd.wp _ _ _ _
  refine wp_mono (L_end hO h hF11) ?_
  rintro ex a12 w12 ⟨hx, hF12⟩; cases ex <;> simp only [ExR] at hx
  exact ⟨rfl, hF12⟩

theorem la_results : Tryz.f4.results.toList = [.tmp 2] := by kernel_rfl
theorem la_ntmps : Tryz.f4.ntmps = 237 := by kernel_rfl

/-- The call at a row of one byte and more. -/
theorem la_row {w : World} {b off : Nat} {c : Array Value} {e : TypeId} {fz : Nat × Nat} (hb : w.heap[b]? = some (.cells c e fz)) {D : Deeds} (he : D.e = e)
    (hx : ∀ (i : Nat) v, D.xs[i]? = some v → c[off + i]? = some v) (hlen : off + D.xs.length ≤ c.size) (hxs : ∀ v ∈ D.xs, ∃ n : Nat, n ≤ 255 ∧ v = .int .u8 (.ofNat n)) (hl : D.len ≤ D.xs.length)
    {v : Value} (hv : V (roB b off c.size) (.slice (some ⟨0, 0, none⟩) D.len D.cap) v) :
    Calls Tryz.prog 4 #[v] w fun e w' => e = .returned (.bool true) ∧ Below w.heap.size w w' := by
  have hs : D.xs.all simple = true := by
    rw [List.all_eq_true]
    intro v hv
    obtain ⟨n, _, rfl⟩ := hxs v hv
    rfl
  refine calls_of_wp Tryz.func4 code0 ?_
  have hF : Fam w.heap.size 237 (p0 D) w { tmps := #[v] ++ Array.replicate (Tryz.f4.ntmps - (#[v] : Array Value).size) undef, defers := [] } w := by
    refine ⟨roB b off c.size, ?_, fun n hn => ?_, ?_, Below.refl _ _⟩
    · refine ⟨fun n o hn => ?_, fun b1 b2 o1 o2 L1 L2 hne h1 h2 _ _ _ _ _ => ?_, Nat.le_refl _⟩
      · have hn : ((Tr.nil : Tr Blk).set depth 0 (.cells D.xs D.e .ro)).get n = some o := hn
        simp only [Tr.get_set, Tr.get_nil] at hn
        by_cases h0 : 0 = n
        · subst h0
          rw [if_pos rfl] at hn; cases hn
          refine ⟨⟨b, off, c.size⟩, rfl, c, fz, by rw [he]; exact hb, rfl, hlen, fun i u hi => ⟨u, hx i u hi, V.of_simple ?_⟩, trivial⟩
          exact List.all_eq_true.1 hs u (List.mem_of_getElem? hi)
        · rw [if_neg h0] at hn; cases hn
      · have h1 : ((Tr.nil : Tr Blk).set depth 0 (.cells D.xs D.e .ro)).get b1 = some o1 := h1
        have h2 : ((Tr.nil : Tr Blk).set depth 0 (.cells D.xs D.e .ro)).get b2 = some o2 := h2
        simp only [Tr.get_set, Tr.get_nil] at h1 h2
        by_cases g1 : 0 = b1
        · by_cases g2 : 0 = b2
          · exact absurd (g1.symm.trans g2) hne
          · rw [if_neg g2] at h2; cases h2
        · rw [if_neg g1] at h1; cases h1
    · have hn : 1 ≤ n := hn
      show (if n = 0 then _ else none) = none
      rw [if_neg (by omega)]
    · refine ⟨by rw [la_ntmps]; simp, rfl, fun i u hu => ?_⟩
      have hu : ((Tr.nil : Tr Value).set 5 0 (.slice (some ⟨0, 0, none⟩) D.len D.cap)).get i = some u := hu
      rw [Tr.get_set] at hu
      by_cases h0 : 0 = i
      · subst h0
        rw [if_pos rfl] at hu; cases hu
        exact ⟨v, by simp, hv⟩
      · rw [if_neg h0] at hu; cases hu
  refine wp_mono (L_body hs (fun h40 => ⟨hxs, hl, h40⟩) hF) ?_
  rintro ex a' w' ⟨rfl, β, hI, _, hT, hB⟩
  obtain ⟨v', e1, e2⟩ := hT.rel 2 (.bool true) rfl
  cases e2
  refine ⟨hT.defers, .bool true, ?_, rfl, hB⟩
  refine run_results (vs' := [.bool true]) ?_
  rw [la_results]
  simp [List.mapM_cons, resF, e1]

end Go.Proofs.YtmmplhfimnhcpaaGreatDoor

namespace Go.Proofs.YtmmplhfimnhcpaaGreatDoor
set_option linter.all false
set_option linter.unusedSimpArgs false
set_option linter.unusedVariables false
open Go Go.Ideal Go.RowKit Go.ChangeShapes Go.WideShapes
set_option maxRecDepth 100000
set_option maxHeartbeats 4000000

noncomputable def laNil : Bool := isTrue (callM laE 100 4 [.slice none 0 0] ⟨.nil, 1, 0, 0⟩)
theorem la_nil : laNil = true := by kernel_rfl
noncomputable def laZero (cap : Nat) : Bool := isTrue (callM laE 100 4 [.slice (some ⟨0, 0, .none⟩) 0 cap] ⟨.nil, 1, 0, 0⟩)
theorem la_zero (cap : Nat) : laZero cap = true := by kernel_rfl

theorem la_wf8 {x : Int} (h : (Lit.int .u8 x).wf = true) : 0 ≤ x ∧ x ≤ 255 := by
  simpa [Lit.wf, IntKind.min, IntKind.max, IntKind.signed, IntKind.bits] using h
theorem la_true {H : Type} {w : World} {v : Value} {d : DataW H} {p : List MemPlace} (hr : Row w v d p) :
    Calls Tryz.prog 4 #[v] w fun e w' => e = .returned (.bool true) ∧ Below w.heap.size w w' := by
  have h1 : ([] : List Value).all simple = true := rfl
  cases hr with
  | nil =>
    obtain ⟨s', e⟩ := isTrue_some la_nil
    exact yes_of rfl (run_law_at laGood (β0 := fun _ => .none) (fun _ _ => rfl) e (VL.simple_append h1 h1 .nilsl))
  | «at» a len cap zs hl hm hz hcell hw =>
    have hu : cap < UNK := by unfold UNK; unfold maxLen at hm; omega
    rcases Nat.eq_zero_or_pos cap with h0 | h0
    · subst h0
      obtain rfl : len = 0 := by omega
      obtain ⟨s', e⟩ := isTrue_some (la_zero 0)
      exact yes_of rfl (run_law_at laGood (β0 := fun _ => .none) (fun _ _ => rfl) e (VL.simple_append h1 h1 (.sl0 _ _)))
    · obtain ⟨b, off, spot⟩ := a
      have c0 := hcell 0 (by omega)
      obtain rfl : spot = .none := by simpa [Addr.add] using World.cell?_spot c0
      rcases Nat.eq_zero_or_pos len with h3 | h3
      · subst h3
        obtain ⟨s', e⟩ := isTrue_some (la_zero cap)
        exact yes_of rfl (run_law_at laGood (β0 := roB b off 0) (fun n hn => by show (if n = 0 then _ else _) = _; rw [if_neg (by omega)]) e (VL.simple_append h1 h1 (V.ro (Nat.zero_le _) hu)))
      · have hcell' : ∀ j, j < zs.length → w.cell? ⟨b, off + j, .none⟩ = Option.some (.int .u8 (zs.getD j 0)) := fun j hj => by rw [← add_plain]; exact hcell j hj
        have hblk : ∃ c e fz, w.heap[b]? = Option.some (.cells c e fz) := by
          have := hcell' 0 (by omega)
          unfold World.cell? at this
          cases hh : w.heap[b]? with
          | none => simp [hh] at this
          | some o =>
            cases o with
            | cells c e fz => exact ⟨c, e, fz, rfl⟩
            | _ => simp [hh] at this
        obtain ⟨c, e, fz, hb⟩ := hblk
        have hget : ∀ j, j < zs.length → c[off + j]? = Option.some (.int .u8 (zs.getD j 0)) := fun j hj => by
          have := hcell' j hj
          rw [cell_at hb] at this; exact this
        have hle : off + zs.length ≤ c.size := by
          have := hget (zs.length - 1) (by omega)
          have := (Array.getElem?_eq_some_iff.1 this).1
          omega
        refine la_row hb (D := ⟨zs.map (.int .u8), e, len, cap⟩) rfl (fun i u hi => ?_) (by simpa using hle) (fun u hu' => ?_) (by simp; omega) (V.ro hl hu)
        · rw [List.getElem?_map] at hi
          cases hj : zs[i]? with
          | none => rw [hj] at hi; cases hi
          | some y =>
            rw [hj] at hi; cases hi
            have hlt := (List.getElem?_eq_some_iff.1 hj).1
            rw [hget i hlt, List.getD, hj]; rfl
        · obtain ⟨y, hy, rfl⟩ := List.mem_map.1 hu'
          obtain ⟨l1, l2⟩ := la_wf8 (hw y hy)
          cases y with
          | ofNat n => exact ⟨n, by simp only [Int.ofNat_eq_natCast] at l2; omega, rfl⟩
          | negSucc n => exact absurd l1 (by simp)

theorem leaseAll_true (v : Value) {H : Type} (d : DataW H) (p : List MemPlace) (w : World) (hr : Row w v d p) :
    Calls Tryz.prog 4 #[v] w fun e w' => e = .returned (.bool true) ∧ Below w.heap.size w w' := la_true hr

end Go.Proofs.YtmmplhfimnhcpaaGreatDoor

