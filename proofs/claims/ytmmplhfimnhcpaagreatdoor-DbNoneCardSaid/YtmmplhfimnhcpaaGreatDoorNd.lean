/- db.Name as one step of the machine; the machine for DbNone. -/
import Derived.Test.YtmmplhfimnhcpaaGreatDoorNc
namespace Go.Ideal
set_option linter.all false
set_option linter.unusedSimpArgs false
set_option linter.unusedVariables false
noncomputable section
open Go Go.RowKit

/-- The environment, whatever variables it knows. -/
structure GoodG (P : Program) (E : Env) : Prop where
  env : EnvOK P E
  resp : EnvResp E
  link : ∀ N0, LinkOK P N0 E

theorem GoodG.intr {P : Program} {glob : Nat → Bool} {base ext : FuncId → Option (List Value → M Value)} (h : GoodG P (mkEnv P glob base ext)) {k : FuncId} {g : List Value → M Value} (hr : ∀ l, Resp (g l))
    (hf : ∀ N0 E, E.glob = glob → FunOK P N0 E k g) : GoodG P (mkEnv P glob (fun f => cond (Nat.beq k f) (some g) (base f)) ext) := by
  have key : ∀ {f g'}, cond (Nat.beq k f) (some g) (base f) = some g' → (k = f ∧ g' = g) ∨ base f = some g' := by
    intro f g' hg
    cases hk : Nat.beq k f with
    | true => rw [hk] at hg; cases hg; exact .inl ⟨Nat.eq_of_beq_eq_true hk, rfl⟩
    | false => rw [hk] at hg; exact .inr hg
  refine ⟨mkEnv_ok h.env.mixed, ⟨fun f g' hg => ?_, h.resp.ext⟩, fun N0 => ⟨(h.link N0).ext, fun f g' hg => ?_, (h.link N0).name⟩⟩
  · rcases key hg with ⟨rfl, rfl⟩ | hg
    · exact hr
    · exact h.resp.intr f g' hg
  · rcases key hg with ⟨rfl, rfl⟩ | hg
    · exact hf _ _ rfl
    · intro l s v s' β w l' a1 a2 a3 a4 a5
      exact (h.link N0).intr f g' hg l s v s' β w l' a1 a2 a3 a4 a5

/-- The start: one variable of the program, only read. -/
def SV (g : Nat) (xs : List Value) (e : TypeId) : S := ⟨(Tr.nil : Tr Blk).set depth g (.cells xs e .ro), g + 1, 0, 0⟩

def vrB (g tot : Nat) : Bij := fun n => if n = g then some ⟨g, 0, tot⟩ else none

theorem run_var {P : Program} {E : Env} (hG : GoodG P E) {w : World} {g : Nat} {c : Array Value} {e : TypeId} {fz : Nat × Nat} (hb : w.heap[g]? = some (.cells c e fz)) {xs : List Value}
    (hx : ∀ (i : Nat) v, xs[i]? = some v → c[i]? = some v) (hs : xs.all simple = true) (hlen : xs.length ≤ c.size) (hg : ∀ g', E.glob g' = true → g' = g) {k : Nat} {f : FuncId} {l : List Value} {v : Value} {s' : S}
    (h : callM E k f l (SV g xs e) = some (v, s')) (hl : l.all simple = true) {l' : Array Value} (hl' : l' = l.toArray) :
    Calls P f l' w fun e w' => ∃ v', e = .returned v' ∧ (∃ β, V β v v') ∧ Below w.heap.size w w' := by
  subst hl'
  have hI : Inv w.heap.size (vrB g c.size) (SV g xs e).h.get w := by
    refine ⟨fun n o hn => ?_, fun b1 b2 o1 o2 L1 L2 hne h1 h2 _ _ _ _ _ => ?_, Nat.le_refl _⟩
    · simp only [SV, Tr.get_set, Tr.get_nil] at hn
      by_cases h0 : g = n
      · subst h0
        rw [if_pos rfl] at hn; cases hn
        refine ⟨⟨g, 0, c.size⟩, if_pos rfl, c, fz, hb, rfl, by simpa using hlen, fun i u hi => ⟨u, by rw [Nat.zero_add]; exact hx i u hi, V.of_simple ?_⟩, trivial⟩
        exact List.all_eq_true.1 hs u (List.mem_of_getElem? hi)
      · rw [if_neg h0] at hn; cases hn
    · simp only [SV, Tr.get_set, Tr.get_nil] at h1 h2
      by_cases g1 : g = b1
      · by_cases g2 : g = b2
        · exact absurd (g1.symm.trans g2) hne
        · rw [if_neg g2] at h2; cases h2
      · rw [if_neg g1] at h1; cases h1
  have hf : Fresh (vrB g c.size) (SV g xs e).nx s'.nx := fun n h1 _ => by
    have h1 : g + 1 ≤ n := h1
    show (if n = g then _ else none) = none
    rw [if_neg (by omega)]
  refine (sim_call hG.env (hG.link _) hG.resp k f l (SV g xs e) v s' _ w l.toArray h hI hf (fun g' hg' => ?_) (VL.of_simple hl)).2.mono ?_
  · rw [hg g' hg']; exact ⟨_, if_pos rfl, rfl, rfl⟩
  · rintro e w' ⟨v', he, β, hv, ho⟩
    exact ⟨v', he, ⟨β, hv⟩, ho.below⟩

end
end Go.Ideal
namespace Go.Proofs.YtmmplhfimnhcpaaGreatDoor
open Go Go.Ideal
set_option maxHeartbeats 1000000

noncomputable def powers : List Value := powL 20 1

noncomputable def nameM (args : List Value) : M Value :=
  match args with
  | [.int .u64 (.ofNat n)] => rd 1 >>= fun o =>
    match o with
    | .cells xs _ .ro => cond (eqL xs powers) (pure (.string (mkS (nameL n)))) Ideal.fail
    | _ => Ideal.fail
  | _ => Ideal.fail

theorem resp_nameM (l : List Value) : Resp (nameM l) := by
  unfold nameM
  split
  · refine Resp.bind (Resp.rd _) fun o => ?_
    split
    · exact Resp.cond (Resp.pure _) Resp.fail
    · exact Resp.fail
  · exact Resp.fail

def glob1 : Nat → Bool := fun g => Nat.beq g 1

theorem gGood : GoodG Tryz.prog gE := ⟨mkEnv_ok zMixed, ⟨zGood.resp.intr, zGood.resp.ext⟩, fun N0 => ⟨(zGood.link N0).ext, fun f g hg l s v s' β w l' a1 a2 a3 a4 a5 =>
  (zGood.link N0).intr f g hg l s v s' β w l' a1 a2 a3 (fun g' hg' => by cases hg') a5, (zGood.link N0).name⟩⟩

theorem name_ok (N0 : Nat) (E : Env) (hE : E.glob = glob1) : FunOK Tryz.prog N0 E 18 nameM := by
  intro l s v s' β w l' h hI hf hg hl
  unfold nameM at h
  split at h
  · rename_i n
    obtain ⟨o, hlt, hgb, hx⟩ := rd_bind h; clear h; have h := hx; clear hx
    obtain ⟨l'⟩ := l'
    cases hl with
    | cons hx hr =>
    cases hr
    cases hx
    obtain ⟨L, hL, hr, hsh⟩ := hg 1 (by rw [hE]; rfl)
    obtain ⟨mm, hm, hx⟩ : ∃ m : M Value, m = _ ∧ m _ = some (v, s') := ⟨_, rfl, h⟩; clear h; have h := hx; clear hx
    split at hm
    · rename_i xs t
      subst hm
      cases hq : eqL xs powers with
      | false => rw [hq] at h; cases h
      | true =>
        rw [hq] at h
        obtain ⟨rfl, rfl⟩ := pure_some.1 h
        have hxs := eqL_eq _ _ hq
        subst hxs
        obtain ⟨cc, fz, p1, p2, p3, p4, p5⟩ := hI.cells hgb hL
        rw [hr] at p1
        rw [hsh] at p3 p4
        obtain ⟨s2, hrun⟩ := name_run n t
        refine ⟨enters Tryz.func18 (by kernel_rfl) (by kernel_rfl), ?_⟩
        refine (run_var gGood p1 (xs := powers) (fun i u hi => ?_) (by kernel_rfl) (by have := p2; omega) (fun g' hg' => Nat.eq_of_beq_eq_true hg') hrun rfl rfl).mono ?_
        · obtain ⟨u', h1, h2⟩ := p4 i u hi
          rw [Nat.zero_add] at h1
          have : simple u = true := List.all_eq_true.1 (show powers.all simple = true by kernel_rfl) u (List.mem_of_getElem? hi)
          have e : u' = u := by
            cases h2 <;> first | rfl | (simp [simple] at this)
          rw [← e]; exact h1
        · rintro e w' ⟨v', rfl, ⟨β', hv⟩, hb⟩
          cases hv
          exact ⟨_, rfl, β, .string _, Ext.refl _ _ _, hI.old hb, hb.mono hI.size⟩
    · subst hm; exact (fail_some.1 h).elim
  · exact (fail_some.1 h).elim

end Go.Proofs.YtmmplhfimnhcpaaGreatDoor
