/- Memos laid over an environment: a call that a memo keeps is one step, others run as before. -/
import Derived.Test.YtdkofgkmhgmmmaaGreatDoorMemo
import Derived.Test.YtdkofgkmhgmmmaaGreatDoorSimT
namespace Go.Ideal
set_option linter.all false
set_option linter.unusedSimpArgs false
set_option linter.unusedVariables false
noncomputable section
open Go Go.RowKit
set_option maxHeartbeats 1000000

/-- A call that one of the memos keeps; else the call itself. -/
def memosOr (call : List Value → M Value) : List Memo → List Value → M Value
  | [], l => call l
  | m :: r, l => fun s => cond (Nat.beq s.nx m.nx && eqL l m.args) (memoM m l s) (memosOr call r l s)

def pickF (base : FuncId → Option (List Value → M Value)) (call : CallM) : List (FuncId × List Memo) → FuncId → Option (List Value → M Value)
  | [], f => base f
  | (k, ms) :: r, f => cond (Nat.beq k f) (some (memosOr (call k) ms)) (pickF base call r f)

theorem resp_memosOr {call : List Value → M Value} (hc : ∀ l, Resp (call l)) : ∀ {ms : List Memo}, ms.all memoShape = true → ∀ l, Resp (memosOr call ms l)
  | [], _, l => hc l
  | m :: r, h, l => by
    simp only [List.all_cons, Bool.and_eq_true] at h
    intro s v s' hs
    unfold memosOr at hs
    cases hc' : Nat.beq s.nx m.nx && eqL l m.args with
    | true =>
      rw [hc'] at hs
      obtain ⟨dr, dw, R⟩ := resp_memoM h.1 l _ _ _ hs
      refine ⟨dr, dw, R.r, R.w, R.nx, R.old, R.lim, R.fresh, fun t ht hag => ?_⟩
      obtain ⟨t', e, rest⟩ := R.again t ht hag
      refine ⟨t', ?_, rest⟩
      unfold memosOr
      rw [ht, hc']; exact e
    | false =>
      rw [hc'] at hs
      obtain ⟨dr, dw, R⟩ := resp_memosOr hc (ms := r) h.2 l _ _ _ hs
      refine ⟨dr, dw, R.r, R.w, R.nx, R.old, R.lim, R.fresh, fun t ht hag => ?_⟩
      obtain ⟨t', e, rest⟩ := R.again t ht hag
      refine ⟨t', ?_, rest⟩
      unfold memosOr
      rw [ht, hc']; exact e

section
variable {P : Program} {N0 : Nat → Prop} {E : Env}

theorem memosOr_ok {E2 : Env} {f : FuncId} {call : List Value → M Value} (hc : FunOK P N0 E2 f call) : ∀ {ms : List Memo}, (∀ m, m ∈ ms → FunOK P N0 E2 f (memoM m)) → FunOK P N0 E2 f (memosOr call ms)
  | [], _ => hc
  | m :: r, hm => by
    intro l s v s' β w l' h
    unfold memosOr at h
    cases hc' : Nat.beq s.nx m.nx && eqL l m.args with
    | true => rw [hc'] at h; exact hm m List.mem_cons_self l s v s' β w l' h
    | false => rw [hc'] at h; exact memosOr_ok hc (ms := r) (fun m h => hm m (List.mem_cons_of_mem _ h)) l s v s' β w l' h

/-- The environment under the memos: good for calls. -/
structure Good (P : Program) (E : Env) : Prop where
  env : EnvOK P E
  resp : EnvResp E
  link : ∀ N0, LinkOK P N0 E
  glob : ∀ g, E.glob g = false

/-- A memo that its run bears out. -/
structure Borne (E : Env) (k : FuncId) (m : Memo) : Prop where
  f : m.f = k
  shape : memoShape m = true
  run : ∃ d, memoRun E d m = true

theorem Good.layer {glob : Nat → Bool} {base ext : FuncId → Option (List Value → M Value)} (h : Good P (mkEnv P glob base ext)) (d : Nat) {ms : List (FuncId × List Memo)}
    (hm : ∀ k l, (k, l) ∈ ms → ∀ m, m ∈ l → Borne (mkEnv P glob base ext) k m) :
    Good P (mkEnv P glob (pickF base (callM (mkEnv P glob base ext) d) ms) ext) := by
  have hR := resp_callM h.resp
  have hrp : ∀ (ms : List (FuncId × List Memo)), (∀ k l, (k, l) ∈ ms → ∀ m, m ∈ l → Borne (mkEnv P glob base ext) k m) → ∀ f g, pickF base (callM (mkEnv P glob base ext) d) ms f = some g → ∀ l, Resp (g l) := by
    intro ms
    induction ms with
    | nil => intro _ f g hg; exact h.resp.intr f g hg
    | cons p r ih =>
      intro hm f g hg
      obtain ⟨k, l⟩ := p
      unfold pickF at hg
      cases hk : Nat.beq k f with
      | true =>
        rw [hk] at hg; cases hg
        refine resp_memosOr (hR d k) (List.all_eq_true.2 fun m hm' => (hm k l List.mem_cons_self m hm').shape)
      | false => rw [hk] at hg; exact ih (fun k l h => hm k l (List.mem_cons_of_mem _ h)) f g hg
  have hfn : ∀ N0 (ms : List (FuncId × List Memo)), (∀ k l, (k, l) ∈ ms → ∀ m, m ∈ l → Borne (mkEnv P glob base ext) k m) → ∀ f g, pickF base (callM (mkEnv P glob base ext) d) ms f = some g →
      ∀ E2 : Env, E2.glob = glob → FunOK P N0 E2 f g := by
    intro N0 ms
    induction ms with
    | nil =>
      intro _ f g hg E2 he l s v s' β w l' a1 a2 a3 a4 a5
      exact (h.link N0).intr f g hg l s v s' β w l' a1 a2 a3 (fun g' hg' => a4 g' (by rw [he]; exact hg')) a5
    | cons p r ih =>
      intro hm f g hg E2 he
      obtain ⟨k, l⟩ := p
      unfold pickF at hg
      cases hk : Nat.beq k f with
      | true =>
        have := Nat.eq_of_beq_eq_true hk; subst this
        rw [hk] at hg; cases hg
        have hC := sim_call h.env (h.link N0) h.resp
        have hCall : FunOK P N0 E2 k (callM (mkEnv P glob base ext) d k) := fun l s v s' β w l' a1 a2 a3 a4 a5 =>
          hC d k l s v s' β w l' a1 a2 a3 (fun g' hg' => a4 g' (by rw [he]; exact hg')) a5
        refine memosOr_ok hCall fun m hm' => ?_
        have hb := hm k l List.mem_cons_self m hm'
        obtain ⟨d', hr⟩ := hb.run
        have := memo_ok (hR d') (E' := E2) (by rw [he]; rfl) (hC d') hr
        rw [hb.f] at this
        exact this
      | false => rw [hk] at hg; exact ih (fun k l h => hm k l (List.mem_cons_of_mem _ h)) f g hg E2 he
  exact ⟨mkEnv_ok h.env.mixed, ⟨hrp ms hm, h.resp.ext⟩, fun N0 => ⟨(h.link N0).ext, fun f g hg => hfn N0 ms hm f g hg _ rfl, (h.link N0).name⟩, h.glob⟩

theorem Good.closed {glob : Nat → Bool} {base ext : FuncId → Option (List Value → M Value)} (h : Good P (mkEnv P glob base ext)) {k : FuncId} (hen : Enters P k)
    (hy : ∀ w, Calls P k #[] w fun e w' => e = .returned (.bool true) ∧ RowKit.Below w.heap.size w w') : Good P (mkEnv P glob (fun f => cond (Nat.beq k f) (some yesM) (base f)) ext) := by
  have key : ∀ {f g}, cond (Nat.beq k f) (some yesM) (base f) = some g → (k = f ∧ g = yesM) ∨ base f = some g := by
    intro f g hg
    cases hk : Nat.beq k f with
    | true => rw [hk] at hg; cases hg; exact .inl ⟨Nat.eq_of_beq_eq_true hk, rfl⟩
    | false => rw [hk] at hg; exact .inr hg
  refine ⟨mkEnv_ok h.env.mixed, ⟨fun f g hg => ?_, h.resp.ext⟩, fun N0 => ⟨(h.link N0).ext, fun f g hg => ?_, (h.link N0).name⟩, h.glob⟩
  · rcases key hg with ⟨rfl, rfl⟩ | hg
    · exact resp_yesM
    · exact h.resp.intr f g hg
  · rcases key hg with ⟨rfl, rfl⟩ | hg
    · exact intr_closed hen hy
    · intro l s v s' β w l' a1 a2 a3 a4 a5
      exact (h.link N0).intr f g hg l s v s' β w l' a1 a2 a3 a4 a5

end
end
end Go.Ideal
