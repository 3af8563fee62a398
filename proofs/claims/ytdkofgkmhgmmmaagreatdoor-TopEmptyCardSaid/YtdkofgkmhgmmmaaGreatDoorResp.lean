/- What each operation, region, code and call of the ideal machine touches is told by its masks. -/
import Derived.Test.YtdkofgkmhgmmmaaGreatDoorDef
namespace Go.Ideal
set_option linter.all false
set_option linter.unusedSimpArgs false
set_option linter.unusedVariables false
noncomputable section
open Go Go.RowKit
set_option maxHeartbeats 1000000

section
variable {E : Env}

theorem Resp.cond {α : Type} {b : Bool} {x y : M α} (hx : Resp x) (hy : Resp y) : Resp (cond b x y) := by cases b <;> assumption

theorem resp_firstM (n size : Nat) (v : Value) : Resp (firstM n size v) := by
  unfold firstM
  repeat' (first
    | exact Resp.pure _ | exact Resp.fail | exact Resp.liftO _ | exact Resp.guardM _ | exact Resp.rd _ | exact Resp.wr _ _ | exact Resp.new _
    | (refine Resp.bind ?_ fun _ => ?_) | (refine Resp.cond ?_ ?_) | split)

theorem resp_putCells (b off : Nat) (ys : List Value) : Resp (putCells b off ys) := by
  unfold putCells
  repeat' (first
    | exact Resp.pure _ | exact Resp.fail | exact Resp.liftO _ | exact Resp.guardM _ | exact Resp.rd _ | exact Resp.wr _ _ | exact Resp.new _
    | (refine Resp.bind ?_ fun _ => ?_) | (refine Resp.cond ?_ ?_) | split)

theorem resp_eqM (t : TypeId) (xc yc : Bool) (a b : Value) : Resp (eqM E t xc yc a b) := by
  unfold eqM
  repeat' (first
    | exact Resp.pure _ | exact Resp.fail | exact Resp.liftO _ | exact Resp.guardM _ | exact Resp.rd _ | exact Resp.wr _ _ | exact Resp.new _
    | (refine Resp.bind ?_ fun _ => ?_) | (refine Resp.cond ?_ ?_) | split)

theorem resp_binM (op : BinOp) (t : TypeId) (xc yc : Bool) (a b : Value) : Resp (binM E op t xc yc a b) := by
  unfold binM
  repeat' (first
    | exact Resp.pure _ | exact Resp.fail | exact Resp.liftO _ | exact Resp.guardM _ | exact resp_eqM _ _ _ _ _
    | (refine Resp.bind ?_ fun _ => ?_) | (refine Resp.cond ?_ ?_) | split)

theorem resp_boxM (t : TypeId) (v : Value) : Resp (boxM t v) := by
  unfold boxM
  exact Resp.bind (Resp.new _) fun _ => Resp.pure _

theorem resp_newCells (j : TI) (xt : Option TypeId) (x : Value) : Resp (newCells E j xt x) := by
  unfold newCells
  repeat' (first
    | exact Resp.pure _ | exact Resp.fail | exact Resp.liftO _ | exact Resp.guardM _ | exact resp_firstM _ _ _
    | (refine Resp.bind ?_ fun _ => ?_) | (refine Resp.cond ?_ ?_) | split)

theorem resp_appendM (st xt : Option TypeId) (s x : Value) : Resp (appendM E st xt s x) := by
  unfold appendM
  repeat' (first
    | exact Resp.pure _ | exact Resp.fail | exact Resp.liftO _ | exact Resp.guardM _ | exact resp_firstM _ _ _ | exact resp_newCells _ _ _ | exact resp_putCells _ _ _
    | exact Resp.rd _ | exact Resp.wr _ _ | exact Resp.new _
    | (refine Resp.bind ?_ fun _ => ?_) | (refine Resp.cond ?_ ?_) | split)

theorem resp_builtinM (b : Builtin) (ts : List TypeId) (args : List Value) : Resp (builtinM E b ts args) := by
  unfold builtinM
  repeat' (first
    | exact Resp.pure _ | exact Resp.fail | exact Resp.liftO _ | exact resp_appendM _ _ _ _ | split)
  all_goals (first | unfold lenM | unfold copyM | unfold deleteM | unfold clearM)
  all_goals repeat' (first
    | exact Resp.pure _ | exact Resp.fail | exact Resp.liftO _ | exact Resp.guardM _ | exact resp_firstM _ _ _ | exact resp_putCells _ _ _
    | exact Resp.rd _ | exact Resp.wr _ _ | exact Resp.new _
    | (refine Resp.bind ?_ fun _ => ?_) | (refine Resp.cond ?_ ?_) | split)

theorem resp_opM (ev : Operand → Option Value) (o : Op) : Resp (opM E ev o) := by
  unfold opM o1 o2 o3 oP oO oS oPick oFn oCall oL lO1 lO2
  repeat' (first
    | exact Resp.pure _ | exact Resp.fail | exact Resp.liftO _ | exact Resp.guardM _ | exact resp_builtinM _ _ _ | exact resp_binM _ _ _ _ _ _ | exact resp_boxM _ _
    | (refine Resp.bind ?_ fun _ => ?_) | (refine Resp.cond ?_ ?_) | split)
  all_goals (first | unfold allocM | unfold buildSliceM | unfold loadM | unfold storeM | unfold convertM | unfold makeMapM | unfold makeSliceM | unfold lookupM | unfold mapUpdateM | unfold rangeM | unfold nextM | unfold entryM)
  all_goals repeat' (first
    | exact Resp.pure _ | exact Resp.fail | exact Resp.liftO _ | exact Resp.guardM _ | exact resp_firstM _ _ _ | exact resp_putCells _ _ _ | exact resp_boxM _ _
    | exact Resp.rd _ | exact Resp.wr _ _ | exact Resp.new _
    | (refine Resp.bind ?_ fun _ => ?_) | (refine Resp.cond ?_ ?_) | (unfold nextAt) | (unfold entriesM) | (unfold rangeMapM) | (unfold nextMapM) | split)

theorem resp_compareM (l : List Value) : Resp (compareM l) := by
  unfold compareM
  repeat' (first
    | exact Resp.pure _ | exact Resp.fail | exact Resp.liftO _ | exact resp_firstM _ _ _
    | (refine Resp.bind ?_ fun _ => ?_) | split)

/-- The tables' own functions touch what their masks tell. -/
structure EnvResp (E : Env) : Prop where
  intr : ∀ f g, E.intr f = some g → ∀ l, Resp (g l)
  ext : ∀ f g, E.ext f = some g → ∀ l, Resp (g l)

variable (hE : EnvResp E)

include hE in
theorem resp_operM {call : CallM} (hc : ∀ f l, Resp (call f l)) (ev : Operand → Option Value) (o : Op) : Resp (operM E call ev o) := by
  unfold operM
  repeat' (first
    | exact hc _ _ | exact Resp.fail | exact Resp.liftO _ | exact resp_opM _ _
    | (refine Resp.bind ?_ fun _ => ?_) | split)
  rename_i e he
  exact hE.ext _ _ he _

include hE in
theorem resp_stepM {call : CallM} (hc : ∀ f l, Resp (call f l)) (n : Nat) (ops : Array Oper) (o : Oper) (tm : Tr Value) : Resp (stepM E call n ops o tm) := by
  unfold stepM
  repeat' (first
    | exact Resp.liftO _ | exact resp_operM hE hc _ _
    | (refine Resp.bind ?_ fun _ => ?_) | split)

theorem Resp.iso {α : Type} {m : M α} (h : Resp m) : Resp (iso m) := by
  intro s p s' hs
  unfold Ideal.iso at hs
  cases hm : m ⟨s.h, s.nx, 0, 0⟩ with
  | none => rw [hm] at hs; cases hs
  | some q =>
    obtain ⟨a, s1⟩ := q
    rw [hm] at hs; cases hs
    obtain ⟨dr, dw, R⟩ := h _ _ _ hm
    have er : s1.r = dr := by rw [R.r]; simp
    have ew : s1.w = dw := by rw [R.w]; simp
    refine ⟨dr, dw, by simp [er], by simp [ew], R.nx, R.old, R.lim, R.fresh, fun t ht hag => ?_⟩
    obtain ⟨t1, e1, n1, a1, b1, c1, d1⟩ := R.again ⟨t.h, t.nx, 0, 0⟩ ht hag
    have fr : t1.r = dr := by rw [a1]; simp
    have fw : t1.w = dw := by rw [b1]; simp
    refine ⟨⟨t1.h, t1.nx, t.r ||| t1.r, t.w ||| t1.w⟩, ?_, n1, by simp [fr], by simp [fw], c1, d1⟩
    unfold Ideal.iso
    rw [e1]; simp only [fr, fw, er, ew]

include hE in
theorem resp_runOps {call : CallM} (hc : ∀ f l, Resp (call f l)) (n : Nat) (ops : Array Oper) : ∀ (l : List Oper) (tm : Tr Value), Resp (runOps E call n ops l tm)
  | [], _ => Resp.pure _
  | _ :: r, _ => Resp.bind (resp_stepM hE hc _ _ _ _) fun _ => resp_runOps hc n ops r _

include hE in
theorem resp_runDraw {call : CallM} (hc : ∀ f l, Resp (call f l)) (n : Nat) (ops : Array Oper) : ∀ (l : List Oper) (i : Nat) (seen : Seen) (tm : Tr Value), Resp (runDraw E call n ops l i seen tm)
  | [], _, _, _ => Resp.pure _
  | _ :: r, _, _, _ => Resp.bind (Resp.iso (resp_stepM hE hc _ _ _ _)) fun _ => Resp.bind (Resp.guardM _) fun _ => resp_runDraw hc n ops r _ _ _

include hE in
theorem resp_runRegion {call : CallM} (hc : ∀ f l, Resp (call f l)) (n : Nat) (ops : Array Oper) (d : Bool) (tm : Tr Value) : Resp (runRegion E call n ops d tm) := by
  unfold runRegion
  exact Resp.cond (Resp.bind (Resp.guardM _) fun _ => resp_runDraw hE hc _ _ _ _ _ _) (resp_runOps hE hc _ _ _ _)

include hE in
theorem resp_exec {call : CallM} (hc : ∀ f l, Resp (call f l)) (n : Nat) : ∀ (k : Nat) (c : Code) (tm : Tr Value), Resp (exec E call n k c tm) := by
  intro k
  induction k with
  | zero => intro c tm; exact Resp.fail
  | succ k ih =>
    intro c tm
    simp only [exec_succ]
    cases c <;> simp only [execF, xRegion, xSeq, xCond, xBlock, xLoop]
    all_goals repeat' (first
      | exact Resp.pure _ | exact Resp.fail | exact Resp.liftO _ | exact resp_runRegion hE hc _ _ _ _ | exact ih _ _
      | (refine Resp.bind ?_ fun _ => ?_) | (refine Resp.cond ?_ ?_) | split)

theorem resp_resultsM (tm : Tr Value) : ∀ (l : List ResultVar), Resp (resultsM E tm l)
  | [] => Resp.pure _
  | .tmp t :: r => Resp.bind (Resp.liftO _) fun _ => Resp.bind (resp_resultsM tm r) fun _ => Resp.pure _
  | .cell a t :: r => by
    unfold resultsM
    refine Resp.bind (Resp.liftO _) fun _ => Resp.bind ?_ fun _ => Resp.bind (resp_resultsM tm r) fun _ => Resp.pure _
    unfold loadM
    repeat' (first
      | exact Resp.fail | exact Resp.liftO _ | exact Resp.rd _
      | (refine Resp.bind ?_ fun _ => ?_) | split)

include hE in
theorem resp_callM : ∀ (k : Nat) (f : FuncId) (l : List Value), Resp (callM E k f l) := by
  intro k
  induction k with
  | zero => intro f l; exact Resp.fail
  | succ k ih =>
    intro f l
    unfold callM
    split
    · rename_i g hg; exact hE.intr _ _ hg _
    · repeat' (first
        | exact Resp.pure _ | exact Resp.fail | exact Resp.guardM _ | exact resp_exec hE ih _ _ _ _ | exact resp_resultsM _ _
        | (refine Resp.bind ?_ fun _ => ?_) | split)

end
end
end Go.Ideal
