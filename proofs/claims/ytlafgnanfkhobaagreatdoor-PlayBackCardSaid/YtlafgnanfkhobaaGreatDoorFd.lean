/- Code, and calls. -/
import Derived.Test.YtlafgnanfkhobaaGreatDoorFc
import Derived.Scope
import Derived.Test.YtlafgnanfkhobaaGreatDoorFa
import Derived.Laws.Externs
import Derived.RowKit3
import Derived.ChangeSame
import Derived.Below
import Derived.Sort.KeysCollected
namespace Go.Ideal
set_option linter.all false
set_option linter.unusedSimpArgs false
set_option linter.unusedVariables false
noncomputable section
open Go Go.RowKit
set_option maxHeartbeats 1000000
def LoopWp (P : Program) (c : Code) (Q : Exit → Act → World → Prop) (a : Act) (w : World) : Prop :=
 ∀ (b : Frame) (k : List Item) (cs : List Frame),∃ e a' w',Q e a' w' ∧ Arrives P (lone (b.at a (.code c :: .inLoop c :: k)) cs w) b k cs e a' w'
section
variable {P : Program} {E : Env} {N0 : Nat → Prop} {n : Nat} {call : CallM}
theorem LoopWp.wp {c : Code} {Q : Exit → Act → World → Prop} {a : Act} {w : World} (h : LoopWp P c Q a w) : (Code.loop c).wp P Q a w :=
 fun b k cs => let ⟨e,a',w',hq,harr⟩ :=h b k cs;⟨e,a',w',hq,.of_steps (.one step_loop) harr⟩
theorem LoopWp.round {c : Code} {Q : Exit → Act → World → Prop} {a : Act} {w : World} (h : c.wp P (Exit.then (LoopWp P c Q) Q) a w) : LoopWp P c Q a w :=by
 intro b k cs
 obtain ⟨e,a₁,w₁,hq,harr⟩ :=h b (.inLoop c :: k) cs
 cases e with
 | normal =>
  obtain ⟨e₂,a₂,w₂,hq₂,harr₂⟩ :=hq b k cs
  exact ⟨e₂,a₂,w₂,hq₂,.of_steps (Steps.trans harr (.one step_inLoop)) harr₂⟩
 | exit id => exact ⟨_,a₁,w₁,hq,.pass (x :=.inLoop c) rfl (fun _ _ => .inl (by simp)) harr⟩
 | goto l => exact ⟨_,a₁,w₁,hq,.pass (x :=.inLoop c) rfl (fun _ _ => .inl (by simp)) harr⟩
 | ret => exact ⟨_,a₁,w₁,hq,.pass (x :=.inLoop c) rfl (fun _ _ => .inl (by simp)) harr⟩
 | panic ch => exact ⟨_,a₁,w₁,hq,.pass (x :=.inLoop c) rfl (fun _ _ => .inl (by simp)) harr⟩
 | outgrown => exact ⟨_,a₁,w₁,hq,.pass (x :=.inLoop c) rfl (fun _ _ => .inl (by simp)) harr⟩
def ExR : Exit → Ex → Prop
 | .normal,.normal => True
 | .exit i,.exit j => i = j
 | .ret,.ret => True
 | _,_ => False
def Post (N0 : Nat → Prop) (n : Nat) (β : Bij) (s : S) (w : World) (e : Ex) (tm' : Tr Value) (s' : S) : Exit → Act → World → Prop :=
 fun ex a' w' => ExR ex e ∧ ∃ β',TS β' n tm' a' ∧ Out N0 β s w s' β' w'
theorem sim_exec (hE : EnvOK P E) (hX : LinkOK P N0 E) (hR : EnvResp E) (hc : CallOK P N0 E call) (hr : ∀ f l,Resp (call f l)) :
  ∀ (k : Nat) (c : Code) (tm : Tr Value) (s : S) (e : Ex) (tm' : Tr Value) (s' : S) (β : Bij) (w : World) (a : Act),
   exec E call n k c tm s = some ((e,tm'),s') → Inv N0 β s.h.get w → Fresh β s.nx s'.nx → Globs E β → TS β n tm a →
   c.wp P (Post N0 n β s w e tm' s') a w ∧ ∀ c',c = .loop c' → LoopWp P c' (Post N0 n β s w e tm' s') a w :=by
 intro k
 induction k with
 | zero => intro c tm s e tm' s' β w a h;exact (fail_some.1 (show (fail : M (Ex × Tr Value)) s = some ((e,tm'),s') from h)).elim
 | succ k ih =>
  intro c tm s e tm' s' β w a h hI hf hg ht
  have me : Post N0 n β s w e tm' s' = Post N0 n β s w e tm' s' :=rfl
  have chain : ∀ {e1 : Ex} {tm1 : Tr Value} {s1 : S} {c1 : Code},exec E call n k c1 tm s = some ((e1,tm1),s1) → s1.nx ≤ s'.nx →
    ∀ {Q : Exit → Act → World → Prop},(∀ ex β1 w1 a1,ExR ex e1 → TS β1 n tm1 a1 → Out N0 β s w s1 β1 w1 → Fresh β1 s1.nx s'.nx → Globs E β1 → Q ex a1 w1) → c1.wp P Q a w :=by
   intro e1 tm1 s1 c1 h1 hn Q hq
   have n1 :=Resp.mono_nx (resp_exec hR hr n k c1 tm) h1
   refine wp_mono (ih c1 tm s e1 tm1 s1 β w a h1 hI (hf.left hn) hg ht).1 ?_
   rintro ex a1 w1 ⟨hx,β1,ht1,ho1⟩
   exact hq ex β1 w1 a1 hx ht1 ho1 (hf.right ho1 n1) (hg.mono ho1.ext.keep)
  rw [exec_succ] at h
  cases c <;> simp only [execF,xRegion,xSeq,xCond,xBlock,xLoop] at h <;> first | exact (fail_some.1 h).elim | skip
  case skip =>
   obtain ⟨e1,rfl⟩ :=pure_some.1 h;cases e1
   exact ⟨wp_skip ⟨trivial,β,ht,Out.same hI rfl⟩,fun c' e => by cases e⟩
  case label l =>
   obtain ⟨e1,rfl⟩ :=pure_some.1 h;cases e1
   exact ⟨wp_label ⟨trivial,β,ht,Out.same hI rfl⟩,fun c' e => by cases e⟩
  case exit id =>
   obtain ⟨e1,rfl⟩ :=pure_some.1 h;cases e1
   exact ⟨wp_exit ⟨rfl,β,ht,Out.same hI rfl⟩,fun c' e => by cases e⟩
  case ret =>
   obtain ⟨e1,rfl⟩ :=pure_some.1 h;cases e1
   exact ⟨wp_ret ⟨trivial,β,ht,Out.same hI rfl⟩,fun c' e => by cases e⟩
  case region id ops d =>
   obtain ⟨tm1,s1,h1,h2⟩ :=bind_some.1 h
   obtain ⟨e1,rfl⟩ :=pure_some.1 h2;cases e1
   exact ⟨sim_region hE hX hR hc hr h1 hI hf hg ht fun β' w' a' ht' ho' => ⟨trivial,β',ht',ho'⟩,fun c' e => by cases e⟩
  case seq x y =>
   refine ⟨wp_seq ?_,fun c' e => by cases e⟩
   obtain ⟨⟨e1,tm1⟩,s1,h1,h2⟩ :=bind_some.1 h
   have n1 :=Resp.mono_nx (resp_exec hR hr n k x tm) h1
   cases e1 with
   | normal =>
    simp only at h2
    have n2 :=Resp.mono_nx (resp_exec hR hr n k y tm1) h2
    refine chain h1 n2 ?_
    intro ex β1 w1 a1 hx ht1 ho1 hf1 hg1
    cases ex <;> simp only [ExR] at hx
    show y.wp P _ a1 w1
    refine wp_mono (ih y tm1 s1 e tm' s' β1 w1 a1 h2 ho1.inv hf1 hg1 ht1).1 ?_
    rintro ex a2 w2 ⟨hx2,β2,ht2,ho2⟩
    exact ⟨hx2,β2,ht2,ho1.trans ho2 n1 n2⟩
   | exit i =>
    obtain ⟨e1,rfl⟩ :=pure_some.1 h2;cases e1
    refine chain h1 (Nat.le_refl _) ?_
    intro ex β1 w1 a1 hx ht1 ho1 hf1 hg1
    cases ex <;> simp only [ExR] at hx
    exact ⟨hx,β1,ht1,ho1⟩
   | ret =>
    obtain ⟨e1,rfl⟩ :=pure_some.1 h2;cases e1
    refine chain h1 (Nat.le_refl _) ?_
    intro ex β1 w1 a1 hx ht1 ho1 hf1 hg1
    cases ex <;> simp only [ExR] at hx
    exact ⟨trivial,β1,ht1,ho1⟩
  case cond c x y =>
   refine ⟨?_,fun c' e => by cases e⟩
   obtain ⟨q,hq,h⟩ :=lift_bind h
   have hv :=ht.eval hg c q hq
   cases q <;> simp only at h <;> first | exact (fail_some.1 h).elim | skip
   rename_i t
   generalize hr' : a.eval c = q' at hv
   cases hv
   refine wp_cond hr' ?_
   cases t with
   | true => exact (ih x tm s e tm' s' β w a h hI hf hg ht).1
   | false => exact (ih y tm s e tm' s' β w a h hI hf hg ht).1
  case block id x =>
   refine ⟨wp_block ?_,fun c' e => by cases e⟩
   obtain ⟨⟨e1,tm1⟩,s1,h1,h2⟩ :=bind_some.1 h
   cases e1 with
   | normal =>
    obtain ⟨e1,rfl⟩ :=pure_some.1 h2;cases e1
    refine chain h1 (Nat.le_refl _) ?_
    intro ex β1 w1 a1 hx ht1 ho1 hf1 hg1
    cases ex <;> simp only [ExR] at hx
    exact ⟨trivial,β1,ht1,ho1⟩
   | ret =>
    obtain ⟨e1,rfl⟩ :=pure_some.1 h2;cases e1
    refine chain h1 (Nat.le_refl _) ?_
    intro ex β1 w1 a1 hx ht1 ho1 hf1 hg1
    cases ex <;> simp only [ExR] at hx
    exact ⟨trivial,β1,ht1,ho1⟩
   | exit i =>
    simp only at h2
    cases hb : Nat.beq i id with
    | true =>
     rw [hb] at h2
     obtain ⟨e1,rfl⟩ :=pure_some.1 h2;cases e1
     have hb :=Nat.eq_of_beq_eq_true hb
     refine chain h1 (Nat.le_refl _) ?_
     intro ex β1 w1 a1 hx ht1 ho1 hf1 hg1
     cases ex <;> simp only [ExR] at hx
     simp only [Exit.inBlock,hx,hb,if_true]
     exact ⟨trivial,β1,ht1,ho1⟩
    | false =>
     rw [hb] at h2
     obtain ⟨e1,rfl⟩ :=pure_some.1 h2;cases e1
     have hb : ¬ i = id :=by intro e;subst e;rw [Nat.beq_refl] at hb;cases hb
     refine chain h1 (Nat.le_refl _) ?_
     intro ex β1 w1 a1 hx ht1 ho1 hf1 hg1
     cases ex <;> simp only [ExR] at hx
     simp only [Exit.inBlock,hx,hb,if_false]
     exact ⟨rfl,β1,ht1,ho1⟩
  case loop x =>
   have key : LoopWp P x (Post N0 n β s w e tm' s') a w :=by
    refine LoopWp.round ?_
    obtain ⟨⟨e1,tm1⟩,s1,h1,h2⟩ :=bind_some.1 h
    have n1 :=Resp.mono_nx (resp_exec hR hr n k x tm) h1
    cases e1 with
    | normal =>
     simp only at h2
     have n2 :=Resp.mono_nx (resp_exec hR hr n k (.loop x) tm1) h2
     refine chain h1 n2 ?_
     intro ex β1 w1 a1 hx ht1 ho1 hf1 hg1
     cases ex <;> simp only [ExR] at hx
     intro b kk cs
     obtain ⟨ex,a2,w2,⟨hx2,β2,ht2,ho2⟩,harr⟩ :=(ih (.loop x) tm1 s1 e tm' s' β1 w1 a1 h2 ho1.inv hf1 hg1 ht1).2 x rfl b kk cs
     exact ⟨ex,a2,w2,⟨hx2,β2,ht2,ho1.trans ho2 n1 n2⟩,harr⟩
    | exit i =>
     obtain ⟨e1,rfl⟩ :=pure_some.1 h2;cases e1
     refine chain h1 (Nat.le_refl _) ?_
     intro ex β1 w1 a1 hx ht1 ho1 hf1 hg1
     cases ex <;> simp only [ExR] at hx
     exact ⟨hx,β1,ht1,ho1⟩
    | ret =>
     obtain ⟨e1,rfl⟩ :=pure_some.1 h2;cases e1
     refine chain h1 (Nat.le_refl _) ?_
     intro ex β1 w1 a1 hx ht1 ho1 hf1 hg1
     cases ex <;> simp only [ExR] at hx
     exact ⟨trivial,β1,ht1,ho1⟩
   exact ⟨key.wp,fun c' e => by cases e;exact key⟩
  case scope x =>
   refine ⟨wp_scope_straight ?_,fun c' e => by cases e⟩
   refine chain h (Nat.le_refl _) ?_
   intro ex β1 w1 a1 hx ht1 ho1 hf1 hg1
   cases ex with
   | goto l => exact hx.elim
   | _ => exact ⟨hx,β1,ht1,ho1⟩
end
end
end Go.Ideal

namespace Go.Ideal
set_option linter.all false
set_option linter.unusedSimpArgs false
set_option linter.unusedVariables false
noncomputable section
open Go Go.RowKit
set_option maxHeartbeats 1000000
section
variable {P : Program} {E : Env} {N0 : Nat → Prop} {n : Nat}
theorem argsT_get : ∀ (l : List Value) (i : Nat) (t : Tr Value) (j : Nat),(argsT l i t).get j = if i ≤ j ∧ j < i + l.length then l[j - i]? else t.get j
 | [],i,t,j => by
  have : ¬ (i ≤ j ∧ j < i + ([] : List Value).length) :=by simp
  rw [if_neg this];rfl
 | v :: r,i,t,j => by
  unfold argsT
  rw [argsT_get r (i + 1) _ j,Tr.get_set]
  by_cases e : i = j
  ·subst e
   have h1 : ¬ (i + 1 ≤ i ∧ i < i + 1 + r.length) :=by omega
   have h2 : i ≤ i ∧ i < i + (v :: r).length :=by simp
   rw [if_neg h1,if_pos rfl,if_pos h2];simp
  ·rw [if_neg e]
   by_cases h1 : i + 1 ≤ j ∧ j < i + 1 + r.length
   ·have h2 : i ≤ j ∧ j < i + (v :: r).length :=by simp;omega
    rw [if_pos h1,if_pos h2]
    have : j - i = (j - (i + 1)) + 1 :=by omega
    rw [this];rfl
   ·have h2 : ¬ (i ≤ j ∧ j < i + (v :: r).length) :=by simp;omega
    rw [if_neg h1,if_neg h2]
theorem sim_loadVarM (hE : EnvOK P E) {β : Bij} {s s' : S} {w : World} (hI : Inv N0 β s.h.get w) {t : TypeId} {a a' v : Value} (h : loadM E t a s = some (v,s')) (ha : V β a a') :
  ∃ v',(do loadVar t (← asAddr a') : Sem Value).run P w = .ok v' w ∧ V β v v' ∧ s'.h = s.h ∧ s'.nx = s.nx :=by
 obtain ⟨v',r,hv,e1,e2⟩ :=sim_loadM hE hI h ha
 refine ⟨v',?_,hv,e1,e2⟩
 cases hi : E.ti t with
 | none => simp only [loadM,hi] at h;exact (fail_some.1 h).elim
 | some i =>
 cases ha with
 | ptr hL => simpa only [Instr.loadAt,Sem.run_bind,Instr.sureAddr,asAddr,Sem.run_pure,Result.andThen_ok] using r
 | _ => simp only [loadM,hi] at h;exact (fail_some.1 h).elim
def resF (tmps : Array Value) : ResultVar → Sem Value
 | .tmp t => pure (tmps.getD t undef)
 | .cell a t => do loadVar t (← asAddr (tmps.getD a undef))
theorem sim_results (hE : EnvOK P E) {β : Bij} {w : World} {tm : Tr Value} {a : Act} (ht : TS β n tm a) : ∀ (l : List ResultVar) (s : S) (vs : List Value) (s' : S),
  resultsM E tm l s = some (vs,s') → Inv N0 β s.h.get w → ∃ vs',(l.mapM (resF a.tmps)).run P w = .ok vs' w ∧ VL β vs vs' ∧ s'.h = s.h ∧ s'.nx = s.nx
 | [],s,vs,s',h,hI => by
  obtain ⟨rfl,rfl⟩ :=pure_some.1 h
  exact ⟨[],by simp,.nil,rfl,rfl⟩
 | .tmp t :: r,s,vs,s',h,hI => by
  unfold resultsM at h
  obtain ⟨v,hv,h⟩ :=lift_bind h
  obtain ⟨vs1,s1,h1,h2⟩ :=bind_some.1 h
  obtain ⟨rfl,rfl⟩ :=pure_some.1 h2
  obtain ⟨vs',r',hvl,e1,e2⟩ :=sim_results hE ht r s vs1 s' h1 hI
  obtain ⟨v',h3,h4⟩ :=ht.rel t v hv
  refine ⟨v' :: vs',?_,.cons h4 hvl,e1,e2⟩
  simp only [List.mapM_cons,Sem.run_bind,resF,Sem.run_pure,Result.andThen_ok,r',Array.getD_eq_getD_getElem?,h3,Option.getD_some]
 | .cell x t :: r,s,vs,s',h,hI => by
  unfold resultsM at h
  obtain ⟨p,hp,h⟩ :=lift_bind h
  obtain ⟨v,s1,h1,h⟩ :=bind_some.1 h
  obtain ⟨vs1,s2,h2,h3⟩ :=bind_some.1 h
  obtain ⟨rfl,rfl⟩ :=pure_some.1 h3
  obtain ⟨p',h4,h5⟩ :=ht.rel x p hp
  obtain ⟨v',r1,hv,e1,e2⟩ :=sim_loadVarM hE hI h1 h5
  have hI1 : Inv N0 β s1.h.get w :=by rw [e1];exact hI
  obtain ⟨vs',r',hvl,e3,e4⟩ :=sim_results hE ht r s1 vs1 s' h2 hI1
  refine ⟨v' :: vs',?_,.cons hv hvl,by rw [e3,e1],by rw [e4,e2]⟩
  rw [List.mapM_cons,Sem.run_bind]
  have : (resF a.tmps (.cell x t)).run P w = .ok v' w :=by
   have e : a.tmps.getD x undef = p' :=by rw [Array.getD_eq_getD_getElem?,h4];rfl
   show (do loadVar t (← asAddr (a.tmps.getD x undef)) : Sem Value).run P w = .ok v' w
   rw [e]
   exact r1
  rw [this]
  simp only [Result.andThen_ok,Sem.run_bind,r',Sem.run_pure]
theorem run_results {fn : Func} {tmps : Array Value} {w : World} {vs' : List Value} (h : (fn.results.toList.mapM (resF tmps)).run P w = .ok vs' w) :
  (results fn tmps).run P w = .ok (oneOf vs') w :=by
 have e : results fn tmps = (do let vs ← fn.results.mapM (resF tmps);pure (if h : vs.size = 1 then vs[0] else .tuple vs)) :=by
  unfold results
  congr 1
 rw [e,Array.mapM_eq_mapM_toList,map_eq_pure_bind]
 simp only [Sem.run_bind,h,Result.andThen_ok,Sem.run_pure]
 match vs' with
 | [] => rfl
 | [v] => rfl
 | v :: u :: r =>
  have : ¬ ((v :: u :: r).toArray.size = 1) :=by simp
  rw [dif_neg this];rfl
theorem VL.oneOf {β : Bij} {l l' : List Value} (h : VL β l l') : V β (oneOf l) (oneOf l') :=by
 cases h with
 | nil => exact .tuple .nil
 | cons h1 h2 => cases h2 with
  | nil => exact h1
  | cons h2 h3 => exact .tuple (.cons h1 (.cons h2 h3))
theorem sim_call (hE : EnvOK P E) (hX : LinkOK P N0 E) (hR : EnvResp E) : ∀ k,CallOK P N0 E (callM E k) :=by
 intro k
 induction k with
 | zero => intro f l s v s' β w l' h;exact (fail_some.1 h).elim
 | succ k ih =>
  intro f l s v s' β w l' h hI hf hg hl
  have hr :=resp_callM hR k
  unfold callM at h
  cases hi : E.intr f with
  | some g =>
   rw [hi] at h
   exact hX.intr f g hi l s v s' β w l' h hI hf hg hl
  | none =>
   rw [hi] at h;simp only at h
   cases hfn : E.fn f with
   | none => rw [hfn] at h;exact (fail_some.1 h).elim
   | some fn =>
    rw [hfn] at h;simp only at h
    cases hb : fn.body with
    | none => rw [hb] at h;exact (fail_some.1 h).elim
    | some c =>
     rw [hb] at h;simp only at h
     refine ⟨⟨fn,hE.fn f fn hfn,hX.name f fn hfn,by rw [hb];rfl⟩,?_⟩
     obtain ⟨_,s0,h0,h'⟩ :=bind_some.1 h
     obtain ⟨hle,rfl⟩ :=guardM_some.1 h0
     obtain ⟨⟨e,tm⟩,s1,h1,h2⟩ :=bind_some.1 h'
     have hll : l.length = l'.size :=by rw [VL.length hl,Array.length_toList]
     have hle :=ble_iff.1 hle
     have hts : TS β fn.ntmps (argsT l 0 .nil) { tmps :=l' ++ Array.replicate (fn.ntmps - l'.size) undef,defers :=[] } :=by
      refine ⟨by simp;omega,rfl,fun i u hu => ?_⟩
      rw [argsT_get] at hu
      by_cases hc : 0 ≤ i ∧ i < 0 + l.length
      ·rw [if_pos hc,Nat.sub_zero] at hu
       obtain ⟨u',h3,h4⟩ :=VL.get hl hu
       refine ⟨u',?_,h4⟩
       rw [Array.getElem?_append_left (by omega)]
       rw [Array.getElem?_toList] at h3
       exact h3
      ·rw [if_neg hc] at hu;cases hu
     have n1 :=Resp.mono_nx (resp_exec hR hr fn.ntmps E.fuel c _) h1
     have key : ∀ vs,resultsM E tm fn.results.toList s1 = some (vs,s') → v = oneOf vs → (match e with | .exit _ => False | _ => True) →
       Calls P f l' w fun e w' => ∃ v',e = .returned v' ∧ ∃ β',V β' v v' ∧ Out N0 β s0 w s' β' w' :=by
      intro vs hvs hv he
      have n2 :=Resp.mono_nx (resp_resultsM (E :=E) tm fn.results.toList) hvs
      refine calls_of_wp (hE.fn f fn hfn) hb ?_
      refine wp_mono (sim_exec hE hX hR ih hr E.fuel c _ s0 e tm s1 β w _ h1 hI (hf.left n2) hg hts).1 ?_
      rintro ex a1 w1 ⟨hx,β1,ht1,ho1⟩
      obtain ⟨vs',r,hvl,e1,e2⟩ :=sim_results hE ht1 fn.results.toList s1 vs s' hvs ho1.inv
      have fin : ∃ v',(results fn a1.tmps).run P w1 = .ok v' w1 ∧ ∃ v'',Ending.returned v' = .returned v'' ∧ ∃ β',V β' v v'' ∧ Out N0 β s0 w s' β' w1 :=by
       refine ⟨oneOf vs',run_results r,_,rfl,β1,by rw [hv];exact hvl.oneOf,?_⟩
       exact ho1.trans (Out.same ho1.inv e1) n1 n2
      cases e with
      | exit i => exact he.elim
      | normal => cases ex <;> simp only [ExR] at hx;exact ⟨ht1.defers,fin⟩
      | ret => cases ex <;> simp only [ExR] at hx;exact ⟨ht1.defers,fin⟩
     cases e with
     | exit i => exact (fail_some.1 h2).elim
     | normal =>
      obtain ⟨vs,s2,h3,h4⟩ :=bind_some.1 h2
      obtain ⟨rfl,rfl⟩ :=pure_some.1 h4
      exact key vs h3 rfl trivial
     | ret =>
      obtain ⟨vs,s2,h3,h4⟩ :=bind_some.1 h2
      obtain ⟨rfl,rfl⟩ :=pure_some.1 h4
      exact key vs h3 rfl trivial
end
end
end Go.Ideal

namespace Go.Ideal
set_option linter.all false
set_option linter.unusedSimpArgs false
set_option linter.unusedVariables false
noncomputable section
open Go Go.RowKit
def mkTI (P : Program) (t : TypeId) : Option TI :=
 match P.info? t,P.underlying t with
 | some i,some d => match i.zero with
  | some z => cond ((cellsL z).all simple && Nat.beq (cellsL z).length i.size)
   (match d with
    | .struct fs => match fieldsOf P fs.toList with
      | some l => some ⟨d,i.size,i.bytes,z,l,eqOK P t d⟩
      | none => none
    | d => some ⟨d,i.size,i.bytes,z,[],eqOK P t d⟩)
   none
  | none => none
 | _,_ => none
def mkEnv (P : Program) (glob : Nat → Bool) (intr ext : FuncId → Option (List Value → M Value)) : Env :=
 { ti :=mkTI P,fn :=fun f => P.funcs[f]?,glob,intr,ext,fuel :=1000000000 }
def S0 : S :=⟨.nil,0,0,0⟩
def isTrue : Option (Value × S) → Bool
 | some (.bool true,_) => true
 | _ => false
end
end Go.Ideal

namespace Go.Ideal
set_option linter.all false
set_option linter.unusedSimpArgs false
set_option linter.unusedVariables false
noncomputable section
open Go Go.RowKit
set_option maxHeartbeats 1000000
section
variable {P : Program} {E : Env} {N0 : Nat → Prop} {β : Bij} {w : World} {s s' : S}
theorem run_loadBytes {r : Nat} {c : Array Value} {e : TypeId} {fz : Nat × Nat} (h : w.heap[r]? = some (.cells c e fz)) :
  ∀ (ys : List Value) (bs : List UInt8) (k : Nat) (acc : ByteArray),byteL ys = some bs → (∀ i v,ys[i]? = some v → c[k + i]? = some v) →
   (Extern.Bytes.loadBytes ⟨r,k,none⟩ ys.length acc).run P w = .ok ⟨⟨acc.data.toList ++ bs⟩⟩ w
 | [],bs,k,acc,hb,_ => by
  simp only [byteL] at hb;cases hb
  simp [Extern.Bytes.loadBytes]
 | x :: ys,bs,k,acc,hb,hc => by
  unfold byteL at hb
  split at hb
  ·rename_i heq;cases heq
  ·rename_i m r' heq
   cases heq
   cases hq : byteL ys with
   | none => rw [hq] at hb;cases hb
   | some l =>
    rw [hq] at hb;cases hb
    have h0 : c[k]? = some (.int .u8 m) :=hc 0 _ rfl
    simp only [List.length_cons,Extern.Bytes.loadBytes,Sem.run_bind,rLoad h h0,Result.andThen_ok]
    have ih :=run_loadBytes h ys l (k + 1) (acc.push m.toNat.toUInt8) hq fun i v hi => by
     have :=hc (i + 1) v (by simpa using hi)
     rw [Nat.add_assoc,Nat.add_comm 1 i];exact this
    have ea : (⟨r,k,none⟩ : Addr).add 1 = ⟨r,k + 1,none⟩ :=rfl
    rw [ea,ih]
    simp [ByteArray.push]
  ·cases hb
theorem sim_bytesOf (hI : Inv N0 β s.h.get w) {n c : Nat} {a : Option Addr} {x' : Value} {ys : List Value} {bs : List UInt8} (h : firstM n 1 (.slice a n c) s = some (ys,s'))
  (hb : byteL ys = some bs) (hx : V β (.slice a n c) x') : (Extern.Bytes.bytesOf x').run P w = .ok ⟨⟨bs⟩⟩ w ∧ s'.h = s.h ∧ s'.nx = s.nx :=by
 cases hx with
 | nilsl =>
  simp only [firstM] at h
  obtain ⟨rfl,rfl⟩ :=pure_some.1 h
  simp only [byteL] at hb;cases hb
  exact ⟨rfl,rfl,rfl⟩
 | slz A A' h1 h2 =>
  simp only [firstM,Nat.zero_mul] at h
  obtain ⟨rfl,rfl⟩ :=pure_some.1 h
  simp only [byteL] at hb;cases hb
  exact ⟨rfl,rfl,rfl⟩
 | sl0 A A' =>
  simp only [firstM,Nat.zero_mul] at h
  obtain ⟨rfl,rfl⟩ :=pure_some.1 h
  simp only [byteL] at hb;cases hb
  exact ⟨rfl,rfl,rfl⟩
 | sl hL hcap =>
  rename_i b off cap' L
  simp only [firstM] at h
  cases hn : Nat.beq (n * 1) 0 with
  | true =>
   rw [hn] at h
   obtain ⟨rfl,rfl⟩ :=pure_some.1 h
   simp only [byteL] at hb;cases hb
   have : n = 0 :=by have :=Nat.eq_of_beq_eq_true hn;omega
   subst this
   exact ⟨rfl,rfl,rfl⟩
  | false =>
   rw [hn] at h
   have hle : Nat.ble n n = true :=ble_iff.2 (Nat.le_refl _)
   rw [hle] at h
   simp only [cond_true,cond_false] at h
   obtain ⟨o,s1,h1,h2⟩ :=bind_some.1 h
   obtain ⟨_,hg,rfl⟩ :=rd_some.1 h1
   cases o with
   | cells xs e k =>
    obtain ⟨_,s2,h3,h4⟩ :=bind_some.1 h2
    obtain ⟨hlen,rfl⟩ :=guardM_some.1 h3
    obtain ⟨rfl,rfl⟩ :=pure_some.1 h4
    have hlen :=Nat.eq_of_beq_eq_true hlen
    obtain ⟨cc,fz,q1,q2,q3,q4,q5⟩ :=hI.cells hg hL
    refine ⟨?_,rfl,rfl⟩
    have cells : ∀ i v,((xs.drop off).take (n * 1))[i]? = some v → v = v ∧ cc[L.sh + off + i]? = some v :=by
     intro i v hi
     refine ⟨rfl,?_⟩
     have hi2 : xs[off + i]? = some v :=by
      rw [List.getElem?_take] at hi
      split at hi
      ·rw [List.getElem?_drop] at hi;exact hi
      ·cases hi
     obtain ⟨v',r1,r2⟩ :=q4 _ _ hi2
     have hint : ∃ m,v = .int .u8 m :=by
      have : ∀ (l : List Value) (bs : List UInt8) (i : Nat),byteL l = some bs → l[i]? = some v → ∃ m,v = .int .u8 m :=by
       intro l
       induction l with
       | nil => intro bs i _ h;simp at h
       | cons x r ih =>
        intro bs i hb hi
        unfold byteL at hb
        split at hb
        ·rename_i heq;cases heq
        ·rename_i m r' heq
         cases heq
         cases i with
         | zero => cases hi;exact ⟨m,rfl⟩
         | succ i =>
          cases hq : byteL r with
          | none => rw [hq] at hb;cases hb
          | some l => exact ih l i hq hi
        ·cases hb
      exact this _ _ i hb hi
     obtain ⟨m,rfl⟩ :=hint
     cases r2
     have : L.sh + off + i = L.sh + (off + i) :=by omega
     rw [this];exact r1
    have :=run_loadBytes (P :=P) q1 ((xs.drop off).take (n * 1)) bs (L.sh + off) .empty hb fun i v hi => (cells i v hi).2
    rw [hlen,Nat.mul_one] at this
    simpa [Extern.Bytes.bytesOf] using this
   | _ => exact (fail_some.1 h2).elim
theorem ba_get (l : List UInt8) (i : Nat) : (⟨⟨l⟩⟩ : ByteArray)[i]! = (l[i]?).getD 0 :=by
 by_cases h : i < l.length
 ·have h' : i < (⟨⟨l⟩⟩ : ByteArray).size :=h
  rw [getElem!_pos (⟨⟨l⟩⟩ : ByteArray) i h']
  simp [h];rfl
 ·have h' : ¬ i < (⟨⟨l⟩⟩ : ByteArray).size :=h
  rw [getElem!_neg (⟨⟨l⟩⟩ : ByteArray) i h']
  simp [h]
  rfl
def cmpL (a b : List UInt8) : Int :=
 match (List.range (min a.length b.length)).find? fun i => (a[i]?).getD 0 != (b[i]?).getD 0 with
 | some i => if (a[i]?).getD 0 < (b[i]?).getD 0 then -1 else 1
 | none => if a.length < b.length then -1 else if a.length > b.length then 1 else 0
theorem cmp_list (a b : List UInt8) : Extern.BytealgCompare.cmp ⟨⟨a⟩⟩ ⟨⟨b⟩⟩ = cmpL a b :=by
 unfold Extern.BytealgCompare.cmp cmpL
 simp only [ba_get]
 rfl
theorem cmpL_cons (x y : UInt8) (a b : List UInt8) : cmpL (x :: a) (y :: b) = if x = y then cmpL a b else if x < y then -1 else 1 :=by
 unfold cmpL
 have hm : min (x :: a).length (y :: b).length = min a.length b.length + 1 :=by simp
 rw [hm,List.range_succ_eq_map,List.find?_cons]
 by_cases e : x = y
 ·subst e
  simp only [List.getElem?_cons_zero,Option.getD_some,bne_self_eq_false,if_true,List.find?_map]
  simp only [Function.comp_def,List.getElem?_cons_succ]
  cases (List.range (min a.length b.length)).find? fun i => (a[i]?).getD 0 != (b[i]?).getD 0 with
  | none => simp
  | some i => simp
 ·have e2 : (x != y) = true :=by simp [e]
  simp [e,e2]
theorem cmpL_eq : ∀ (a b : List UInt8),cmpL a b = cmpBytes a b
 | [],[] => rfl
 | [],y :: b => by simp [cmpL,cmpBytes,bytesLt]
 | x :: a,[] => by simp [cmpL,cmpBytes,bytesLt,bytesEq]
 | x :: a,y :: b => by
  rw [cmpL_cons,cmpL_eq a b]
  unfold cmpBytes
  rw [bytesLt_eq,bytesLt_eq,bytesEq_iff,bytesEq_iff]
  by_cases e : x = y
  ·subst e
   simp [Op.bytesLess]
  ·rw [if_neg e]
   have hne : (x :: a == y :: b) = false :=by simp [e]
   rw [hne]
   by_cases hlt : x < y
   ·simp [Op.bytesLess,hlt]
   ·have e2 : (x == y) = false :=by simp [e]
    simp [Op.bytesLess,hlt,e2]
theorem ext_compare {f : FuncId} {fn : Func} (hf : P.funcs[f]? = some fn) (hname : (fn.name == "runtime.NumGoroutine") = false) (hb : fn.body.isNone = true)
  (hn : Extern.findNext fn = none) (he : Extern.find fn = some Extern.BytealgCompare.compare) : ExtOK P N0 f compareM :=by
 intro l s v s' β w l' h hI hfr hl
 unfold compareM at h
 split at h
 ·rename_i a n c b m d
  obtain ⟨ys,s1,h1,h⟩ :=bind_some.1 h
  obtain ⟨bs,hbs,h⟩ :=lift_bind h
  obtain ⟨zs,s2,h2,h⟩ :=bind_some.1 h
  obtain ⟨cs,hcs,h⟩ :=lift_bind h
  obtain ⟨rfl,rfl⟩ :=pure_some.1 h
  obtain ⟨l'⟩ :=l'
  cases hl with
  | cons hx hr => cases hr with
   | cons hy hr =>
    cases hr
    obtain ⟨r1,e1,e2⟩ :=sim_bytesOf (P :=P) hI h1 hbs hx
    have hI1 : Inv N0 β s1.h.get w :=by rw [e1];exact hI
    obtain ⟨r2,e3,e4⟩ :=sim_bytesOf (P :=P) hI1 h2 hcs hy
    refine ⟨β,w,.int .i64 (cmpBytes bs cs),?_,.int _ _,Out.same hI (by rw [e3,e1])⟩
    rw [run_callFunc_extern hf hname hb hn he]
    have ec : ∀ a b : Value,Extern.BytealgCompare.compare #[a,b] =
      (do pure (goInt (Extern.BytealgCompare.cmp (← Extern.Bytes.bytesOf a) (← Extern.Bytes.bytesOf b)))) :=fun _ _ => rfl
    simp only [ec,Sem.run_bind,r1,r2,Result.andThen_ok,Sem.run_pure,cmp_list,cmpL_eq]
    rfl
 ·exact (fail_some.1 h).elim
theorem mkTI_ok {t : TypeId} {i : TI} (h : mkTI P t = some i) : TIOK P t i :=by
 unfold mkTI at h
 cases hi : P.info? t with
 | none => rw [hi] at h;cases h
 | some info =>
  cases hu : P.underlying t with
  | none => rw [hi,hu] at h;cases h
  | some d =>
   rw [hi,hu] at h;simp only at h
   cases hz : info.zero with
   | none => rw [hz] at h;cases h
   | some z =>
    rw [hz] at h;simp only at h
    cases hc : (cellsL z).all simple && Nat.beq (cellsL z).length info.size with
    | false => rw [hc] at h;cases h
    | true =>
     rw [hc] at h;simp only [cond_true] at h
     simp only [Bool.and_eq_true] at hc
     have hlen :=Nat.eq_of_beq_eq_true hc.2
     split at h
     ·rename_i fs
      cases hfs : fieldsOf P fs.toList with
      | none => rw [hfs] at h;cases h
      | some l =>
       rw [hfs] at h;cases h
       exact ⟨hu,⟨info,hi,rfl,rfl,hz⟩,hc.1,hlen,fun fields e => by cases e;exact hfs,fun h => h⟩
     ·rename_i hns
      cases h
      exact ⟨hu,⟨info,hi,rfl,rfl,hz⟩,hc.1,hlen,fun fields e => absurd e (hns fields),fun h => h⟩
theorem mkEnv_ok {glob : Nat → Bool} {intr ext : FuncId → Option (List Value → M Value)} (hm : P.follows .mixedOrders = true) : EnvOK P (mkEnv P glob intr ext) :=
 ⟨fun _ _ h => mkTI_ok h,fun _ _ h => h,hm⟩
end
end
end Go.Ideal

namespace Go.Ideal
set_option linter.all false
set_option linter.unusedSimpArgs false
set_option linter.unusedVariables false
noncomputable section
open Go Go.RowKit
set_option maxHeartbeats 1000000
section
variable {P : Program} {E : Env}
theorem run_law (hE : EnvOK P E) (hR : EnvResp E) {w : World} (hX : LinkOK P (fun k => w.heap.size ≤ k) E) (hg : ∀ g,E.glob g = false) {k : Nat} {f : FuncId} {l : List Value} {l' : Array Value} {v : Value} {s' : S}
  (h : callM E k f l S0 = some (v,s')) (hl : VL (fun _ => none) l l'.toList) :
  Calls P f l' w fun e w' => ∃ v',e = .returned v' ∧ (∃ β,V β v v') ∧ RowKit.Below w.heap.size w w' :=by
 have hI : Inv (fun k => w.heap.size ≤ k) (fun _ => none) S0.h.get w :=
  ⟨fun b o hb => (by cases hb),fun b1 b2 o1 o2 L1 L2 _ hb => (by cases hb),fun _ h => h⟩
 refine (sim_call hE hX hR k f l S0 v s' _ w l' h hI (fun _ _ _ => rfl) (fun g hg' => by rw [hg g] at hg';cases hg') hl).2.mono ?_
 rintro e w' ⟨v',he,β,hv,ho⟩
 exact ⟨v',he,⟨β,hv⟩,ho.below.num⟩
theorem isTrue_some {r : Option (Value × S)} (h : isTrue r = true) : ∃ s',r = some (.bool true,s') :=by
 unfold isTrue at h
 split at h
 ·exact ⟨_,rfl⟩
 ·cases h
theorem law_true (hE : EnvOK P E) (hR : EnvResp E) {w : World} (hX : LinkOK P (fun k => w.heap.size ≤ k) E) (hg : ∀ g,E.glob g = false) {k : Nat} {f : FuncId} {l : List Value}
  (h : isTrue (callM E k f l S0) = true) (hl : l.all simple = true) {l' : Array Value} (e : l' = l.toArray) :
  Calls P f l' w fun e w' => e = .returned (.bool true) ∧ RowKit.Below w.heap.size w w' :=by
 obtain ⟨s',h⟩ :=isTrue_some h
 subst e
 refine (run_law hE hR hX hg h (VL.of_simple hl)).mono ?_
 rintro e w' ⟨v',he,⟨β,hv⟩,hb⟩
 cases hv
 exact ⟨he,hb⟩
end
end
end Go.Ideal

namespace Go.Ideal
set_option linter.all false
set_option linter.unusedSimpArgs false
set_option linter.unusedVariables false
noncomputable section
open Go Go.ChangeShapes Go.WideShapes Go.RowKit
theorem post_of_below {H : Type} {enc : TypeId × Value → H} {P : Program} {f : Func} {s : ChangeSpec} {apart fresh handsOn again : Bool} {W W' : World} {args : Array Value} {v : Value}
  {ds gs : List (DataW H)} {before pa pv : List MemPlace}
  (hW : DataW.Whole enc P f.params.toList s.vars apart W args.toList ds gs before)
  (hres : ∀ (b : Nat) (sp : Nat → Bool) (hd : Bool),DataW.TrodAll enc P W' b sp hd f.resultTypes.toList (v.resultList f.resultTypes.size) (s.fn H (ds ++ gs)).results [])
  (hargs : ∀ sp : Nat → Bool,(∀ p ∈ before,sp p.block = true) → DataW.TrodAll enc P W' 0 sp true f.params.toList args.toList (s.fn H (ds ++ gs)).args pa)
  (hvars : ∀ sp : Nat → Bool,(∀ p ∈ before,sp p.block = true) → DataW.TrodVars enc P W' sp s.vars (s.fn H (ds ++ gs)).vars pv)
  (hps : before = pa ++ pv) (hb : RowKit.Below W.heap.size W W')
  (hok : ∀ (j : Nat) (t : TypeId) (r : Value),f.resultTypes[j]? = some t → (v.resultList f.resultTypes.size)[j]? = some r → Value.okWide P W' .any 0 t r) :
  s.post enc P f apart fresh handsOn again W args v W' :=by
 have hlt : ∀ p ∈ before,p.block < W.heap.size :=fun p hp => hW.lt p hp
 have hold : ∀ p ∈ before,(fun b => decide (b < W.heap.size)) p.block = true :=fun p hp => by simpa using hlt p hp
 refine ⟨ds,gs,before,[],pa,pv,hW,hres _ _ _,hargs _ hold,hvars _ hold,World.keptBut_mono (fun p hp => ⟨hp,?_⟩) (hb.frame (· ∈ before)),fun _ => ?_⟩
 ·rw [hps,List.mem_append] at hp
  exact Or.inr hp
 ·obtain ⟨_,_,_,_,_,hz,hn⟩ :=hW
  refine ⟨hok,_,_,([] ++ pa) ++ pv,⟨[] ++ pa,pv,trodAll_append (hargs _ (fun _ _ => rfl)) (hres _ _ _),hvars _ (fun _ _ => rfl),rfl,?_,?_⟩,?_⟩
  ·intro b off hp
   have hp' : MemPlace.cell b off ∈ before :=by rw [hps];simpa using hp
   rw [hb.frozen (p :=⟨b,off,none⟩) (hlt _ hp')]
   exact hz b off hp'
  ·intro ha
   have :=hn ha
   rw [hps] at this
   simpa using this
  ·intro p hp _
   rw [hps]
   simpa using hp
theorem names_ok {P : Program} (h : (P.funcs.toList.all fun fn => !(fn.name == "runtime.NumGoroutine")) = true) (f : FuncId) (fn : Func) (hf : P.funcs[f]? = some fn) :
  (fn.name == "runtime.NumGoroutine") = false := by
 rw [← Array.getElem?_toList] at hf
 have :=List.all_eq_true.1 h fn (List.mem_of_getElem? hf)
 simpa using this
end
end Go.Ideal

namespace Go.Ideal
set_option linter.all false
set_option linter.unusedSimpArgs false
set_option linter.unusedVariables false
noncomputable section
open Go Go.RowKit
set_option maxHeartbeats 1000000
def cleanX (τ : Nat → Nat) : Operand → Bool
 | .tmp t => Nat.beq (τ t) 0
 | _ => true
def cleanG (τ : Nat → Nat) (ops : Array Oper) (o : Oper) : Bool :=
 match o.guard with
 | none => true
 | some (j,_) => match (ops[j]?).bind (·.dst) with
  | some d => Nat.beq (τ d) 0
  | none => true
def RV (m : Nat) (x y : Option Value) : Prop :=x = y ∨ (m ≠ 0 ∧ ∃ k a b,x = some (.int k a) ∧ y = some (.int k b) ∧ a.tmod (m : Int) = b.tmod (m : Int))
def RT (τ : Nat → Nat) (tm tm' : Tr Value) : Prop :=∀ t,RV (τ t) (tm.get t) (tm'.get t)
section
variable {E : Env} {call : CallM} {n : Nat} {τ : Nat → Nat} {ops : Array Oper}
theorem RV.clean {x y : Option Value} (h : RV 0 x y) : x = y :=by
 rcases h with h | ⟨h,_⟩
 ·exact h
 ·exact absurd rfl h
theorem RT.eval {tm tm' : Tr Value} (h : RT τ tm tm') {x : Operand} (hx : cleanX τ x = true) : evalI E tm x = evalI E tm' x :=by
 cases x with
 | tmp t =>
  have :=h t
  rw [Nat.eq_of_beq_eq_true hx] at this
  exact this.clean
 | _ => rfl
theorem RT.wanted {tm tm' : Tr Value} (h : RT τ tm tm') {o : Oper} (hg : cleanG τ ops o = true) : wantedI ops tm o = wantedI ops tm' o :=by
 unfold wantedI
 unfold cleanG at hg
 cases ho : o.guard with
 | none => rfl
 | some p =>
  obtain ⟨j,want⟩ :=p
  rw [ho] at hg
  simp only at hg ⊢
  cases hd : (ops[j]?).bind (·.dst) with
  | none => rfl
  | some d =>
   rw [hd] at hg
   have :=h d
   rw [Nat.eq_of_beq_eq_true hg] at this
   simp only [this.clean]
theorem RT.put {tm tm' : Tr Value} (h : RT τ tm tm') {dst : Option Tmp} {v v' : Value} {t1 : Tr Value} (hp : putT n tm dst v = some t1)
  (hv : ∀ d,dst = some d → RV (τ d) (some v) (some v')) : ∃ t2,putT n tm' dst v' = some t2 ∧ RT τ t1 t2 :=by
 cases dst with
 | none => cases hp;exact ⟨tm',rfl,h⟩
 | some d =>
  simp only [putT] at hp ⊢
  cases hd : Nat.blt d n with
  | false => rw [hd] at hp;cases hp
  | true =>
   rw [hd] at hp;cases hp
   refine ⟨_,rfl,fun t => ?_⟩
   rw [Tr.get_set,Tr.get_set]
   by_cases e : d = t
   ·subst e;rw [if_pos rfl,if_pos rfl];exact hv d rfl
   ·rw [if_neg e,if_neg e];exact h t
end
end
end Go.Ideal

namespace Go.Ideal
set_option linter.all false
set_option linter.unusedSimpArgs false
set_option linter.unusedVariables false
noncomputable section
open Go Go.RowKit
set_option maxHeartbeats 1000000
section
variable {P : Program} {E : Env} {N0 : Nat → Prop}
theorem Inv.old {β : Bij} {g : Nat → Option Blk} {w w' : World} (h : Inv N0 β g w) (hb : RowKit.Below w.heap.size w w') : Inv N0 β g w' :=by
 refine ⟨fun b o ho => ?_,h.alone,fun r hr => h.size r (Nat.le_trans hb.size hr)⟩
 obtain ⟨L,h1,h2⟩ :=h.live b o ho
 refine ⟨L,h1,?_⟩
 cases hl : o.live with
 | true => exact h2.mono (fun _ _ e => e) (hb.block _ (h2.lt hl))
 | false => cases o <;> first | trivial | (cases hl)
def yesM : List Value → M Value
 | [] => pure (.bool true)
 | _ => fail
theorem resp_yesM (l : List Value) : Resp (yesM l) :=by
 cases l with
 | nil => exact Resp.pure _
 | cons _ _ => exact Resp.fail
theorem intr_closed {f : FuncId} (he : Enters P f) (h : ∀ w,Calls P f #[] w fun e w' => e = .returned (.bool true) ∧ RowKit.Below w.heap.size w w') : FunOK P N0 E f yesM :=by
 intro l s v s' β w l' hs hI hf hg hl
 cases l with
 | cons _ _ =>
  have hs : (fail : M Value) s = some (v,s') :=hs
  exact (fail_some.1 hs).elim
 | nil =>
  obtain ⟨rfl,rfl⟩ :=pure_some.1 hs
  obtain ⟨l'⟩ :=l'
  cases hl
  refine ⟨he,(h w).mono ?_⟩
  rintro e w' ⟨rfl,hb⟩
  exact ⟨_,rfl,β,.bool true,Ext.refl _ _ _,hI.old hb,Below.out hI.size hb⟩
end
end
end Go.Ideal

namespace Go.Ideal
set_option linter.all false
set_option linter.unusedSimpArgs false
set_option linter.unusedVariables false
noncomputable section
open Go Go.RowKit
set_option maxHeartbeats 1000000
def intEq : Int → Int → Bool
 | .ofNat a,.ofNat b => Nat.beq a b
 | .negSucc a,.negSucc b => Nat.beq a b
 | _,_ => false
def addrEq : Addr → Addr → Bool
 | ⟨a,i,none⟩,⟨b,j,none⟩ => Nat.beq a b && Nat.beq i j
 | _,_ => false
mutual
def eqV : Value → Value → Bool
 | .bool a,.bool b => a == b
 | .int j a,.int k b => sameK j k && intEq a b
 | .string a,.string b => bytesEq (bl a) (bl b)
 | .pointer none,.pointer none => true
 | .pointer (some a),.pointer (some b) => addrEq a b
 | .slice none n c,.slice none m d => Nat.beq n m && Nat.beq c d
 | .slice (some a) n c,.slice (some b) m d => addrEq a b && Nat.beq n m && Nat.beq c d
 | .map none,.map none => true
 | .map (some a),.map (some b) => Nat.beq a b
 | .func (.func f) ⟨a⟩ ⟨c⟩,.func (.func g) ⟨b⟩ ⟨d⟩ => Nat.beq f g && eqL a b && eqL c d
 | .nilFunc,.nilFunc => true
 | .iface t v,.iface u w => Nat.beq t u && eqV v w
 | .nilIface,.nilIface => true
 | .agg ⟨a⟩,.agg ⟨b⟩ => eqL a b
 | .tuple ⟨a⟩,.tuple ⟨b⟩ => eqL a b
 | _,_ => false
 termination_by structural x => x
def eqL : List Value → List Value → Bool
 | [],[] => true
 | x :: a,y :: b => eqV x y && eqL a b
 | _,_ => false
 termination_by structural x => x
end
def eqK : Kd → Kd → Bool
 | .var,.var | .vst,.vst | .grow,.grow | .str,.str | .ro,.ro => true
 | _,_ => false
def eqE : List (Value × Value × Nat) → List (Value × Value × Nat) → Bool
 | [],[] => true
 | (k,v,n) :: a,(l,w,m) :: b => eqV k l && eqV v w && Nat.beq n m && eqE a b
 | _,_ => false
def eqN : List Nat → List Nat → Bool
 | [],[] => true
 | a :: x,b :: y => Nat.beq a b && eqN x y
 | _,_ => false
def eqON : Option Nat → Option Nat → Bool
 | none,none => true
 | some a,some b => Nat.beq a b
 | _,_ => false
def eqB : Blk → Blk → Bool
 | .cells a e k,.cells b f l => eqL a b && Nat.beq e f && eqK k l
 | .map a c,.map b d => eqE a b && Nat.beq c d
 | .iter s i,.iter t j => bytesEq (bl s) (bl t) && Nat.beq i j
 | .miter m i s k,.miter n j t l => eqON m n && Nat.beq i j && eqN s t && Nat.beq k l
 | .dead,.dead => true
 | _,_ => false
end
end Go.Ideal

namespace Go.Ideal
set_option linter.all false
set_option linter.unusedSimpArgs false
set_option linter.unusedVariables false
noncomputable section
open Go Go.RowKit
set_option maxHeartbeats 1000000
structure Memo where
 f : FuncId
 args : List Value
 nx : Nat
 pre : List (Nat × Blk)
 v : Value
 nx' : Nat
 post : List (Nat × Blk)
def setAll : Tr Blk → List (Nat × Blk) → Tr Blk
 | h,[] => h
 | h,(b,o) :: r => setAll (h.set depth b o) r
def keysMask : List (Nat × Blk) → Nat
 | [] => 0
 | (b,_) :: r => bit b ||| keysMask r
def heldAll (h : Tr Blk) : List (Nat × Blk) → Bool
 | [] => true
 | (b,o) :: r => (match h.get b with
  | some o' => eqB o' o
  | none => false) && heldAll h r
def belowAll (n : Nat) : List (Nat × Blk) → Bool
 | [] => true
 | (b,_) :: r => Nat.blt b n && belowAll n r
def inMask (w : Nat) : List (Nat × Blk) → Bool
 | [] => true
 | (b,_) :: r => Nat.testBit w b && inMask w r
def memoRun (E : Env) (d : Nat) (m : Memo) : Bool :=
 match callM E d m.f m.args ⟨setAll .nil m.pre,m.nx,0,0⟩ with
 | some (v,s) => eqV v m.v && Nat.beq s.nx m.nx' && heldAll s.h m.post && inMask s.w m.post && Nat.beq (s.w ||| keysMask m.post) (keysMask m.post) &&
   Nat.beq (Nat.land (s.r ||| s.w) (2 ^ m.nx - 1) ||| keysMask m.pre) (keysMask m.pre) && belowAll m.nx m.pre && heldAll (setAll .nil m.pre) m.pre
 | none => false
section
variable {P : Program} {E : Env} {N0 : Nat → Prop}
def memoShape (m : Memo) : Bool :=
 belowAll m.nx m.pre && Nat.ble m.nx m.nx' && belowAll m.nx' m.post && Nat.beq (Nat.shiftRight (keysMask m.post) m.nx) (2 ^ (m.nx' - m.nx) - 1)
end
end
end Go.Ideal

namespace Go.Ideal
set_option linter.all false
set_option linter.unusedSimpArgs false
set_option linter.unusedVariables false
noncomputable section
open Go Go.RowKit
set_option maxHeartbeats 1000000
def cloneM (args : List Value) : M Value :=
 match args with
 | [.iface t (.map (some b))] => do
  match ← rd b with
  | .map es clock => do
   let c ← new (.map es clock)
   pure (.iface t (.map (some c)))
  | _ => fail
 | _ => fail
theorem resp_cloneM (l : List Value) : Resp (cloneM l) :=by
 unfold cloneM
 repeat' (first
  | exact Resp.pure _ | exact Resp.fail | exact Resp.rd _ | exact Resp.new _
  | (refine Resp.bind ?_ fun _ => ?_) | split)
section
variable {P : Program} {N0 : Nat → Prop}
theorem ext_clone {f : FuncId} {fn : Func} (hf : P.funcs[f]? = some fn) (hname : (fn.name == "runtime.NumGoroutine") = false) (hb : fn.body.isNone = true)
  (hn : Extern.findNext fn = none) (he : Extern.find fn = some Extern.MapsClone.clone) : ExtOK P N0 f cloneM :=by
 intro l s v s' β w l' h hI hfr hl
 unfold cloneM at h
 split at h
 ·rename_i t b
  obtain ⟨o,s1,h1,h⟩ :=bind_some.1 h
  obtain ⟨hlt,hg,rfl⟩ :=rd_some.1 h1
  cases o with
  | map es clock =>
   obtain ⟨c,s2,h2,h⟩ :=bind_some.1 h
   obtain ⟨rfl,rfl⟩ :=pure_some.1 h
   obtain ⟨rfl,rfl⟩ :=new_some.1 h2
   obtain ⟨l'⟩ :=l'
   cases hl with
   | cons hx hr =>
    cases hr
    cases hx with
    | iface t hv =>
     cases hv with
     | map hL =>
      rename_i L
      obtain ⟨L',hL',es',q1,q2,q3⟩ :=hI.live b _ hg
      rw [hL] at hL';cases hL'
      have hn' : β s.nx = none :=hfr _ (Nat.le_refl _) (by simp)
      have hget : (getObj L.r).run P w = .ok (.map es' clock) w :=by simp [getObj,Sem.run,q1]
      refine ⟨addB β s.nx ⟨w.heap.size,0,0⟩,pushW w (.map es' clock),.iface t (.map (some w.heap.size)),?_,
       .iface t (.map (L :=⟨w.heap.size,0,0⟩) (addB_same _ _ _)),addB_ext hn' (Nat.le_refl _) (by simp),?_,pushW_below hI.size⟩
      ·rw [run_callFunc_extern hf hname hb hn he]
       have ec : ∀ r,Extern.MapsClone.clone #[.iface t (.map (some r))] = (do
         let .map entries clock ← getObj r | stuck "maps.clone: a map expected"
         pure (.iface t (.map (some (← newObj (.map entries clock)))))) :=fun _ => rfl
       simp only [ec,Sem.run_bind,hget,Result.andThen_ok,run_newObj,Sem.run_pure]
       rfl
      ·refine hI.push (o' :=.map es clock) hn' rfl (fun n => by simp only [Tr.get_set]) ?_
       exact ⟨es',pushW_new,q2.mono (addB_keep hn'),hI.size _ (Nat.le_refl _)⟩
  | _ => exact (fail_some.1 h).elim
 ·exact (fail_some.1 h).elim
end
end
end Go.Ideal

namespace Go.Ideal
set_option linter.all false
set_option linter.unusedSimpArgs false
set_option linter.unusedVariables false
noncomputable section
open Go Go.RowKit
set_option maxHeartbeats 1000000
section
variable {P : Program} {N0 : Nat → Prop} {E : Env}
structure Good (P : Program) (E : Env) : Prop where
 env : EnvOK P E
 resp : EnvResp E
 link : ∀ N0,LinkOK P N0 E
 glob : ∀ g,E.glob g = false
structure Borne (E : Env) (k : FuncId) (m : Memo) : Prop where
 f : m.f = k
 shape : memoShape m = true
 run : ∃ d,memoRun E d m = true
theorem Good.closed {glob : Nat → Bool} {base ext : FuncId → Option (List Value → M Value)} (h : Good P (mkEnv P glob base ext)) {k : FuncId} (hen : Enters P k)
  (hy : ∀ w,Calls P k #[] w fun e w' => e = .returned (.bool true) ∧ RowKit.Below w.heap.size w w') : Good P (mkEnv P glob (fun f => cond (Nat.beq k f) (some yesM) (base f)) ext) :=by
 have key : ∀ {f g},cond (Nat.beq k f) (some yesM) (base f) = some g → (k = f ∧ g = yesM) ∨ base f = some g :=by
  intro f g hg
  cases hk : Nat.beq k f with
  | true => rw [hk] at hg;cases hg;exact .inl ⟨Nat.eq_of_beq_eq_true hk,rfl⟩
  | false => rw [hk] at hg;exact .inr hg
 refine ⟨mkEnv_ok h.env.mixed,⟨fun f g hg => ?_,h.resp.ext⟩,fun N0 => ⟨(h.link N0).ext,fun f g hg => ?_,(h.link N0).name⟩,h.glob⟩
 ·rcases key hg with ⟨rfl,rfl⟩ | hg
  ·exact resp_yesM
  ·exact h.resp.intr f g hg
 ·rcases key hg with ⟨rfl,rfl⟩ | hg
  ·exact intr_closed hen hy
  ·intro l s v s' β w l' a1 a2 a3 a4 a5
   exact (h.link N0).intr f g hg l s v s' β w l' a1 a2 a3 a4 a5
end
end
end Go.Ideal

namespace Go.Ideal
set_option linter.all false
set_option linter.unusedSimpArgs false
set_option linter.unusedVariables false
noncomputable section
open Go Go.RowKit Go.Maps
set_option maxHeartbeats 1000000
def sortedM (it : FuncId) (tStr : TypeId) (args : List Value) : M Value :=
 match args with
 | [.func (.func g) ⟨[]⟩ ⟨[.pointer (some ⟨cb,0,none⟩)]⟩] => do
  guardM (Nat.beq g it)
  match ← rd cb with
  | .cells [.map none] _ .var => pure (.slice none 0 0)
  | .cells [.map (some b)] _ .var => do
   match ← rd b with
   | .map [] _ => pure (.slice none 0 0)
   | .map [(.string x,_,n)] clock => do
    guardM (Nat.blt n clock && Nat.blt (bl x).length 1048576)
    let nb ← new (.cells [.string x] tStr .grow)
    pure (.slice (some ⟨nb,0,none⟩) 1 (capOf 1 1))
   | _ => fail
  | _ => fail
 | _ => fail
theorem resp_sortedM (it : FuncId) (tStr : TypeId) (l : List Value) : Resp (sortedM it tStr l) :=by
 unfold sortedM
 repeat' (first
  | exact Resp.pure _ | exact Resp.fail | exact Resp.rd _ | exact Resp.new _ | exact Resp.guardM _
  | (refine Resp.bind ?_ fun _ => ?_) | split)
theorem guard_bind {α : Type} {b : Bool} {f : Unit → M α} {a : α} {s s' : S} (h : (guardM b >>= f) s = some (a,s')) : b = true ∧ f () s = some (a,s') :=by
 obtain ⟨_,s1,h1,h2⟩ :=bind_some.1 h
 obtain ⟨hb,rfl⟩ :=guardM_some.1 h1
 exact ⟨hb,h2⟩
theorem rd_bind {α : Type} {b : Nat} {f : Blk → M α} {a : α} {s s' : S} (h : (rd b >>= f) s = some (a,s')) :
  ∃ o,b < s.nx ∧ s.h.get b = some o ∧ f o ⟨s.h,s.nx,s.r ||| bit b,s.w⟩ = some (a,s') :=by
 obtain ⟨o,s1,h1,h2⟩ :=bind_some.1 h
 obtain ⟨hb,hg,rfl⟩ :=rd_some.1 h1
 exact ⟨o,hb,hg,h2⟩
section
variable {P : Program} {N0 : Nat → Prop} {E : Env}
def SortedAt (P : Program) (c it : FuncId) (tStr : TypeId) : Prop :=
 (∀ (w : World) (cb b : Nat) (R : Value → Option (DataW Unit × List MemPlace)) (nn : Nat) (D0 : DataW Unit),w.cell? ⟨cb,0,none⟩ = some (.map (some b)) → w.ownsMap P tStr R b nn D0 → Maps.size D0 ≤ 1 →
  Calls P c #[.func (.func it) #[] #[.pointer (some ⟨cb,0,none⟩)]] w fun e w' => ∃ (v : Value) (ss : List (List UInt8)),e = .returned v ∧ ss.Perm (strKeys D0) ∧
   w'.ownsRow w.heap.size tStr 1 v ss.length ((ss.mergeSort (fun x y => decide (x ≤ y))).map Go.Proofs.encStr) ∧ (v = .slice none 0 0 ↔ ss = []) ∧ RowKit.Below w.heap.size w w') ∧
 (∀ (w : World) (cb : Nat),w.cell? ⟨cb,0,none⟩ = some (.map none) →
  Calls P c #[.func (.func it) #[] #[.pointer (some ⟨cb,0,none⟩)]] w fun e w' => e = .returned (.slice none 0 0) ∧ RowKit.Below w.heap.size w w')
theorem Inv.below {β : Bij} {g : Nat → Option Blk} {w w' : World} (h : Inv N0 β g w) (hb : RowKit.Below w.heap.size w w') : Inv N0 β g w' :=by
 refine ⟨fun b o hg => ?_,h.alone,fun r hr => h.size r (Nat.le_trans hb.size hr)⟩
 obtain ⟨L,hL,hs⟩ :=h.live b o hg
 refine ⟨L,hL,?_⟩
 cases hd : o.live with
 | false => cases o with | dead => trivial | _ => simp [Blk.live] at hd
 | true => exact hs.mono (fun _ _ e => e) (hb.block L.r (hs.lt hd))
theorem sorted_ok {c it : FuncId} {tStr : TypeId} (hu : P.underlying tStr = some .string) (hen : Enters P c) (hC : SortedAt P c it tStr) : FunOK P N0 E c (sortedM it tStr) :=by
 intro l s v s' β w l' h hI hf hg hl
 refine ⟨hen,?_⟩
 unfold sortedM at h
 split at h
 ·rename_i g cb
  obtain ⟨hgi,hx⟩ :=guard_bind h;clear h;have h :=hx;clear hx
  have :=Nat.eq_of_beq_eq_true hgi;subst this
  obtain ⟨o,hlt,hgc,hx⟩ :=rd_bind h;clear h;have h :=hx;clear hx
  obtain ⟨l'⟩ :=l'
  cases hl with
  | cons hx hr =>
  cases hr
  cases hx with
  | func fn ha hc =>
  rename_i a' c'
  obtain ⟨a'⟩ :=a';obtain ⟨c'⟩ :=c'
  cases ha
  cases hc with
  | cons hp hr =>
  cases hr
  cases hp with
  | ptr hL =>
  rename_i L
  obtain ⟨m,hm,hx⟩ : ∃ m : M Value,m = _ ∧ m _ = some (v,s') :=⟨_,rfl,h⟩;clear h;have h :=hx;clear hx
  split at hm
  ·subst hm
   obtain ⟨rfl,rfl⟩ :=pure_some.1 h
   obtain ⟨cc,fz,q1,q2,q3,q4,q5⟩ :=hI.cells hgc hL
   have hsh : L.sh = 0 :=q5.2.2
   obtain ⟨u,p1,p2⟩ :=q4 0 _ rfl
   cases p2
   have hcell : w.cell? ⟨L.r,0,none⟩ = some (.map none) :=by
    rw [cell_at q1];rw [hsh] at p1;exact p1
   have hadr : (⟨L.r,L.sh + 0,none⟩ : Addr) = ⟨L.r,0,none⟩ :=by rw [hsh]
   rw [hadr]
   refine (hC.2 w L.r hcell).mono ?_
   rintro e w' ⟨rfl,hb⟩
   exact ⟨_,rfl,β,.nilsl,Ext.refl _ _ _,hI.below hb,Below.out hI.size hb⟩
  ·rename_i o2 b tt
   subst hm
   obtain ⟨cc,fz,q1,q2,q3,q4,q5⟩ :=hI.cells hgc hL
   have hsh : L.sh = 0 :=q5.2.2
   obtain ⟨u,p1,p2⟩ :=q4 0 _ rfl
   cases p2 with
   | map hLm =>
   rename_i Lm
   have hcell : w.cell? ⟨L.r,0,none⟩ = some (.map (some Lm.r)) :=by
    rw [cell_at q1];rw [hsh] at p1;exact p1
   have hadr : (⟨L.r,L.sh + 0,none⟩ : Addr) = ⟨L.r,0,none⟩ :=by rw [hsh]
   rw [hadr]
   obtain ⟨o,hlt3,hgm,hx⟩ :=rd_bind h;clear h;have h :=hx;clear hx
   have hgm : s.h.get b = some o :=hgm
   obtain ⟨m,hm,hx⟩ : ∃ m : M Value,m = _ ∧ m _ = some (v,s') :=⟨_,rfl,h⟩;clear h;have h :=hx;clear hx
   split at hm
   ·subst hm
    obtain ⟨rfl,rfl⟩ :=pure_some.1 h
    obtain ⟨L',hL',es',r1,r2,r3⟩ :=hI.live b _ hgm
    rw [hLm] at hL';cases hL'
    have hes : es' = #[] :=by
     have : es'.toList = [] :=by generalize es'.toList = l at r2;cases r2;rfl
     exact Array.toList_eq_nil_iff.1 this
    subst hes
    have hown : w.ownsMap P tStr (fun _ => some ((.lit (.bool true) : DataW Unit),[])) Lm.r 0 (.map []) :=
     ⟨#[],_,r1,⟨by simp,⟨fun x hx => by simp at hx,by simp,by simp⟩,fun x hx => by simp at hx⟩,by simp,rfl⟩
    refine (hC.1 w L.r Lm.r _ 0 _ hcell hown (by simp [Maps.size])).mono ?_
    rintro e w' ⟨v,ss,rfl,hp,hrow,hnil,hb⟩
    have hss : ss = [] :=List.Perm.eq_nil hp
    have :=hnil.2 hss
    subst this
    exact ⟨_,rfl,β,.nilsl,Ext.refl _ _ _,hI.below hb,Below.out hI.size hb⟩
   ·rename_i x vv n clock o3
    subst hm
    obtain ⟨hgd,hx⟩ :=guard_bind h;clear h;have h :=hx;clear hx
    simp only [Bool.and_eq_true] at hgd
    have hn :=blt_iff.1 hgd.1
    have hxl :=blt_iff.1 hgd.2
    obtain ⟨nb,s5,h5,hx⟩ :=bind_some.1 h;clear h;have h :=hx;clear hx
    obtain ⟨rfl,rfl⟩ :=pure_some.1 h
    obtain ⟨rfl,rfl⟩ :=new_some.1 h5
    obtain ⟨L',hL',es',r1,r2,r3⟩ :=hI.live b _ hgm
    rw [hLm] at hL';cases hL'
    obtain ⟨e',hes,k1,k2,k3⟩ : ∃ e',es' = #[e'] ∧ V β (.string x) e'.key ∧ V β vv e'.val ∧ n = e'.born :=by
     obtain ⟨es'⟩ :=es'
     simp only at r2
     cases r2 with
     | cons a b c d => cases d;exact ⟨_,rfl,a,b,c⟩
    subst hes
    obtain ⟨key,val,born⟩ :=e'
    simp only at k1 k2 k3
    cases k1
    subst k3
    have hxs : x.size = (bl x).length :=by simp [bl]
    have hkey : keyOf P tStr (.string x) = some (.string x.data.toList) :=WideMaps.keyOf_string_mk hu (by rw [hxs];unfold maxLen;omega)
    let R : Value → Option (DataW Unit × List MemPlace) :=fun _ => some (.lit (.bool true),[])
    have hrd : WideElems.rd P tStr R ⟨.string x,val,n⟩ = some (.string x.data.toList,.lit (.bool true)) :=WideElems.rd_mk (yv :=(.lit (.bool true),[])) hkey rfl
    have hown : w.ownsMap P tStr R Lm.r 1 (.map [(.string x.data.toList,.lit (.bool true))]) :=by
     refine ⟨#[⟨.string x,val,n⟩],clock,r1,⟨by simp [maxLen],⟨fun y hy => ?_,by simp,by simp⟩,fun y hy => ?_⟩,by simp,?_⟩
     ·simp at hy;subst hy;exact hn
     ·simp at hy;subst hy;exact ⟨_,hrd⟩
     ·simp only [List.map_cons,List.map_nil,List.foldr_cons,List.foldr_nil,WideElems.rg_of hrd]
      rfl
    refine (hC.1 w L.r Lm.r _ 1 _ hcell hown (by simp [Maps.size])).mono ?_
    rintro e w' ⟨v,ss,rfl,hp,hrow,hnil,hb⟩
    have hss : ss = [x.data.toList] :=List.Perm.eq_singleton hp
    subst hss
    obtain ⟨hlen,hv | ⟨g,cap,cur,rfl,hg1,hg2,hg3,hg4,hg5,hg6⟩⟩ :=hrow
    ·exact absurd (hnil.1 hv.1) (by simp)
    have hsort : ([x.data.toList].mergeSort (fun x y => decide (x ≤ y))).map Go.Proofs.encStr = [.string x] :=by simp [Go.Proofs.encStr]
    rw [hsort] at hg6
    simp only [List.length_singleton,Nat.mul_one] at hg3 hg5 hg6
    have hnone : β s.nx = none :=hf _ (Nat.le_refl _) (by simp)
    have hIb :=hI.below hb
    have hgN : N0 g :=hI.size g hg1
    have hcur : cur[0]? = some (.string x) :=by
     rw [← Array.getElem?_toList]
     cases hc : cur.toList with
     | nil => rw [hc] at hg6;simp at hg6
     | cons a r => rw [hc] at hg6;simp at hg6;rw [hg6];rfl
    have hcapL : CapOK ⟨g,0,cur.size⟩ 0 1 (capOf 1 1) cap :=by
     have h1 : UNK ≤ capOf 1 1 :=capOf_unk 1 1
     refine ⟨fun hk => by omega,fun _ => ?_,fun _ => ?_,fun _ => ?_,hg3⟩
     ·rw [lbOf_capOf (by unfold UNK;omega)];exact hg3
     ·rw [esOf_capOf (by unfold UNK;omega)];simp [hg5]
     ·unfold UNK;unfold maxLen at hg4;omega
    refine ⟨_,rfl,addB β s.nx ⟨g,0,cur.size⟩,?_,addB_ext hnone (Nat.le_refl _) (by simp),?_,Below.out hI.size hb⟩
    ·exact .sl (L :=⟨g,0,cur.size⟩) (off :=0) (addB_same _ _ _) hcapL
    ·refine ⟨fun n' y hy => ?_,fun b1 b2 o1 o2 L1 L2 hne a1 a2 l1 l2 e1 e2 er => ?_,fun r hr => hI.size r (Nat.le_trans hb.size hr)⟩
     ·simp only [Tr.get_set] at hy
      by_cases hn' : s.nx = n'
      ·subst hn'
       rw [if_pos rfl] at hy;cases hy
       refine ⟨_,addB_same _ _ _,cur,(0,0),hg2,rfl,by simp;omega,fun i u hi => ?_,rfl,hgN⟩
       cases i with
       | zero => simp at hi;subst hi;exact ⟨_,by simpa using hcur,.string x⟩
       | succ i => simp at hi
      ·rw [if_neg hn'] at hy
       obtain ⟨Ln,hLn,hsn⟩ :=hIb.live n' y hy
       exact ⟨Ln,addB_keep hnone _ _ hLn,hsn.mono (addB_keep hnone) rfl⟩
     ·simp only [Tr.get_set] at a1 a2
      have away : ∀ {n' : Nat} {y : Blk} {K : Loc},s.h.get n' = some y → y.live = true → s.nx ≠ n' → addB β s.nx ⟨g,0,cur.size⟩ n' = some K → K.r < w.heap.size ∧ β n' = some K :=by
       intro n' y K hn hd hne hK
       obtain ⟨Ln,hLn,hsn⟩ :=hI.live n' y hn
       unfold addB at hK
       rw [if_neg (fun e => hne e.symm),hLn] at hK
       cases hK
       exact ⟨hsn.lt hd,hLn⟩
      by_cases c1 : s.nx = b1
      ·subst c1
       rw [if_neg hne] at a2
       rw [addB_same] at e1;cases e1
       have :=(away a2 l2 hne e2).1
       simp only at er;omega
      ·rw [if_neg c1] at a1
       by_cases c2 : s.nx = b2
       ·subst c2
        rw [addB_same] at e2;cases e2
        have :=(away a1 l1 c1 e1).1
        simp only at er;omega
       ·rw [if_neg c2] at a2
        exact hI.alone b1 b2 o1 o2 L1 L2 hne a1 a2 l1 l2 (away a1 l1 c1 e1).2 (away a2 l2 c2 e2).2 er
   ·subst hm;exact (fail_some.1 h).elim
  ·subst hm;exact (fail_some.1 h).elim
 ·exact (fail_some.1 h).elim
end
end
end Go.Ideal

