/- The ideal machine's operations: append, copy, clear, the comparison of bytes. -/
import Derived.Test.YtlafgnanfkhobaaGreatDoorFb
import Derived.Orders
namespace Go.Ideal
set_option linter.all false
set_option linter.unusedSimpArgs false
set_option linter.unusedVariables false
noncomputable section
open Go Go.RowKit
set_option maxHeartbeats 1000000
theorem growBy_le (n : Nat) : ∀ (r c : Nat),Builtin.growBy n r c ≤ max c (n + (n + 768) / 4)
 | 0,c => by simp [Builtin.growBy];omega
 | r + 1,c => by
  simp only [Builtin.growBy]
  split
  ·omega
  ·have :=growBy_le n r (c + (c + 768) / 4);omega
theorem nextcap_le {need old : Nat} (h : old < need) : Builtin.nextslicecap need old ≤ 2 * need + 768 :=by
 unfold Builtin.nextslicecap
 split
 ·omega
 ·split
  ·omega
  ·have :=growBy_le need 4 old;omega
section
variable {P : Program} {E : Env} {N0 : Nat → Prop} {β : Bij} {w : World} {s s' : S}
structure NewOK (P : Program) (β : Bij) (j : TI) (z : Bool) (n : Nat) (ys : List Value) (x' : Value) (w : World) (cs : Array Value) : Prop where
 rel : VL β ys cs.toList
 len : ys.length = n * j.size
 zero : z = true → (∃ k,x' = .int k (Int.ofNat n)) ∧ n < 1099511627776 ∧ n * j.bytes < 1099511627776 ∧ cs = Builtin.zeroCells j.zero.cells n
 other : z = false → ∀ w',w'.heap = w.heap → (Builtin.lenOf x').run P w' = .ok n w' ∧ (Builtin.firstCells j.size n x').run P w' = .ok cs w'
theorem sim_newCellsM (_hE : EnvOK P E) (hI : Inv N0 β s.h.get w) {j : TI} {e xt : TypeId} (hj : TIOK P e j) {x x' : Value} {n : Nat} {ys : List Value}
  (h : newCells E j (some xt) x s = some ((n,ys),s')) (hx : V β x x') :
  ∃ xi cs,E.ti xt = some xi ∧ NewOK P β j (isIntD xi.desc) n ys x' w cs ∧ s'.h = s.h ∧ s'.nx = s.nx :=by
 unfold newCells at h
 simp only at h
 cases hxi : E.ti xt with
 | none => rw [hxi] at h;exact (fail_some.1 h).elim
 | some xi =>
  rw [hxi] at h;simp only at h
  cases hz : isIntD xi.desc with
  | true =>
   rw [hz] at h;simp only [cond_true] at h
   obtain ⟨m,hm,h⟩ : ∃ m : M (Nat × List Value),m = _ ∧ m s = some ((n,ys),s') :=⟨_,rfl,h⟩
   split at hm
   ·rename_i k q
    subst hm
    cases hx
    obtain ⟨_,s1,h1,h2⟩ :=bind_some.1 h
    obtain ⟨hg,rfl⟩ :=guardM_some.1 h1
    obtain ⟨he,rfl⟩ :=pure_some.1 h2
    obtain ⟨rfl,rfl⟩ :=Prod.mk.inj he
    simp only [Bool.and_eq_true] at hg
    have hzl : j.zero.cells.toList.length = j.size :=by rw [← cellsL_eq];exact hj.len
    have hzs : j.zero.cells.size = j.size :=by simpa using hzl
    refine ⟨xi,Builtin.zeroCells j.zero.cells n,rfl,⟨?_,?_,fun _ => ⟨⟨k,rfl⟩,blt_iff.1 hg.1,blt_iff.1 hg.2,rfl⟩,(fun h => absurd h (by simp [hz]))⟩,rfl,rfl⟩
    ·unfold Builtin.zeroCells;rw [zeros_eq,← cellsL_eq];exact VL.repL hj.zero _
    ·rw [repL_length,hj.len]
   ·subst hm;exact (fail_some.1 h).elim
  | false =>
   rw [hz] at h;simp only [cond_false] at h
   obtain ⟨n',s1,h1,h2⟩ :=bind_some.1 h
   obtain ⟨hl,rfl⟩ :=liftO_some.1 h1
   obtain ⟨ys',s2,h3,h4⟩ :=bind_some.1 h2
   obtain ⟨he,rfl⟩ :=pure_some.1 h4
   cases he
   obtain ⟨cs,r,hv,hlen,e1,e2⟩ :=sim_firstM (P :=P) hI h3 hx
   refine ⟨xi,cs,rfl,⟨hv,hlen,(fun h => absurd h (by simp [hz])),fun _ w' hw => ⟨?_,r w' hw⟩⟩,e1,e2⟩
   unfold lenOfV at hl
   split at hl
   ·cases hl;cases hx <;> rfl
   ·cases hl;cases hx;simp [Builtin.lenOf,bl_size]
   ·cases hl
theorem run_append_head {ts : Array TypeId} {st xt e ty : TypeId} {j xi : TI} (h0 : ts[0]? = some st) (h1 : ts[1]? = some xt) (hst : P.underlying st = some (.slice e))
  (hj : TIOK P e j) (hxi : TIOK P xt xi) {base : Option Addr} {len cap n : Nat} {x' : Value} {ys : List Value} {cs : Array Value}
  (hn : NewOK P β j (isIntD xi.desc) n ys x' w cs) :
  (len + n ≤ cap → (Builtin.append_ ts ty #[.slice base len cap,x']).run P w =
    (do if let some a :=base then storeCells (a.add (len * j.size)) cs.toList
        pure (.slice base (len + n) cap) : Sem Value).run P w) ∧
  (¬ len + n ≤ cap → len + n < 1099511627776 → 0 < j.bytes → (len + n) * j.bytes < 68719476736 →
   ∃ (w1 : World) (newCap : Nat),w1.heap = w.heap ∧ Below N0 w w1 ∧ len + n ≤ newCap ∧ newCap < UNK ∧
    ∀ old,(Builtin.firstCells j.size len (.slice base len cap)).run P w1 = .ok old w1 →
     (Builtin.append_ ts ty #[.slice base len cap,x']).run P w =
      .ok (.slice (some ⟨w.heap.size,0,none⟩) (len + n) newCap) (pushW w1 (.cells (old ++ cs ++ Builtin.zeroCells j.zero.cells (newCap - (len + n))) e))) :=by
 obtain ⟨f,hfi,hf3,hf2,_⟩ :=hj.info
 have hf1 : ∀ w,(typeInfo e).run P w = .ok f w :=fun w => by simp [typeInfo,hfi]
 cases hz : isIntD xi.desc with
 | true =>
  obtain ⟨⟨k,rfl⟩,b1,b2,rfl⟩ :=hn.zero hz
  have hint : ∃ q,xi.desc = .int q :=by
   cases hd : xi.desc <;> rw [hd] at hz <;> first | exact ⟨_,rfl⟩ | (simp [isIntD] at hz)
  obtain ⟨q,hq⟩ :=hint
  have hux :=hxi.under
  rw [hq] at hux
  have w1 : IntKind.i64.wrap (Int.ofNat n) = (n : Int) :=by
   simp only [IntKind.wrap,IntKind.bits,IntKind.signed,Int.ofNat_eq_natCast]
   have : (n : Int) % 2 ^ 64 = n :=by omega
   simp only [this];simp;omega
  have c1 : ¬ ((n : Int) < 0) :=by omega
  have c2 : ¬ ((n : Int) * f.bytes > 2 ^ 48) :=by
   have : (n : Int) * f.bytes = ((n * j.bytes : Nat) : Int) :=by rw [Int.natCast_mul,hf2]
   rw [this];omega
  have hzl : j.zero.cells.toList.length = j.size :=by rw [← cellsL_eq];exact hj.len
  have hzs : j.zero.cells.size = j.size :=by simpa using hzl
  have happ : ∀ w',(if n * j.size = 0 then pure #[] else do pure (Builtin.zeroCells (← zeroValue e).cells n) : Sem (Array Value)).run P w' = .ok (Builtin.zeroCells j.zero.cells n) w' :=by
   intro w'
   split
   ·rename_i h0
    have : Builtin.zeroCells j.zero.cells n = #[] :=by unfold Builtin.zeroCells;rw [hzs,h0];simp
    rw [this];rfl
   ·simp only [Sem.run_bind,rZ hj,Result.andThen_ok,Sem.run_pure]
  have a0 : (#[Value.slice base len cap,Value.int k (Int.ofNat n)] : Array Value)[0]? = some (.slice base len cap) :=rfl
  have a1 : (#[Value.slice base len cap,Value.int k (Int.ofNat n)] : Array Value)[1]? = some (.int k (Int.ofNat n)) :=rfl
  refine ⟨fun hle => ?_,fun hle hb1 hb2 hb3 => ?_⟩
  ·simp only [Builtin.append_,h0,h1,a0,a1,Sem.run_bind,rU hst,rU hux,Result.andThen_ok,Sem.run_pure,rS hj,asInt,asIntOf,w1,c1,c2,hf1,if_false,if_true,Int.toNat_natCast,hle,Bool.not_true,Bool.false_eq_true]
   rw [happ]
   rfl
  ·have hne : len + n ≠ 0 :=by omega
   have d1 : ¬ (((len + n : Nat) : Int) > IntKind.i64.max ∧ (True ∨ f.bytes = 0)) :=by
    intro h;have :=h.1;simp [IntKind.max,IntKind.signed,IntKind.bits] at this;omega
   have d2 : ¬ (Builtin.nextslicecap (len + n) cap * f.bytes > 2 ^ 48) :=by
    have q1 :=nextcap_le (need :=len + n) (old :=cap) (by omega)
    have q2 : Builtin.nextslicecap (len + n) cap * f.bytes ≤ (2 * (len + n) + 768) * f.bytes :=Nat.mul_le_mul_right _ q1
    have q3 : f.bytes ≤ (len + n) * f.bytes :=Nat.le_mul_of_pos_left _ (by omega)
    have q4 : (2 * (len + n) + 768) * f.bytes = 2 * ((len + n) * f.bytes) + 768 * f.bytes :=by rw [Nat.add_mul,Nat.mul_assoc]
    rw [hf2] at *
    omega
   obtain ⟨newCap,w2,e1,e2,e3,e4,e5⟩ :=run_appendCap (P :=P) (w :=w) N0 (len + n) cap e (by unfold UNK;omega)
   refine ⟨w2,newCap,e2,e3,e4,e5,fun old hold => ?_⟩
   simp only [Builtin.append_,h0,h1,a0,a1,Sem.run_bind,rU hst,rU hux,Result.andThen_ok,Sem.run_pure,rS hj,asInt,asIntOf,w1,c1,c2,hf1,if_false,if_true,Int.toNat_natCast,hle,Bool.not_true,Bool.false_eq_true]
   rw [if_neg d1]
   simp only [Sem.run_bind,hf1,Result.andThen_ok,d2,if_false,e1,run_askRoom,hold,happ,rZ hj,Sem.run_pure]
   rw [← e2];rfl
 | false =>
  obtain ⟨hlen,hfirst⟩ :=hn.other hz w rfl
  have hux :=hxi.under
  have a0 : (#[Value.slice base len cap,x'] : Array Value)[0]? = some (.slice base len cap) :=rfl
  have a1 : (#[Value.slice base len cap,x'] : Array Value)[1]? = some x' :=rfl
  refine ⟨fun hle => ?_,fun hle hb1 hb2 hb3 => ?_⟩
  ·generalize xi.desc = d at hux hz
   cases d <;> first
    | (simp [isIntD] at hz;done)
    | (simp only [Builtin.append_,h0,h1,a0,a1,Sem.run_bind,rU hst,rU hux,Result.andThen_ok,Sem.run_pure,rS hj,Bool.false_eq_true,if_false,hlen,hle,if_true,Bool.not_false,hfirst];rfl)
  ·have d1 : ¬ (((len + n : Nat) : Int) > IntKind.i64.max ∧ (False ∨ f.bytes = 0)) :=by
    intro h;have :=h.1;simp [IntKind.max,IntKind.signed,IntKind.bits] at this;omega
   have d2 : ¬ (Builtin.nextslicecap (len + n) cap * f.bytes > 2 ^ 48) :=by
    have q1 :=nextcap_le (need :=len + n) (old :=cap) (by omega)
    have q2 : Builtin.nextslicecap (len + n) cap * f.bytes ≤ (2 * (len + n) + 768) * f.bytes :=Nat.mul_le_mul_right _ q1
    have q3 : f.bytes ≤ (len + n) * f.bytes :=Nat.le_mul_of_pos_left _ (by omega)
    have q4 : (2 * (len + n) + 768) * f.bytes = 2 * ((len + n) * f.bytes) + 768 * f.bytes :=by rw [Nat.add_mul,Nat.mul_assoc]
    rw [hf2] at *
    omega
   obtain ⟨newCap,w2,e1,e2,e3,e4,e5⟩ :=run_appendCap (P :=P) (w :=w) N0 (len + n) cap e (by unfold UNK;omega)
   refine ⟨w2,newCap,e2,e3,e4,e5,fun old hold => ?_⟩
   have hnew :=(hn.other hz w2 e2).2
   generalize xi.desc = d at hux hz
   cases d <;> first
    | (simp [isIntD] at hz;done)
    | (simp only [Builtin.append_,h0,h1,a0,a1,Sem.run_bind,rU hst,rU hux,Result.andThen_ok,Sem.run_pure,rS hj,Bool.false_eq_true,if_false,hlen,hle,Bool.not_false,if_true,hf1]
       rw [if_neg d1]
       simp only [Sem.run_bind,hf1,Result.andThen_ok,d2,if_false,e1,run_askRoom,hold,hnew,rZ hj,Sem.run_pure]
       rw [← e2];rfl)
theorem Inv.kill {g g' : Nat → Option Blk} (h : Inv N0 β g w) {b : Nat} {o : Blk} (hb : g b = some o) (hg : ∀ n,g' n = if b = n then some .dead else g n) : Inv N0 β g' w :=by
 refine ⟨fun n y hy => ?_,fun b1 b2 o1 o2 L1 L2 hne h1 h2 l1 l2 e1 e2 er => ?_,h.size⟩
 ·rw [hg] at hy
  by_cases hn : b = n
  ·subst hn;rw [if_pos rfl] at hy;cases hy
   obtain ⟨L,hL,_⟩ :=h.live b o hb
   exact ⟨L,hL,trivial⟩
  ·rw [if_neg hn] at hy;exact h.live n y hy
 ·rw [hg] at h1 h2
  by_cases a1 : b = b1
  ·rw [if_pos a1] at h1;cases h1;simp [Blk.live] at l1
  ·rw [if_neg a1] at h1
   by_cases a2 : b = b2
   ·rw [if_pos a2] at h2;cases h2;simp [Blk.live] at l2
   ·rw [if_neg a2] at h2;exact h.alone b1 b2 o1 o2 L1 L2 hne h1 h2 l1 l2 e1 e2 er
theorem Inv.move {g g' : Nat → Option Blk} (h : Inv N0 β g w) {b nb : Nat} {o o' : Blk} {L L' : Loc} {x : Obj} (hb : g b = some o) (hl : o.live = true) (hro : o.isRo = false)
  (hL : β b = some L) (hr : L'.r = L.r) (hn : β nb = none) (hg : ∀ n,g' n = if nb = n then some o' else if b = n then some .dead else g n)
  (ho : OSim N0 (addB β nb L') (setBlk w L.r x) o' L') : Inv N0 (addB β nb L') g' (setBlk w L.r x) :=by
 obtain ⟨L0,hL0,hs⟩ :=h.live b o hb
 have : L0 = L :=by rw [hL] at hL0;cases hL0;rfl
 subst this
 have away : ∀ {n : Nat} {y : Blk} {K : Loc},nb ≠ n → b ≠ n → g n = some y → y.live = true → addB β nb L' n = some K → K.r ≠ L0.r ∧ β n = some K :=by
  intro n y K h1 h2 hy hd hK
  obtain ⟨Ln,hLn,hsn⟩ :=h.live n y hy
  unfold addB at hK
  rw [if_neg (fun e => h1 e.symm),hLn] at hK
  cases hK
  refine ⟨fun e => ?_,hLn⟩
  have :=h.alone n b y o _ L0 (fun e => h2 e.symm) hy hb hd hl hLn hL e
  rw [hro] at this;exact absurd this.2 (by simp)
 refine ⟨fun n y hy => ?_,fun b1 b2 o1 o2 L1 L2 hne h1 h2 l1 l2 e1 e2 er => ?_,by rw [setBlk_size];exact h.size⟩
 ·rw [hg] at hy
  by_cases h1 : nb = n
  ·subst h1;rw [if_pos rfl] at hy;cases hy;exact ⟨L',addB_same ..,ho⟩
  ·rw [if_neg h1] at hy
   by_cases h2 : b = n
   ·subst h2;rw [if_pos rfl] at hy;cases hy
    exact ⟨L0,addB_keep hn _ _ hL,trivial⟩
   ·rw [if_neg h2] at hy
    obtain ⟨Ln,hLn,hsn⟩ :=h.live n y hy
    refine ⟨Ln,addB_keep hn _ _ hLn,?_⟩
    cases hd : y.live with
    | false => cases y with | dead => trivial | _ => simp [Blk.live] at hd
    | true => exact hsn.mono (addB_keep hn) (setBlk_other (away h1 h2 hy hd (addB_keep hn _ _ hLn)).1)
 ·rw [hg] at h1 h2
  by_cases a1 : nb = b1
  ·subst a1
   rw [if_neg hne] at h2
   rw [addB_same] at e1;cases e1
   by_cases a2 : b = b2
   ·rw [if_pos a2] at h2;cases h2;simp [Blk.live] at l2
   ·rw [if_neg a2] at h2
    exact absurd (er ▸ hr) (away hne a2 h2 l2 e2).1
  ·rw [if_neg a1] at h1
   by_cases a2 : b = b1
   ·rw [if_pos a2] at h1;cases h1;simp [Blk.live] at l1
   ·rw [if_neg a2] at h1
    by_cases a3 : nb = b2
    ·subst a3
     rw [addB_same] at e2;cases e2
     exact absurd (er ▸ hr) (away a1 a2 h1 l1 e1).1
    ·rw [if_neg a3] at h2
     by_cases a4 : b = b2
     ·rw [if_pos a4] at h2;cases h2;simp [Blk.live] at l2
     ·rw [if_neg a4] at h2
      exact h.alone b1 b2 o1 o2 L1 L2 hne h1 h2 l1 l2 (away a1 a2 h1 l1 e1).2 (away a3 a4 h2 l2 e2).2 er
theorem VL.ones {l l' : List Value} (h : VL β l l') (ho : l.all one = true) : ∀ v ∈ l',v.oneCell' = true :=by
 intro v hv
 obtain ⟨i,hi,rfl⟩ :=List.getElem_of_mem hv
 have hl :=h.length
 have hi' : i < l.length :=by omega
 obtain ⟨v',e1,e2⟩ :=h.get (List.getElem?_eq_getElem hi')
 rw [List.getElem?_eq_getElem hi] at e1;cases e1
 exact e2.one (List.all_eq_true.1 ho _ (List.getElem_mem hi'))
end
end
end Go.Ideal

namespace Go.Ideal
set_option linter.all false
set_option linter.unusedSimpArgs false
set_option linter.unusedVariables false
noncomputable section
open Go Go.RowKit
set_option maxHeartbeats 1000000
section
variable {P : Program} {E : Env} {N0 : Nat → Prop} {β : Bij} {w : World} {s s' : S}
theorem zeroCells_size (z : Array Value) (n : Nat) : (Builtin.zeroCells z n).size = n * z.size :=by simp [Builtin.zeroCells]
theorem grow_new (_hE : EnvOK P E) (hI : Inv N0 β s.h.get w) {e : TypeId} {j : TI} (hj : TIOK P e j) {old ys : List Value} {olds cs : Array Value} {need newCap : Nat} {b : Nat} {k : Kd}
  (h : new (.cells (old ++ ys) e k) s = some (b,s')) (hk : KOK N0 ⟨w.heap.size,0,newCap * j.size⟩ (0,0) k) (hf : Fresh β s.nx s'.nx) (ho : VL β old olds.toList) (hy : VL β ys cs.toList)
  (hlen : (old ++ ys).length = need * j.size) (hc1 : need ≤ newCap) (hc2 : newCap < UNK) (hn : need < 1099511627776) :
  ∃ β',V β' (.slice (some ⟨b,0,none⟩) need (capOf need j.size)) (.slice (some ⟨w.heap.size,0,none⟩) need newCap) ∧
   Out N0 β s w s' β' (pushW w (.cells (olds ++ cs ++ Builtin.zeroCells j.zero.cells (newCap - need)) e)) :=by
 have hzl : j.zero.cells.toList.length = j.size :=by rw [← cellsL_eq];exact hj.len
 have hzs : j.zero.cells.size = j.size :=by simpa using hzl
 let c : Array Value :=olds ++ cs ++ Builtin.zeroCells j.zero.cells (newCap - need)
 have h1 :=ho.length
 have h2 :=hy.length
 have hcs : olds.size + cs.size = need * j.size :=by simp at hlen h1 h2;omega
 have hsz : c.size = newCap * j.size :=by
  simp only [c,Array.size_append,zeroCells_size,hzs]
  rw [hcs,← Nat.add_mul];congr 1;omega
 have hxs : VL β (old ++ ys) (c.toList.take (old ++ ys).length) :=by
  have : c.toList.take (old ++ ys).length = olds.toList ++ cs.toList :=by
   simp only [c,Array.toList_append]
   rw [List.take_append_of_le_length (by simp at h1 h2 ⊢;omega),List.take_of_length_le (by simp at h1 h2 ⊢;omega)]
  rw [this];exact ho.append hy
 have hle : need * j.size ≤ newCap * j.size :=Nat.mul_le_mul_right _ hc1
 obtain ⟨rfl,hout,-⟩ :=sim_newCells hI h hf (c :=c) hxs (by omega) (0,0) (by rw [hsz];exact hk)
 refine ⟨_,?_,hout⟩
 refine .sl (L :=⟨w.heap.size,0,c.size⟩) (off :=0) (addB_same _ _ _) ⟨fun h => ?_,fun _ => ?_,fun _ => ?_,fun _ => hc2,hc1⟩
 ·have :=capOf_unk need j.size;omega
 ·rw [lbOf_capOf (by unfold UNK;omega)];exact hc1
 ·rw [esOf_capOf (by unfold UNK;omega),hsz];simp
theorem sim_appendM (hE : EnvOK P E) (hI : Inv N0 β s.h.get w) {ts : Array TypeId} {x x' y y' v : Value} {ty : TypeId}
  (h : appendM E (ts[0]?) (ts[1]?) x y s = some (v,s')) (hf : Fresh β s.nx s'.nx) (hx : V β x x') (hy : V β y y') :
  ∃ β' w' v',(Builtin.append_ ts ty #[x',y']).run P w = .ok v' w' ∧ V β' v v' ∧ Out N0 β s w s' β' w' :=by
 unfold appendM at h
 cases h0 : ts[0]? with
 | none => rw [h0] at h;exact (fail_some.1 h).elim
 | some st =>
 rw [h0] at h;simp only at h
 cases hi : E.ti st with
 | none => rw [hi] at h;exact (fail_some.1 h).elim
 | some i =>
 rw [hi] at h;simp only at h
 have hu :=(hE.ti _ _ hi).under
 obtain ⟨m,hm,h⟩ : ∃ m : M Value,m = _ ∧ m s = some (v,s') :=⟨_,rfl,h⟩
 split at hm
 ·rename_i e base len cap hd
  subst hm
  rw [hd] at hu
  cases hj : E.ti e with
  | none => rw [hj] at h;exact (fail_some.1 h).elim
  | some j =>
   rw [hj] at h;simp only at h
   have htj :=hE.ti _ _ hj
   obtain ⟨_,s1,h1,h2⟩ :=bind_some.1 h
   obtain ⟨hg,rfl⟩ :=guardM_some.1 h1
   simp only [Bool.and_eq_true] at hg
   have hsz :=blt_iff.1 hg.1
   have hby :=blt_iff.1 hg.2
   obtain ⟨p,s2,h3,h4⟩ :=bind_some.1 h2
   obtain ⟨n,ys⟩ :=p
   cases hxt : ts[1]? with
   | none => rw [hxt] at h3;simp only [newCells] at h3;exact (fail_some.1 h3).elim
   | some xt =>
    rw [hxt] at h3
    obtain ⟨xi,cs,hxi,hn,e1,e2⟩ :=sim_newCellsM hE hI htj h3 hy
    have hI2 : Inv N0 β s2.h.get w :=by rw [e1];exact hI
    have htx :=hE.ti _ _ hxi
    simp only at h4
    have hysl :=hn.rel.length
    cases hfit : Nat.ble (len + n) (cond (Nat.blt cap UNK) cap (lbOf cap)) with
    | true =>
     rw [hfit] at h4;simp only [cond_true] at h4
     have hfit :=ble_iff.1 hfit
     cases hx with
     | nilsl =>
      have hn0 : n = 0 :=by
       have : cond (Nat.blt 0 UNK) 0 (lbOf 0) = 0 :=by unfold lbOf;simp
       omega
      subst hn0
      obtain ⟨rfl,rfl⟩ :=pure_some.1 h4
      refine ⟨β,w,.slice none 0 0,?_,.nilsl,Out.same hI e1⟩
      rw [(run_append_head (N0 :=N0) h0 hxt hu htj htx (base :=none) (len :=0) (cap :=0) hn).1 (by omega)]
      rfl
     | sl0 A A' =>
      have hn0 : n = 0 :=by
       have : cond (Nat.blt 0 UNK) 0 (lbOf 0) = 0 :=by unfold lbOf;simp
       omega
      subst hn0
      simp only [Nat.zero_mul,Nat.beq_refl,cond_true] at h4
      obtain ⟨rfl,rfl⟩ :=pure_some.1 h4
      have hcs : cs.toList = [] :=by have :=hn.len;rw [hysl] at this;exact List.eq_nil_of_length_eq_zero (by simpa using this)
      refine ⟨β,w,.slice (some A') 0 0,?_,.sl0 _ _,Out.same hI e1⟩
      rw [(run_append_head (N0 :=N0) h0 hxt hu htj htx (base :=some A') (len :=0) (cap :=0) hn).1 (by omega)]
      simp [hcs,storeCells]
     | slz A A' hu1 hu2 =>
      have hn0 : n = 0 :=by
       rw [blt_ff (by omega)] at hfit;simp only [cond_false] at hfit;omega
      subst hn0
      simp only [Nat.zero_mul,Nat.beq_refl,cond_true] at h4
      obtain ⟨rfl,rfl⟩ :=pure_some.1 h4
      have hcs : cs.toList = [] :=by have :=hn.len;rw [hysl] at this;exact List.eq_nil_of_length_eq_zero (by simpa using this)
      refine ⟨β,w,.slice (some A') 0 0,?_,.slz _ _ hu1 hu2,Out.same hI e1⟩
      rw [(run_append_head (N0 :=N0) h0 hxt hu htj htx (base :=some A') (len :=0) (cap :=0) hn).1 (by omega)]
      simp [hcs,storeCells]
     | @sl b off _ _ cap' L hL hcap =>
      have hle : len + n ≤ cap' :=by
       cases hk : Nat.blt cap UNK with
       | true => rw [hk] at hfit;have :=hcap.known (blt_iff.1 hk);simp only [cond_true] at hfit;omega
       | false =>
        rw [hk] at hfit
        have hge : UNK ≤ cap :=by
         rcases Nat.lt_or_ge cap UNK with h' | h'
         ·rw [blt_iff.2 h'] at hk;cases hk
         ·exact h'
        have :=hcap.least hge;simp only [cond_false] at hfit;omega
      have hcap2 : CapOK L off (len + n) cap cap' :=⟨hcap.known,hcap.least,hcap.fits,hcap.small,hle⟩
      have hrun :=(run_append_head (N0 :=N0) (ty :=ty) h0 hxt hu htj htx (base :=some ⟨L.r,L.sh + off,none⟩) (len :=len) (cap :=cap') hn).1 hle
      simp only [add_at] at hrun
      cases hz : Nat.beq (n * j.size) 0 with
      | true =>
       rw [hz] at h4
       obtain ⟨rfl,rfl⟩ :=pure_some.1 h4
       have hz :=Nat.eq_of_beq_eq_true hz
       have hcs : cs.toList = [] :=by have :=hn.len;rw [hysl,hz] at this;exact List.eq_nil_of_length_eq_zero this
       refine ⟨β,w,_,?_,.sl hL hcap2,Out.same hI e1⟩
       rw [hrun];simp [hcs,storeCells]
      | false =>
       rw [hz] at h4;simp only [cond_false] at h4
       obtain ⟨_,s3,h5,h6⟩ :=bind_some.1 h4
       obtain ⟨rfl,rfl⟩ :=pure_some.1 h6
       obtain ⟨w',r,ho⟩ :=sim_putCells (P :=P) hI2 h5 hL hn.rel
       refine ⟨β,w',_,?_,.sl hL hcap2,⟨?_,ho.inv,ho.below⟩⟩
       ·rw [hrun];simp only [Sem.run_bind]
        rw [show L.sh + off + len * j.size = L.sh + (off + len * j.size) by omega,r];simp
       ·exact Ext.refl _ _ _
    | false =>
     rw [hfit] at h4;simp only [cond_false] at h4
     have hfit : ¬ len + n ≤ cond (Nat.blt cap UNK) cap (lbOf cap) :=by
      intro h';rw [ble_iff.2 h'] at hfit;cases hfit
     obtain ⟨_,s3,h5,h6⟩ :=bind_some.1 h4
     obtain ⟨hg2,rfl⟩ :=guardM_some.1 h5
     simp only [Bool.and_eq_true] at hg2
     have hb3 :=blt_iff.1 hg2.1
     have hb4 :=blt_iff.1 hg2.2
     obtain ⟨old,s4,h7,h8⟩ :=bind_some.1 h6
     obtain ⟨olds,rold,vold,lold,e3,e4⟩ :=sim_firstM (P :=P) hI2 h7 hx
     obtain ⟨_,s5,h9,h10⟩ :=bind_some.1 h8
     obtain ⟨hones,rfl⟩ :=guardM_some.1 h9
     have hnl : (old ++ ys).length = (len + n) * j.size :=by rw [List.length_append,lold,hn.len,Nat.add_mul]
     have hI4 : Inv N0 β s5.h.get w :=by rw [e3];exact hI2
     have hnx : s5.nx = s1.nx :=by omega
     have hh5 : s5.h = s1.h :=by rw [e3,e1]
     have htail : ∀ {base' : Option Addr} {cap' : Nat},x' = .slice base' len cap' → ¬ len + n ≤ cap' →
       ∃ (w1 : World) (newCap : Nat),w1.heap = w.heap ∧ Below N0 w w1 ∧ len + n ≤ newCap ∧ newCap < UNK ∧
        (Builtin.append_ ts ty #[x',y']).run P w = .ok (.slice (some ⟨w.heap.size,0,none⟩) (len + n) newCap)
         (pushW w1 (.cells (olds ++ cs ++ Builtin.zeroCells j.zero.cells (newCap - (len + n))) e)) :=by
      intro base' cap' hx' hnle
      subst hx'
      obtain ⟨w1,newCap,q1,q2,q3,q4,q5⟩ :=(run_append_head (P :=P) (N0 :=N0) (ty :=ty) h0 hxt hu htj htx (base :=base') (len :=len) (cap :=cap') hn).2 hnle hb4 hby hb3
      exact ⟨w1,newCap,q1,q2,q3,q4,q5 olds (rold w1 q1)⟩
     cases hk : Nat.blt cap UNK with
     | true =>
      rw [hk] at h10 hfit;simp only [cond_true] at h10 hfit
      obtain ⟨b,s6,h11,h12⟩ :=bind_some.1 h10
      obtain ⟨rfl,rfl⟩ :=pure_some.1 h12
      have hform : ∃ base' cap',x' = .slice base' len cap' ∧ ¬ len + n ≤ cap' :=by
       cases hx with
       | nilsl => exact ⟨_,_,rfl,hfit⟩
       | sl0 A A' => exact ⟨_,_,rfl,hfit⟩
       | slz A A' hu1 _ => have :=blt_iff.1 hk;omega
       | sl hL hcap => have :=hcap.known (blt_iff.1 hk);exact ⟨_,_,rfl,by omega⟩
      obtain ⟨base',cap',hx',hnle⟩ :=hform
      obtain ⟨w1,newCap,q1,q2,q3,q4,q5⟩ :=htail hx' hnle
      have hI6 : Inv N0 β s5.h.get w1 :=hI4.world q1
      obtain ⟨β',hv,ho⟩ :=grow_new hE hI6 htj h11 (⟨rfl,hI6.size _ (Nat.le_refl _)⟩ : KOK N0 _ (0,0) .grow) (by rw [hnx];exact hf) vold hn.rel hnl q3 q4 hb4
      refine ⟨β',_,_,q5,by rw [← q1];exact hv,⟨by rw [← hnx];exact ho.ext,ho.inv,q2.trans ho.below⟩⟩
     | false =>
      rw [hk] at h10 hfit;simp only [cond_false] at h10 hfit
      have hge : UNK ≤ cap :=by
       rcases Nat.lt_or_ge cap UNK with h' | h'
       ·rw [blt_iff.2 h'] at hk;cases hk
       ·exact h'
      have hbase : ∃ b0 o0,base = some ⟨b0,o0,none⟩ :=by
       cases base with
       | none => exact (fail_some.1 h10).elim
       | some A => obtain ⟨b0,o0,sp⟩ :=A;cases sp with
        | none => exact ⟨b0,o0,rfl⟩
        | some q => exact (fail_some.1 h10).elim
      obtain ⟨b0,o0,rfl⟩ :=hbase
      simp only at h10
      obtain ⟨ob,s6,h11,h12⟩ :=bind_some.1 h10
      obtain ⟨hb0,hgb,rfl⟩ :=rd_some.1 h11
      cases ob with
      | cells xs e' k =>
       obtain ⟨_,s7,h13,h14⟩ :=bind_some.1 h12
       obtain ⟨hg3,rfl⟩ :=guardM_some.1 h13
       simp only [Bool.and_eq_true] at hg3
       obtain ⟨⟨hgr,hee⟩,hes⟩ :=hg3
       have hee :=Nat.eq_of_beq_eq_true hee;subst hee
       have hes :=Nat.eq_of_beq_eq_true hes
       obtain ⟨_,s8,h15,h16⟩ :=bind_some.1 h14
       obtain ⟨_,rfl⟩ :=wr_some.1 h15
       obtain ⟨b,s9,h17,h18⟩ :=bind_some.1 h16
       obtain ⟨rfl,rfl⟩ :=pure_some.1 h18
       have hIk : Inv N0 β ((s5.h.set depth b0 .dead).get) w :=hI4.kill hgb (fun n => by simp only [Tr.get_set])
       have growB : ∀ {base' : Option Addr} {cap' : Nat},x' = .slice base' len cap' → ¬ len + n ≤ cap' →
         ∃ β' w' v',(Builtin.append_ ts ty #[x',y']).run P w = .ok v' w' ∧ V β' (.slice (some ⟨b,0,none⟩) (len + n) (capOf (len + n) j.size)) v' ∧ Out N0 β s1 w s' β' w' :=by
        intro base' cap' hx' hnle
        obtain ⟨w1,newCap,q1,q2,q3,q4,q5⟩ :=htail hx' hnle
        have hI6 :=hIk.world q1
        have hkk : KOK N0 ⟨w1.heap.size,0,newCap * j.size⟩ (0,0) k :=by
         cases k <;> first | exact ⟨rfl,hI6.size _ (Nat.le_refl _)⟩ | exact ⟨.inl rfl,hI6.size _ (Nat.le_refl _)⟩ | (simp [Kd.growing] at hgr)
        obtain ⟨β',hv,ho⟩ :=grow_new hE hI6 htj h17 hkk (by simp only;rw [hnx];exact hf) vold hn.rel hnl q3 q4 hb4
        exact ⟨β',_,_,q5,by rw [← q1];exact hv,⟨by rw [← hnx];exact ho.ext,ho.inv,q2.trans ho.below⟩⟩
       cases hx with
       | sl0 A A' => unfold UNK at hge;omega
       | slz A A' hu1 hu2 => exact growB rfl (by omega)
       | @sl _ _ _ _ cap' L hL hcap =>
        by_cases hle : len + n ≤ cap'
        ·-- there was room
         obtain ⟨hbn,hs9⟩ :=new_some.1 h17
         subst hbn
         simp only at hs9
         subst hs9
         have hnb : β s5.nx = none :=hf _ (by omega) (by first | omega | (simp only;omega))
         obtain ⟨c,fz,q1,q2,q3,q4,q5⟩ :=hI4.cells hgb hL
         have hfits :=hcap.fits hge
         rw [← hes] at hfits
         have hmul : (len + n) * j.size ≤ cap' * j.size :=Nat.mul_le_mul_right _ hle
         have hadd : (len + n) * j.size = len * j.size + n * j.size :=Nat.add_mul _ _ _
         have hcl : cs.toList.length = n * j.size :=by rw [← hysl];exact hn.len
         have hone : ∀ v ∈ cs.toList,v.oneCell' = true :=by
          rw [List.all_append,Bool.and_eq_true] at hones
          exact hn.rel.ones hones.2
         have hkr : k.isRo = false :=by cases k <;> first | rfl | simp [Kd.growing] at hgr
         have hrun :=(run_append_head (P :=P) (N0 :=N0) (ty :=ty) h0 hxt hu htj htx (base :=some ⟨L.r,L.sh + o0,none⟩) (len :=len) (cap :=cap') hn).1 hle
         simp only [add_at] at hrun
         have hst :=rStoreCells (P :=P) (r :=L.r) (off :=L.sh + o0 + len * j.size) cs.toList 0 c w q1 (by omega) hone (fun i h1 h2 => kok_free q5 hkr i (by omega))
         rw [Nat.add_zero] at hst
         have hr : L.r < w.heap.size :=(Array.getElem?_eq_some_iff.1 q1).1
         have hN : N0 L.r :=by cases k <;> first | exact q5.2 | simp [Kd.growing] at hgr
         let L' : Loc :=⟨L.r,L.sh + o0,L.tot⟩
         refine ⟨addB β s5.nx L',_,_,by rw [hrun];simp only [Sem.run_bind,hst,Result.andThen_ok,Sem.run_pure];rfl,?_,addB_ext hnb (by omega) (by first | omega | (simp only;omega)),?_,setBlk_below hN⟩
         ·have hlb : len + n < UNK :=by unfold UNK;omega
          refine .sl (L :=L') (off :=0) (addB_same _ _ _) ⟨fun h => ?_,fun _ => ?_,fun _ => ?_,fun _ => hcap.small hge,hle⟩
          ·have :=capOf_unk (len + n) j.size;omega
          ·rw [lbOf_capOf hlb];exact hle
          ·rw [esOf_capOf hlb];simp only [L'];omega
         ·refine hI4.move (o' :=.cells (old ++ ys) e k) hgb rfl (by cases k <;> first | rfl | simp [Kd.growing] at hgr) hL (by rfl) hnb (fun m => by simp only [Tr.get_set]) ?_
          refine ⟨_,fz,setBlk_same hr,by rw [over_size];exact q2,by simp only [L'];omega,?_,?_⟩
          ·intro i v hiv
           rw [over_get _ _ _ (by omega)]
           by_cases hi1 : i < old.length
           ·rw [List.getElem?_append_left hi1] at hiv
            have : ¬ (L.sh + o0 + len * j.size ≤ L'.sh + i ∧ L'.sh + i < L.sh + o0 + len * j.size + cs.toList.length) :=by simp only [L'];omega
            rw [if_neg this]
            obtain ⟨v',a1,a2⟩ :=vold.get hiv
            refine ⟨v',?_,a2.mono (addB_keep hnb)⟩
            have hl0 : len * j.size ≠ 0 :=by omega
            have hr1 :=rold w rfl
            simp only [Builtin.firstCells] at hr1
            rw [rLoadCells q1 (by omega)] at hr1
            have hinj : c.extract (L.sh + o0) (L.sh + o0 + len * j.size) = olds :=by injection hr1
            rw [← hinj,Array.toList_extract,List.extract_eq_take_drop,List.getElem?_take_of_lt (by omega),List.getElem?_drop,Array.getElem?_toList] at a1
            exact a1
           ·rw [List.getElem?_append_right (by omega)] at hiv
            have hi2 : i - old.length < ys.length :=(List.getElem?_eq_some_iff.1 hiv).1
            rw [if_pos (by simp only [L'];omega)]
            obtain ⟨v',a1,a2⟩ :=hn.rel.get hiv
            refine ⟨v',?_,a2.mono (addB_keep hnb)⟩
            rw [← a1];congr 1;simp only [L'];omega
          ·cases k <;> first | exact q5 | simp [Kd.growing] at hgr
        ·exact growB rfl hle
      | _ => exact (fail_some.1 h12).elim
 ·subst hm;exact (fail_some.1 h).elim
end
end
end Go.Ideal

namespace Go.Ideal
set_option linter.all false
set_option linter.unusedSimpArgs false
set_option linter.unusedVariables false
noncomputable section
open Go Go.RowKit
set_option maxHeartbeats 1000000
section
variable {P : Program} {E : Env} {N0 : Nat → Prop} {β : Bij} {w : World} {s s' : S}
theorem sim_lenM (hE : EnvOK P E) (hI : Inv N0 β s.h.get w) {t ty : TypeId} {ts : Array TypeId} (ht : ts[0]? = some t) {x x' v : Value} (h : lenM E t x s = some (v,s')) (hx : V β x x') :
  ∃ v',(Builtin.len_ ts ty #[x']).run P w = .ok v' w ∧ V β v v' ∧ s'.h = s.h :=by
 have main : ∀ v,lenV E t x = some v → V β v v :=by
  intro v hv
  unfold lenV at hv
  cases hi : E.ti t with
  | none => rw [hi] at hv;cases hv
  | some i => rw [hi] at hv;simp only at hv;split at hv <;> first | (cases hv;done) | (cases hv;exact .int _ _)
 cases hx with
 | map hL =>
  rename_i b L
  simp only [lenM] at h
  cases hi : E.ti t with
  | none => rw [hi] at h;exact (fail_some.1 h).elim
  | some i =>
   rw [hi] at h;simp only at h
   have hu :=(hE.ti _ _ hi).under
   cases hd : i.desc with
   | map k e =>
    rw [hd] at h hu;simp only at h
    obtain ⟨o,s1,h1,h2⟩ :=bind_some.1 h
    obtain ⟨hb,hg,rfl⟩ :=rd_some.1 h1
    cases o with
    | map es clock =>
     obtain ⟨rfl,rfl⟩ :=pure_some.1 h2
     obtain ⟨es',q1,q2,q3⟩ :=hI.map hg hL
     have hl :=q2.length
     refine ⟨.int .i64 es'.size,?_,?_,rfl⟩
     ·simp [Builtin.len_,ht,rU hu,run_getMap q1,goInt]
     ·rw [hl];simp;exact .int _ _
    | _ => exact (fail_some.1 h2).elim
   | _ => rw [hd] at h;exact (fail_some.1 h).elim
 | nilmap => simp only [lenM] at h;obtain ⟨hv,rfl⟩ :=liftO_some.1 h;exact ⟨v,sim_len (β :=β) hE hv .nilmap ty ht,main v hv,rfl⟩
 | bool b => simp only [lenM] at h;obtain ⟨hv,rfl⟩ :=liftO_some.1 h;exact ⟨v,sim_len (β :=β) hE hv (.bool b) ty ht,main v hv,rfl⟩
 | int k n => simp only [lenM] at h;obtain ⟨hv,rfl⟩ :=liftO_some.1 h;exact ⟨v,sim_len (β :=β) hE hv (.int k n) ty ht,main v hv,rfl⟩
 | string q => simp only [lenM] at h;obtain ⟨hv,rfl⟩ :=liftO_some.1 h;exact ⟨v,sim_len (β :=β) hE hv (.string q) ty ht,main v hv,rfl⟩
 | nilptr => simp only [lenM] at h;obtain ⟨hv,rfl⟩ :=liftO_some.1 h;exact ⟨v,sim_len (β :=β) hE hv .nilptr ty ht,main v hv,rfl⟩
 | ptr e => simp only [lenM] at h;obtain ⟨hv,rfl⟩ :=liftO_some.1 h;exact ⟨v,sim_len (β :=β) hE hv (.ptr e) ty ht,main v hv,rfl⟩
 | nilsl => simp only [lenM] at h;obtain ⟨hv,rfl⟩ :=liftO_some.1 h;exact ⟨v,sim_len (β :=β) hE hv .nilsl ty ht,main v hv,rfl⟩
 | sl e c => simp only [lenM] at h;obtain ⟨hv,rfl⟩ :=liftO_some.1 h;exact ⟨v,sim_len (β :=β) hE hv (.sl e c) ty ht,main v hv,rfl⟩
 | slz A A' a b => simp only [lenM] at h;obtain ⟨hv,rfl⟩ :=liftO_some.1 h;exact ⟨v,sim_len (β :=β) hE hv (.slz A A' a b) ty ht,main v hv,rfl⟩
 | sl0 A A' => simp only [lenM] at h;obtain ⟨hv,rfl⟩ :=liftO_some.1 h;exact ⟨v,sim_len (β :=β) hE hv (.sl0 A A') ty ht,main v hv,rfl⟩
 | nilfunc => simp only [lenM] at h;obtain ⟨hv,rfl⟩ :=liftO_some.1 h;exact ⟨v,sim_len (β :=β) hE hv .nilfunc ty ht,main v hv,rfl⟩
 | func f a b => simp only [lenM] at h;obtain ⟨hv,rfl⟩ :=liftO_some.1 h;exact ⟨v,sim_len (β :=β) hE hv (.func f a b) ty ht,main v hv,rfl⟩
 | nilif => simp only [lenM] at h;obtain ⟨hv,rfl⟩ :=liftO_some.1 h;exact ⟨v,sim_len (β :=β) hE hv .nilif ty ht,main v hv,rfl⟩
 | iface t' e => simp only [lenM] at h;obtain ⟨hv,rfl⟩ :=liftO_some.1 h;exact ⟨v,sim_len (β :=β) hE hv (.iface t' e) ty ht,main v hv,rfl⟩
 | agg e => simp only [lenM] at h;obtain ⟨hv,rfl⟩ :=liftO_some.1 h;exact ⟨v,sim_len (β :=β) hE hv (.agg e) ty ht,main v hv,rfl⟩
 | tuple e => simp only [lenM] at h;obtain ⟨hv,rfl⟩ :=liftO_some.1 h;exact ⟨v,sim_len (β :=β) hE hv (.tuple e) ty ht,main v hv,rfl⟩
theorem run_lenOf {x x' : Value} {m : Nat} (h : lenOfV x = some m) (hx : V β x x') (w : World) : (Builtin.lenOf x').run P w = .ok m w :=by
 unfold lenOfV at h
 split at h
 ·cases h;cases hx <;> rfl
 ·cases h;cases hx;simp [Builtin.lenOf,bl_size]
 ·cases h
theorem sim_copyM (hE : EnvOK P E) (hI : Inv N0 β s.h.get w) {t ty : TypeId} {ts : Array TypeId} (ht : ts[0]? = some t) {d d' x x' v : Value} (h : copyM E t d x s = some (v,s')) (hd : V β d d') (hx : V β x x') :
  ∃ w' v',(Builtin.copy_ ts ty #[d',x']).run P w = .ok v' w' ∧ V β v v' ∧ Out N0 β s w s' β w' :=by
 unfold copyM at h
 cases hi : E.ti t with
 | none => rw [hi] at h;exact (fail_some.1 h).elim
 | some i =>
 rw [hi] at h;simp only at h
 have hu :=(hE.ti _ _ hi).under
 obtain ⟨m,hm,h⟩ : ∃ m : M Value,m = _ ∧ m s = some (v,s') :=⟨_,rfl,h⟩
 split at hm
 ·rename_i e base len c hdd
  subst hm
  rw [hdd] at hu
  cases hj : E.ti e with
  | none => rw [hj] at h;exact (fail_some.1 h).elim
  | some j =>
   rw [hj] at h;simp only at h
   have htj :=hE.ti _ _ hj
   obtain ⟨q,s1,h1,h2⟩ :=bind_some.1 h
   obtain ⟨hlen,rfl⟩ :=liftO_some.1 h1
   have hmin : cond (Nat.ble q len) q len = Nat.min q len :=by
    by_cases hq : q ≤ len
    ·rw [ble_iff.2 hq];exact (Nat.min_eq_left hq).symm
    ·rw [ble_ff hq];exact (Nat.min_eq_right (Nat.le_of_lt (Nat.lt_of_not_le hq))).symm
   simp only [hmin] at h2
   obtain ⟨ys,s2,h3,h4⟩ :=bind_some.1 h2
   obtain ⟨cs,r,hv,hl,e1,e2⟩ :=sim_firstM (P :=P) hI h3 hx
   have hI2 : Inv N0 β s2.h.get w :=by rw [e1];exact hI
   have hbase : ∃ base' cap',d' = .slice base' len cap' :=by cases hd <;> exact ⟨_,_,rfl⟩
   obtain ⟨base',cap',rfl⟩ :=hbase
   have hhead : ∀ (w' : World),(match base' with | some a => storeCells a cs.toList | none => pure () : Sem Unit).run P w = .ok () w' →
     (Builtin.copy_ ts ty #[.slice base' len cap',x']).run P w = .ok (.int .i64 (Nat.min q len)) w' :=by
    intro w' hst
    have a0 : (#[Value.slice base' len cap',x'] : Array Value)[0]? = some (.slice base' len cap') :=rfl
    have a1 : (#[Value.slice base' len cap',x'] : Array Value)[1]? = some x' :=rfl
    simp only [Builtin.copy_,ht,a0,a1,Sem.run_bind,rU hu,Result.andThen_ok,run_lenOf hlen hx,rS htj,r w rfl]
    cases base' with
    | none => simp only [Sem.run_pure] at hst ⊢;cases hst;rfl
    | some a => simp only [Sem.run_bind];simp only at hst;rw [hst];rfl
   cases ys with
   | nil =>
    obtain ⟨rfl,rfl⟩ :=pure_some.1 h4
    have hcs : cs.toList = [] :=by have :=hv.length;exact List.eq_nil_of_length_eq_zero (by simpa using this.symm)
    refine ⟨w,_,hhead w ?_,.int _ _,Out.same hI e1⟩
    cases base' <;> simp [hcs,storeCells]
   | cons y0 yr =>
    cases hd with
    | @sl b off _ _ _ L hL hcap =>
     simp only at h4
     obtain ⟨_,s3,h5,h6⟩ :=bind_some.1 h4
     obtain ⟨rfl,rfl⟩ :=pure_some.1 h6
     obtain ⟨w',r',ho⟩ :=sim_putCells (P :=P) hI2 h5 hL hv
     exact ⟨w',_,hhead w' r',.int _ _,⟨Ext.refl _ _ _,ho.inv,ho.below⟩⟩
    | nilsl => exact (fail_some.1 h4).elim
    | slz A A' u1 u2 =>
     simp only [List.length_cons] at hl
     have : Nat.min q 0 = 0 :=Nat.min_zero q
     rw [this] at hl;simp at hl
    | sl0 A A' =>
     simp only [List.length_cons] at hl
     have : Nat.min q 0 = 0 :=Nat.min_zero q
     rw [this] at hl;simp at hl
 ·subst hm;exact (fail_some.1 h).elim
theorem sim_clearM (hE : EnvOK P E) (hI : Inv N0 β s.h.get w) {t ty : TypeId} {ts : Array TypeId} (ht : ts[0]? = some t) {x x' v : Value} (h : clearM E t x s = some (v,s')) (hx : V β x x') :
  ∃ w' v',(Builtin.clear_ ts ty #[x']).run P w = .ok v' w' ∧ V β v v' ∧ Out N0 β s w s' β w' :=by
 unfold clearM at h
 cases hi : E.ti t with
 | none => rw [hi] at h;exact (fail_some.1 h).elim
 | some i =>
 rw [hi] at h;simp only at h
 have hu :=(hE.ti _ _ hi).under
 obtain ⟨m,hm,h⟩ : ∃ m : M Value,m = _ ∧ m s = some (v,s') :=⟨_,rfl,h⟩
 split at hm
 ·rename_i e base n c hdd
  subst hm
  rw [hdd] at hu
  cases hn : Nat.beq n 0 with
  | true =>
   rw [hn] at h
   obtain ⟨rfl,rfl⟩ :=pure_some.1 h
   have :=Nat.eq_of_beq_eq_true hn;subst this
   refine ⟨w,.tuple #[],?_,.tuple .nil,Out.same hI rfl⟩
   cases hx <;> simp [Builtin.clear_,ht,rU hu]
  | false =>
   rw [hn] at h;simp only [cond_false] at h
   cases hj : E.ti e with
   | none => rw [hj] at h;exact (fail_some.1 h).elim
   | some j =>
    rw [hj] at h
    have htj :=hE.ti _ _ hj
    cases hx with
    | @sl b off _ _ _ L hL hcap =>
     simp only at h
     obtain ⟨_,s1,h1,h2⟩ :=bind_some.1 h
     obtain ⟨rfl,rfl⟩ :=pure_some.1 h2
     have hz : VL β (repL (cellsL j.zero) n) (Builtin.zeroCells j.zero.cells n).toList :=by
      unfold Builtin.zeroCells;rw [zeros_eq,← cellsL_eq];exact VL.repL htj.zero _
     obtain ⟨w',r,ho⟩ :=sim_putCells (P :=P) hI h1 hL hz
     refine ⟨w',.tuple #[],?_,.tuple .nil,ho⟩
     have hn0 : n ≠ 0 :=fun e => by subst e;simp at hn
     obtain ⟨n,rfl⟩ : ∃ q,n = q + 1 :=⟨n - 1,by omega⟩
     simp [Builtin.clear_,ht,rU hu,rZ htj,r]
    | nilsl => simp at hn
    | slz A A' u1 u2 => simp at hn
    | sl0 A A' => simp at hn
 ·subst hm;exact (fail_some.1 h).elim
end
end
end Go.Ideal

namespace Go.Ideal
set_option linter.all false
set_option linter.unusedSimpArgs false
set_option linter.unusedVariables false
noncomputable section
open Go Go.RowKit
set_option maxHeartbeats 1000000
theorem undef_V (β : Bij) : V β undef undef :=.tuple .nil
def Yield (n : Next) (v : Value) : Prop :=n = .value v ∨ (n = .skip ∧ v = undef)
section
variable {P : Program} {E : Env} {N0 : Nat → Prop} {β : Bij} {w : World} {s s' : S} {ev : Operand → Option Value} {ρ : Operand → Value}
theorem evalL_rel (hρ : ∀ x v,ev x = some v → V β v (ρ x)) : ∀ {l : List Operand} {vs : List Value},evalL ev l = some vs → VL β vs (l.map ρ)
 | [],vs,h => by simp only [evalL] at h;cases h;exact .nil
 | x :: r,vs,h => by
  simp only [evalL] at h
  cases hx : ev x with
  | none => rw [hx] at h;cases h
  | some v =>
   rw [hx] at h;simp only at h
   cases hr : evalL ev r with
   | none => rw [hr] at h;cases h
   | some l => rw [hr] at h;cases h;exact .cons (hρ x v hx) (evalL_rel hρ hr)
theorem evalP_rel (hρ : ∀ x v,ev x = some v → V β v (ρ x)) : ∀ {l : List (Nat × Operand)} {vs : List (Nat × Value)},evalP ev l = some vs → PL β vs (l.map fun (i,x) => (i,ρ x))
 | [],vs,h => by simp only [evalP] at h;cases h;exact .nil
 | (i,x) :: r,vs,h => by
  simp only [evalP] at h
  cases hx : ev x with
  | none => rw [hx] at h;cases h
  | some v =>
   rw [hx] at h;simp only at h
   cases hr : evalP ev r with
   | none => rw [hr] at h;cases h
   | some l => rw [hr] at h;cases h;exact .cons (hρ x v hx) (evalP_rel hρ hr)
theorem evalO_rel (hρ : ∀ x v,ev x = some v → V β v (ρ x)) {o : Option Operand} {vo : Option Value} (h : evalO ev o = some vo) : VO β vo (o.map ρ) :=by
 cases o with
 | none => simp only [evalO] at h;cases h;exact .none
 | some x =>
  simp only [evalO] at h
  cases hx : ev x with
  | none => rw [hx] at h;cases h
  | some v => rw [hx] at h;cases h;exact .some (hρ x v hx)
theorem sim_builtin (hE : EnvOK P E) (hI : Inv N0 β s.h.get w) {b : Builtin} {ts : Array TypeId} {ty : TypeId} {cs : Array Bool} {args : List Value} {args' : Array Value} {v : Value}
  (h : builtinM E b ts.toList args s = some (v,s')) (hf : Fresh β s.nx s'.nx) (ha : VL β args args'.toList) :
  ∃ β' w' v',(builtin b ts ty cs args').run P w = .ok (.value v') w' ∧ V β' v v' ∧ Out N0 β s w s' β' w' :=by
 have nth0 : ∀ i,nth ts.toList i = ts[i]? :=fun i => by rw [nth_eq,Array.getElem?_toList]
 have hd : ∀ {t r},ts.toList = t :: r → ts[0]? = some t :=by
  intro t r e;rw [← Array.getElem?_toList,e];rfl
 have two : ∀ {x y : Value},args = [x,y] → ∃ x' y',args' = #[x',y'] ∧ V β x x' ∧ V β y y' :=by
  rintro x y rfl
  obtain ⟨l⟩ :=args'
  cases ha with
  | cons h1 h2 => cases h2 with
   | cons h2 h3 => cases h3;exact ⟨_,_,rfl,h1,h2⟩
 have one1 : ∀ {x : Value},args = [x] → ∃ x',args' = #[x'] ∧ V β x x' :=by
  rintro x rfl
  obtain ⟨l⟩ :=args'
  cases ha with
  | cons h1 h2 => cases h2;exact ⟨_,rfl,h1⟩
 unfold builtinM at h
 obtain ⟨m,hm,h⟩ : ∃ m : M Value,m = _ ∧ m s = some (v,s') :=⟨_,rfl,h⟩
 split at hm
 ·subst hm
  obtain ⟨x',y',rfl,hx,hy⟩ :=two rfl
  rw [nth0,nth0] at h
  obtain ⟨β',w',v',r,hv,ho⟩ :=sim_appendM (P :=P) (ty :=ty) hE hI h hf hx hy
  exact ⟨β',w',v',by simp only [builtin,Sem.run_bind,r,Result.andThen_ok,Sem.run_pure],hv,ho⟩
 ·obtain ⟨x',rfl,hx⟩ :=one1 rfl
  split at hm
  ·rename_i t r e;subst hm
   obtain ⟨v',r,hv,he⟩ :=sim_lenM (ty :=ty) hE hI (hd e) h hx
   exact ⟨β,w,v',by simp only [builtin,Sem.run_bind,r,Result.andThen_ok,Sem.run_pure],hv,Out.same hI he⟩
  ·subst hm;exact (fail_some.1 h).elim
 ·obtain ⟨x',rfl,hx⟩ :=one1 rfl
  split at hm
  ·rename_i t r e;subst hm
   obtain ⟨hv,rfl⟩ :=liftO_some.1 h
   have r :=sim_cap (w :=w) hE hv hx ty (hd e)
   refine ⟨β,w,v,by simp only [builtin,Sem.run_bind,r,Result.andThen_ok,Sem.run_pure],?_,Out.same hI rfl⟩
   unfold capV at hv
   cases hi : E.ti t with
   | none => rw [hi] at hv;cases hv
   | some i =>
    rw [hi] at hv;simp only at hv
    split at hv
    ·rename_i e1 a1 n1 c hd1 hd2
     cases hc : Nat.blt c UNK with
     | false => rw [hc] at hv;cases hv
     | true => rw [hc] at hv;cases hv;exact .int _ _
    ·cases hv
  ·subst hm;exact (fail_some.1 h).elim
 ·rename_i x r;subst hm
  obtain ⟨hv,rfl⟩ :=liftO_some.1 h
  obtain ⟨l⟩ :=args'
  cases ha with
  | cons h1 h2 =>
  obtain ⟨v',rr,hv'⟩ :=sim_foldV (P :=P) (w :=w) (g :=Builtin.min2) (fun a b c => sim_min2 a b c) _ _ _ _ _ hv h1 h2
  exact ⟨β,w,v',by simp only [builtin,Builtin.min_,Sem.run_bind,rr,Result.andThen_ok,Sem.run_pure],hv',Out.same hI rfl⟩
 ·rename_i x r;subst hm
  obtain ⟨hv,rfl⟩ :=liftO_some.1 h
  obtain ⟨l⟩ :=args'
  cases ha with
  | cons h1 h2 =>
  obtain ⟨v',rr,hv'⟩ :=sim_foldV (P :=P) (w :=w) (g :=Builtin.max2) (fun a b c => sim_max2 a b c) _ _ _ _ _ hv h1 h2
  exact ⟨β,w,v',by simp only [builtin,Builtin.max_,Sem.run_bind,rr,Result.andThen_ok,Sem.run_pure],hv',Out.same hI rfl⟩
 ·obtain ⟨x',y',rfl,hx,hy⟩ :=two rfl
  split at hm
  ·rename_i t r e;subst hm
   obtain ⟨w',v',r,hv,ho⟩ :=sim_copyM (ty :=ty) hE hI (hd e) h hx hy
   exact ⟨β,w',v',by simp only [builtin,Sem.run_bind,r,Result.andThen_ok,Sem.run_pure],hv,ho⟩
  ·subst hm;exact (fail_some.1 h).elim
 ·obtain ⟨x',y',rfl,hx,hy⟩ :=two rfl
  split at hm
  ·rename_i t r e;subst hm
   obtain ⟨w',v',r,hv,ho⟩ :=sim_deleteM hE hI h hx hy ty ts (hd e)
   exact ⟨β,w',v',by simp only [builtin,Sem.run_bind,r,Result.andThen_ok,Sem.run_pure],hv,ho⟩
  ·subst hm;exact (fail_some.1 h).elim
 ·obtain ⟨x',rfl,hx⟩ :=one1 rfl
  split at hm
  ·rename_i t r e;subst hm
   obtain ⟨w',v',r,hv,ho⟩ :=sim_clearM (ty :=ty) hE hI (hd e) h hx
   exact ⟨β,w',v',by simp only [builtin,Sem.run_bind,r,Result.andThen_ok,Sem.run_pure],hv,ho⟩
  ·subst hm;exact (fail_some.1 h).elim
 ·subst hm;exact (fail_some.1 h).elim
end
end
end Go.Ideal

namespace Go.Ideal
set_option linter.all false
set_option linter.unusedSimpArgs false
set_option linter.unusedVariables false
noncomputable section
open Go Go.RowKit
set_option maxHeartbeats 1000000
section
variable {P : Program} {E : Env} {N0 : Nat → Prop} {β : Bij} {w : World} {s s' : S} {ev : Operand → Option Value} {ρ : Operand → Value}
theorem lift_bind {α β : Type} {o : Option α} {f : α → M β} {b : β} {s s' : S} (h : (liftO o >>= f) s = some (b,s')) : ∃ a,o = some a ∧ f a s = some (b,s') :=by
 obtain ⟨a,s1,h1,h2⟩ :=bind_some.1 h
 obtain ⟨ha,rfl⟩ :=liftO_some.1 h1
 exact ⟨a,ha,h2⟩
theorem map_arr {α β : Type} (f : α → β) (a : Array α) : a.map f = (a.toList.map f).toArray :=by
 apply Array.ext';simp
theorem sim_pure {m : Sem Value} {v v' : Value} (hI : Inv N0 β s.h.get w) (r : m.run P w = .ok v' w) (hv : V β v v') (e : s'.h = s.h) :
  ∃ β' w' nx v',(do pure (Next.value (← m)) : Sem Next).run P w = .ok nx w' ∧ Yield nx v' ∧ V β' v v' ∧ Out N0 β s w s' β' w' :=
 ⟨β,w,.value v',v',by simp only [Sem.run_bind,r,Result.andThen_ok,Sem.run_pure],.inl rfl,hv,Out.same hI e⟩
theorem sim_step {m : Sem Value} {v v' : Value} {β' : Bij} {w' : World} (r : m.run P w = .ok v' w') (hv : V β' v v') (ho : Out N0 β s w s' β' w') :
  ∃ β' w' nx v',(do pure (Next.value (← m)) : Sem Next).run P w = .ok nx w' ∧ Yield nx v' ∧ V β' v v' ∧ Out N0 β s w s' β' w' :=
 ⟨β',w',.value v',v',by simp only [Sem.run_bind,r,Result.andThen_ok,Sem.run_pure],.inl rfl,hv,ho⟩
theorem sim_unit {m : Sem Unit} {v : Value} {w' : World} (r : m.run P w = .ok () w') (hv : v = undef) (ho : Out N0 β s w s' β w') :
  ∃ β' w' nx v',(do m;pure Next.skip : Sem Next).run P w = .ok nx w' ∧ Yield nx v' ∧ V β' v v' ∧ Out N0 β s w s' β' w' :=
 ⟨β,w',.skip,undef,by simp only [Sem.run_bind,r,Result.andThen_ok,Sem.run_pure],.inr ⟨rfl,rfl⟩,hv ▸ undef_V β,ho⟩
theorem sim_opM (hE : EnvOK P E) (hI : Inv N0 β s.h.get w) (hρ : ∀ x v,ev x = some v → V β v (ρ x)) {o : Oper} {v : Value}
  (h : opM E ev o.op s = some (v,s')) (hf : Fresh β s.nx s'.nx) :
  ∃ β' w' nx v',(execOp ρ o).run P w = .ok nx w' ∧ Yield nx v' ∧ V β' v v' ∧ Out N0 β s w s' β' w' :=by
 obtain ⟨dst,op,ty,pos,after,guard⟩ :=o
 cases op <;> simp only [opM,o1,o2,o3,oP,oL,oO,oS,oPick,oFn,oCall,lO1,lO2] at h <;> first | exact (fail_some.1 h).elim | skip
 case move x =>
  obtain ⟨hv,rfl⟩ :=liftO_some.1 h
  exact ⟨β,w,.value (ρ x),ρ x,rfl,.inl rfl,hρ x v hv,Out.same hI rfl⟩
 case assign x =>
  obtain ⟨hv,rfl⟩ :=liftO_some.1 h
  exact ⟨β,w,.value (ρ x),ρ x,rfl,.inl rfl,hρ x v hv,Out.same hI rfl⟩
 case pick c a b =>
  obtain ⟨q,hq,h⟩ :=lift_bind h
  have hc :=hρ c q hq
  generalize hr : ρ c = q' at hc
  cases hc <;> simp only at h <;> first | exact (fail_some.1 h).elim | skip
  rename_i t
  cases t with
  | true =>
   obtain ⟨hv,rfl⟩ :=liftO_some.1 h
   exact ⟨β,w,.value (ρ a),ρ a,by simp only [execOp,hr];rfl,.inl rfl,hρ a v hv,Out.same hI rfl⟩
  | false =>
   obtain ⟨hv,rfl⟩ :=liftO_some.1 h
   exact ⟨β,w,.value (ρ b),ρ b,by simp only [execOp,hr];rfl,.inl rfl,hρ b v hv,Out.same hI rfl⟩
 case alloc t =>
  obtain ⟨β',w',v',r,hv,ho⟩ :=sim_allocM hE hI h hf
  exact sim_step r hv ho
 case box t x =>
  obtain ⟨a,ha,h⟩ :=lift_bind h
  obtain ⟨β',w',v',r,hv,ho⟩ :=sim_boxM (P :=P) hI h hf (hρ x a ha)
  exact sim_step r hv ho
 case build t ps =>
  obtain ⟨l,hl,h⟩ :=lift_bind h
  obtain ⟨hv,rfl⟩ :=liftO_some.1 h
  obtain ⟨v',r,hv⟩ :=sim_build (w :=w) hE hv (evalP_rel hρ hl)
  rw [← map_arr] at r
  exact sim_pure hI r hv rfl
 case buildSlice t n ps =>
  obtain ⟨l,hl,h⟩ :=lift_bind h
  obtain ⟨β',w',v',r,hv,ho⟩ :=sim_buildSliceM hE hI h hf (evalP_rel hρ hl)
  rw [← map_arr] at r
  exact sim_step r hv ho
 case load t a =>
  obtain ⟨p,hp,h⟩ :=lift_bind h
  obtain ⟨v',r,hv,e,_⟩ :=sim_loadM hE hI h (hρ a p hp)
  exact sim_pure hI r hv e
 case store t a x =>
  obtain ⟨p,hp,h⟩ :=lift_bind h
  obtain ⟨q,hq,h⟩ :=lift_bind h
  obtain ⟨w',r,hv,ho⟩ :=sim_storeM hE hI h (hρ a p hp) (hρ x q hq)
  exact sim_unit r hv ho
 case nilCheck x =>
  obtain ⟨p,hp,h⟩ :=lift_bind h
  obtain ⟨hv,rfl⟩ :=liftO_some.1 h
  obtain ⟨v',r,hv⟩ :=sim_nilCheck (P :=P) (w :=w) hv (hρ x p hp) ρ x rfl dst ty pos after guard
  exact ⟨β,w,.value v',v',r,.inl rfl,hv,Out.same hI rfl⟩
 case binOp op t x y z =>
  obtain ⟨p,hp,h⟩ :=lift_bind h
  obtain ⟨q,hq,h⟩ :=lift_bind h
  obtain ⟨v',r,hv,e,_⟩ :=sim_binM hE hI h (hρ x p hp) (hρ y q hq)
  exact sim_pure hI r hv e
 case unOp op t x =>
  obtain ⟨p,hp,h⟩ :=lift_bind h
  obtain ⟨hv,rfl⟩ :=liftO_some.1 h
  obtain ⟨v',r,hv⟩ :=sim_unV (P :=P) (w :=w) hv (hρ x p hp)
  exact sim_pure hI r hv rfl
 case convert a b x =>
  obtain ⟨p,hp,h⟩ :=lift_bind h
  obtain ⟨β',w',v',r,hv,ho⟩ :=sim_convertM hE hI h hf (hρ x p hp)
  exact sim_step r hv ho
 case makeInterface t x =>
  obtain ⟨p,hp,h⟩ :=lift_bind h
  obtain ⟨hv,rfl⟩ :=liftO_some.1 h
  obtain ⟨v',r,hv⟩ :=sim_mkIface (w :=w) hE hv (hρ x p hp)
  exact sim_pure hI r hv rfl
 case makeFunc fn a c =>
  obtain ⟨p,hp,h⟩ :=lift_bind h
  obtain ⟨q,hq,h⟩ :=lift_bind h
  obtain ⟨rfl,rfl⟩ :=pure_some.1 h
  refine sim_pure (v' :=.func fn (a.map ρ) (c.map ρ)) hI rfl (.func fn ?_ ?_) rfl
  ·rw [Array.toList_map];exact evalL_rel hρ hp
  ·rw [Array.toList_map];exact evalL_rel hρ hq
 case makeMap t r =>
  obtain ⟨p,hp,h⟩ :=lift_bind h
  obtain ⟨β',w',v',r,hv,ho⟩ :=sim_makeMapM (P :=P) (t :=t) hI h hf (evalO_rel hρ hp)
  exact sim_step r hv ho
 case makeSlice t l c =>
  obtain ⟨p,hp,h⟩ :=lift_bind h
  obtain ⟨q,hq,h⟩ :=lift_bind h
  obtain ⟨β',w',v',r,hv,ho⟩ :=sim_makeSliceM hE hI h hf (hρ l p hp) (hρ c q hq)
  exact sim_step r hv ho
 case slice t x lo hi mx =>
  obtain ⟨p,hp,h⟩ :=lift_bind h
  obtain ⟨q1,hq1,h⟩ :=lift_bind h
  obtain ⟨q2,hq2,h⟩ :=lift_bind h
  obtain ⟨q3,hq3,h⟩ :=lift_bind h
  obtain ⟨hv,rfl⟩ :=liftO_some.1 h
  obtain ⟨v',r,hv⟩ :=sim_slice (w :=w) hE hv (hρ x p hp) (evalO_rel hρ hq1) (evalO_rel hρ hq2) (evalO_rel hρ hq3)
  exact sim_pure hI r hv rfl
 case fieldAddr t x f =>
  obtain ⟨p,hp,h⟩ :=lift_bind h
  obtain ⟨hv,rfl⟩ :=liftO_some.1 h
  obtain ⟨v',r,hv⟩ :=sim_fieldAddr (w :=w) hE hv (hρ x p hp)
  exact sim_pure hI r hv rfl
 case field t x f =>
  obtain ⟨p,hp,h⟩ :=lift_bind h
  obtain ⟨hv,rfl⟩ :=liftO_some.1 h
  obtain ⟨v',r,hv⟩ :=sim_field (w :=w) hE hv (hρ x p hp)
  exact sim_pure hI r hv rfl
 case indexAddr t x i =>
  obtain ⟨p,hp,h⟩ :=lift_bind h
  obtain ⟨q,hq,h⟩ :=lift_bind h
  obtain ⟨hv,rfl⟩ :=liftO_some.1 h
  obtain ⟨v',r,hv⟩ :=sim_indexAddr (w :=w) hE hv (hρ x p hp) (hρ i q hq)
  exact sim_pure hI r hv rfl
 case index t x i =>
  obtain ⟨p,hp,h⟩ :=lift_bind h
  obtain ⟨q,hq,h⟩ :=lift_bind h
  obtain ⟨hv,rfl⟩ :=liftO_some.1 h
  obtain ⟨v',r,hv⟩ :=sim_index (w :=w) hE hv (hρ x p hp) (hρ i q hq)
  exact sim_pure hI r hv rfl
 case lookup t x k ok =>
  obtain ⟨p,hp,h⟩ :=lift_bind h
  obtain ⟨q,hq,h⟩ :=lift_bind h
  obtain ⟨v',r,hv,e,_⟩ :=sim_lookupM hE hI h (hρ x p hp) (hρ k q hq)
  exact sim_pure hI r hv e
 case mapUpdate t m k x =>
  obtain ⟨p,hp,h⟩ :=lift_bind h
  obtain ⟨q,hq,h⟩ :=lift_bind h
  obtain ⟨y,hy,h⟩ :=lift_bind h
  obtain ⟨w',r,hv,ho⟩ :=sim_mapUpdateM hE hI h (hρ m p hp) (hρ k q hq) (hρ x y hy)
  exact sim_unit r hv ho
 case insert t m k x =>
  obtain ⟨p,hp,h⟩ :=lift_bind h
  obtain ⟨q,hq,h⟩ :=lift_bind h
  obtain ⟨y,hy,h⟩ :=lift_bind h
  obtain ⟨w',r,hv,ho⟩ :=sim_mapUpdateM hE hI h (hρ m p hp) (hρ k q hq) (hρ x y hy)
  exact sim_unit r hv ho
 case range t x =>
  obtain ⟨p,hp,h⟩ :=lift_bind h
  obtain ⟨β',w',v',r,hv,ho⟩ :=sim_rangeM hE hI h hf (hρ x p hp)
  exact sim_step r hv ho
 case next x b =>
  obtain ⟨p,hp,h⟩ :=lift_bind h
  obtain ⟨w',v',r,hv,ho⟩ :=sim_nextM (P :=P) (ty :=ty) hI h (hρ x p hp)
  exact sim_step r hv ho
 case entry x =>
  obtain ⟨p,hp,h⟩ :=lift_bind h
  obtain ⟨v',r,hv,e⟩ :=sim_entryM (P :=P) hI h (hρ x p hp)
  exact sim_pure hI r hv e
 case typeAssert x xt t ok =>
  obtain ⟨p,hp,h⟩ :=lift_bind h
  obtain ⟨hv,rfl⟩ :=liftO_some.1 h
  obtain ⟨v',r,hv⟩ :=sim_typeAssert (xt :=xt) (w :=w) hE hv (hρ x p hp)
  exact sim_pure hI r hv rfl
 case extract x n =>
  obtain ⟨p,hp,h⟩ :=lift_bind h
  obtain ⟨hv,rfl⟩ :=liftO_some.1 h
  obtain ⟨v',r,hv⟩ :=sim_extract (P :=P) (w :=w) hv (hρ x p hp)
  exact sim_pure hI r hv rfl
 case call c =>
  obtain ⟨callee,args,ats⟩ :=c
  cases callee <;> simp only at h <;> first | exact (fail_some.1 h).elim | skip
  rename_i b
  obtain ⟨l,hl,h⟩ :=lift_bind h
  have hl' :=evalL_rel hρ hl
  rw [← Array.toList_map] at hl'
  obtain ⟨β',w',v',r,hv,ho⟩ :=sim_builtin (P :=P) (ty :=ty) (cs :=args.map fun | .const _ => true | _ => false) hE hI h hf hl'
  refine ⟨β',w',.value v',v',?_,.inl rfl,hv,ho⟩
  simp only [execOp,resolve,invoke,Sem.run_bind,Sem.run_pure,Result.andThen_ok]
  exact r
end
end
end Go.Ideal

namespace Go.Ideal
set_option linter.all false
set_option linter.unusedSimpArgs false
set_option linter.unusedVariables false
noncomputable section
open Go Go.RowKit
set_option maxHeartbeats 1000000
def Enters (P : Program) (f : FuncId) : Prop := ∃ fn, P.funcs[f]? = some fn ∧ (fn.name == "runtime.NumGoroutine") = false ∧ fn.body.isNone = false
def Globs (E : Env) (β : Bij) : Prop :=∀ g,E.glob g = true → ∃ L,β g = some L ∧ L.r = g ∧ L.sh = 0
def FunOK (P : Program) (N0 : Nat → Prop) (E : Env) (f : FuncId) (g : List Value → M Value) : Prop :=
 ∀ (l : List Value) (s : S) (v : Value) (s' : S) (β : Bij) (w : World) (l' : Array Value),g l s = some (v,s') → Inv N0 β s.h.get w → Fresh β s.nx s'.nx →
  Globs E β → VL β l l'.toList →
  Enters P f ∧ Calls P f l' w fun e w' => ∃ v',e = .returned v' ∧ ∃ β',V β' v v' ∧ Out N0 β s w s' β' w'
def ExtOK (P : Program) (N0 : Nat → Prop) (f : FuncId) (g : List Value → M Value) : Prop :=
 ∀ (l : List Value) (s : S) (v : Value) (s' : S) (β : Bij) (w : World) (l' : Array Value),g l s = some (v,s') → Inv N0 β s.h.get w → Fresh β s.nx s'.nx →
  VL β l l'.toList → ∃ β' w' v',(callFunc f l').run P w = .ok (.value v') w' ∧ V β' v v' ∧ Out N0 β s w s' β' w'
def CallOK (P : Program) (N0 : Nat → Prop) (E : Env) (call : CallM) : Prop :=∀ f,FunOK P N0 E f (call f)
structure LinkOK (P : Program) (N0 : Nat → Prop) (E : Env) : Prop where
 ext : ∀ f g,E.ext f = some g → ExtOK P N0 f g
 intr : ∀ f g,E.intr f = some g → FunOK P N0 E f g
 name : ∀ f fn, E.fn f = some fn → (fn.name == "runtime.NumGoroutine") = false
structure TS (β : Bij) (n : Nat) (tm : Tr Value) (a : Act) : Prop where
 size : a.tmps.size = n
 defers : a.defers = []
 rel : ∀ i v,tm.get i = some v → ∃ v',a.tmps[i]? = some v' ∧ V β v v'
section
variable {P : Program} {E : Env} {N0 : Nat → Prop} {β : Bij} {w : World} {s s' : S} {n : Nat} {tm tm' : Tr Value} {a : Act} {ops : Array Oper}
theorem Globs.mono {β β' : Bij} (h : Globs E β) (k : ∀ b L,β b = some L → β' b = some L) : Globs E β' :=fun g hg =>
 let ⟨L,h1,h2⟩ :=h g hg;⟨L,k _ _ h1,h2⟩
theorem TS.mono {β β' : Bij} (h : TS β n tm a) (k : ∀ b L,β b = some L → β' b = some L) : TS β' n tm a :=
 ⟨h.size,h.defers,fun i v e => let ⟨v',h1,h2⟩ :=h.rel i v e;⟨v',h1,V.mono k h2⟩⟩
theorem TS.eval (h : TS β n tm a) (hg : Globs E β) : ∀ x v,evalI E tm x = some v → V β v (a.eval x) :=by
 intro x v e
 cases x with
 | tmp t =>
  obtain ⟨v',h1,h2⟩ :=h.rel t v e
  simpa [Act.eval,h1] using h2
 | const c =>
  simp only [evalI] at e
  cases hc : simple c with
  | false => rw [hc] at e;cases e
  | true => rw [hc] at e;cases e;exact V.of_simple hc
 | global g =>
  simp only [evalI] at e
  cases hc : E.glob g with
  | false => rw [hc] at e;cases e
  | true =>
   rw [hc] at e;cases e
   obtain ⟨L,h1,h2,h3⟩ :=hg g hc
   have :=V.ptr (off :=0) h1
   rw [h2,h3] at this
   exact this
 | func f => cases e;exact .func _ .nil .nil
theorem TS.put (h : TS β n tm a) {dst : Option Tmp} {v v' : Value} (hp : putT n tm dst v = some tm') (hv : V β v v') : TS β n tm' (a.put dst v') :=by
 cases dst with
 | none => cases hp;exact h
 | some d =>
  simp only [putT] at hp
  cases hd : Nat.blt d n with
  | false => rw [hd] at hp;cases hp
  | true =>
   rw [hd] at hp;cases hp
   have hd :=blt_iff.1 hd
   refine ⟨by simp [Act.put,h.size],h.defers,fun i u hu => ?_⟩
   rw [Tr.get_set] at hu
   split at hu
   ·rename_i e;subst e
    cases hu
    exact ⟨v',by simp [Act.put,h.size,hd],hv⟩
   ·rename_i e
    obtain ⟨u',h1,h2⟩ :=h.rel i u hu
    exact ⟨u',by simp [Act.put,Array.getElem?_setIfInBounds_ne e,h1],h2⟩
theorem TS.wanted (h : TS β n tm a) {o : Oper} {b : Bool} (e : wantedI ops tm o = some b) : Region.wanted o (yielded ops a.tmps) = b :=by
 unfold wantedI at e
 unfold Region.wanted
 cases hg : o.guard with
 | none => rw [hg] at e;cases e;rfl
 | some p =>
  obtain ⟨j,want⟩ :=p
  rw [hg] at e
  simp only at e ⊢
  cases hd : (ops[j]?).bind (·.dst) with
  | none => rw [hd] at e;cases e
  | some d =>
   rw [hd] at e;simp only at e
   unfold yielded
   rw [hd]
   simp only [Option.bind_some]
   cases ht : tm.get d with
   | none => rw [ht] at e;cases e
   | some v =>
    rw [ht] at e
    obtain ⟨v',h1,h2⟩ :=h.rel d v ht
    rw [h1]
    cases h2 <;> (try simp only at e) <;> first | (cases e;done) | skip
    ·rename_i t;cases e;simp
    ·rename_i c c' hl
     obtain ⟨c⟩ :=c
     cases c with
     | cons _ _ => cases e
     | nil => cases e;rfl
theorem callFunc_enter {f : FuncId} (h : Enters P f) (args : Array Value) (w : World) : (callFunc f args).run P w = .ok (.enter f args) w :=by
 obtain ⟨fn,h1,h2,h3⟩ :=h
 simp only [callFunc,Sem.run_bind,run_program,Result.andThen_ok,h1,h2,h3]
 rfl
theorem sim_stepM (hE : EnvOK P E) (hX : LinkOK P N0 E) {call : CallM} (hc : CallOK P N0 E call) {i : Nat} {o : Oper} (ho : ops[i]? = some o)
  (h : stepM E call n ops o tm s = some (tm',s')) (hI : Inv N0 β s.h.get w) (hf : Fresh β s.nx s'.nx) (hg : Globs E β) (ht : TS β n tm a)
  {K : Act → World → Prop} {Q : Exit → Act → World → Prop}
  (hK : ∀ β' w' a',TS β' n tm' a' → Out N0 β s w s' β' w' → K a' w') : wpOp P ops Q i K a w :=by
 unfold stepM at h
 obtain ⟨b,hb,h⟩ :=lift_bind h
 have hw :=ht.wanted hb
 unfold wpOp
 rw [ho]
 simp only [hw]
 cases b with
 | false =>
  obtain ⟨hp,rfl⟩ :=liftO_some.1 h
  exact hK β w _ (ht.put hp (undef_V β)) (Out.same hI rfl)
 | true =>
  obtain ⟨v,s1,h1,h2⟩ :=bind_some.1 h
  obtain ⟨hp,rfl⟩ :=liftO_some.1 h2
  left
  have hρ :=ht.eval hg
  have key : opM E (evalI E tm) o.op s = some (v,s') → o.wp P a w K Q :=by
   intro h1
   obtain ⟨β',w',nx,v',r,y,hv,hout⟩ :=sim_opM hE hI hρ h1 hf
   unfold Oper.wp
   rw [r]
   have k :=hout.ext.keep
   rcases y with rfl | ⟨rfl,rfl⟩
   ·exact hK β' w' _ ((ht.mono k).put hp hv) hout
   ·exact hK β' w' _ ((ht.mono k).put hp hv) hout
  cases hop : o.op with
  | call c =>
   rw [hop] at h1
   cases hcal : c.callee with
   | value f =>
    unfold operM at h1
    simp only [hcal] at h1
    obtain ⟨fv,hfv,h1⟩ :=lift_bind h1
    obtain ⟨args,hargs,h1⟩ :=lift_bind h1
    obtain ⟨⟨g,l⟩,htg,h1⟩ :=lift_bind h1
    have hvf :=hρ f fv hfv
    have hva :=evalL_rel hρ hargs
    cases fv <;> try (cases htg;done)
    rename_i fn first cap _
    cases fn <;> try (cases htg;done)
    rename_i g'
    ·cases htg
     cases hv' : a.eval f <;> rw [hv'] at hvf <;> cases hvf
     rename_i first' cap' hfirst hcap
     have hvl : VL β (first.toList ++ args ++ cap.toList) ((first' ++ c.args.map a.eval) ++ cap').toList :=by
      simp only [Array.toList_append,Array.toList_map]
      exact (hfirst.append hva).append hcap
     have run : ∀ r w',(callFunc g ((first' ++ c.args.map a.eval) ++ cap')).run P w = .ok r w' → (execOp a.eval o).run P w = .ok r w' :=by
      intro r w' hr
      unfold execOp
      simp only [hop,resolve,hcal,hv',Deferred.ofValue,invoke,Sem.run_bind,Sem.run_pure,Result.andThen_ok]
      exact hr
     cases hx : E.ext g with
     | some e =>
      simp only [hx] at h1
      obtain ⟨β',w',v',r,hv,hout⟩ :=hX.ext g e hx _ _ _ _ _ _ _ h1 hI hf hvl
      unfold Oper.wp
      rw [run _ _ r]
      exact hK β' w' _ ((ht.mono hout.ext.keep).put hp hv) hout
     | none =>
      simp only [hx] at h1
      obtain ⟨hen,hcall⟩ :=hc g _ _ _ _ _ _ _ h1 hI hf hg hvl
      unfold Oper.wp
      rw [run _ _ (callFunc_enter hen _ w),Oper.upon_enter]
      refine hcall.mono ?_
      rintro e w' ⟨v',rfl,β',hv,hout⟩
      exact hK β' w' _ ((ht.mono hout.ext.keep).put hp hv) hout
   | builtin b => exact key (by rw [hop];unfold operM at h1;simpa only [hcal] using h1)
   | invoke r m => exact key (by rw [hop];unfold operM at h1;simpa only [hcal] using h1)
  | _ => exact key (by rw [hop] at h1 ⊢;simpa only [operM] using h1)
end
end
end Go.Ideal

namespace Go.Ideal
set_option linter.all false
set_option linter.unusedSimpArgs false
set_option linter.unusedVariables false
noncomputable section
open Go Go.RowKit
set_option maxHeartbeats 1000000
section
variable {P : Program} {E : Env} {N0 : Nat → Prop} {n : Nat} {ops : Array Oper} {call : CallM}
theorem Resp.mono_nx {α : Type} {m : M α} (h : Resp m) {s s' : S} {a : α} (e : m s = some (a,s')) : s.nx ≤ s'.nx :=by
 obtain ⟨_,_,R⟩ :=h _ _ _ e;exact R.nx
theorem Fresh.left {β : Bij} {a b c : Nat} (h : Fresh β a c) (k : b ≤ c) : Fresh β a b :=fun x h1 h2 => h x h1 (by omega)
theorem Fresh.right {N0 : Nat → Prop} {β β' : Bij} {s s1 s' : S} {w w' : World} (h : Fresh β s.nx s'.nx) (o : Out N0 β s w s1 β' w') (k : s.nx ≤ s1.nx) : Fresh β' s1.nx s'.nx :=by
 intro x h1 h2
 cases e : β' x with
 | none => rfl
 | some L =>
  have :=o.ext.new x L e (h x (by omega) h2)
  omega
theorem sim_runOps (hE : EnvOK P E) (hX : LinkOK P N0 E) (hR : EnvResp E) (hc : CallOK P N0 E call) (hr : ∀ f l,Resp (call f l)) {Q : Exit → Act → World → Prop} :
  ∀ (l : List Oper) (i : Nat),ops.toList.drop i = l → ∀ (tm : Tr Value) (s : S) (tm' : Tr Value) (s' : S) (β : Bij) (w : World) (a : Act),
   runOps E call n ops l tm s = some (tm',s') → Inv N0 β s.h.get w → Fresh β s.nx s'.nx → Globs E β → TS β n tm a →
   (∀ β' w' a',TS β' n tm' a' → Out N0 β s w s' β' w' → Q .normal a' w') → wpOps P ops Q (List.range' i l.length) a w
 | [],i,hl,tm,s,tm',s',β,w,a,h,hI,hf,hg,ht,hQ => by
  obtain ⟨rfl,rfl⟩ :=pure_some.1 h
  exact hQ β w a ht (Out.same hI rfl)
 | o :: r,i,hl,tm,s,tm',s',β,w,a,h,hI,hf,hg,ht,hQ => by
  obtain ⟨tm1,s1,h1,h2⟩ :=bind_some.1 h
  have ho : ops[i]? = some o :=by
   have : (ops.toList.drop i)[0]? = some o :=by rw [hl];rfl
   rw [List.getElem?_drop,Nat.add_zero,Array.getElem?_toList] at this
   exact this
  have hl' : ops.toList.drop (i + 1) = r :=by
   rw [← List.drop_drop,hl];rfl
  have n1 :=Resp.mono_nx (resp_stepM hR hr n ops o tm) h1
  have n2 :=Resp.mono_nx (resp_runOps hR hr n ops r tm1) h2
  show wpOps P ops Q (i :: List.range' (i + 1) r.length) a w
  rw [wpOps_cons]
  refine sim_stepM hE hX hc ho h1 hI (hf.left n2) hg ht ?_
  intro β' w' a' ht' hout
  refine sim_runOps hE hX hR hc hr r (i + 1) hl' tm1 s1 tm' s' β' w' a' h2 hout.inv (hf.right hout n1) (hg.mono hout.ext.keep) ht' ?_
  intro β'' w'' a'' ht'' hout'
  exact hQ β'' w'' a'' ht'' (hout.trans hout' n1 n2)
structure Static (ops : Array Oper) : Prop where
 low : ∀ j o,ops[j]? = some o → ∀ e ∈ o.after.toList,Region.binds .any e = true → e.on < j
 pred : ∀ j o i,ops[j]? = some o → ((Region.before ops).getD j 0).testBit i = true →
  ∃ e ∈ o.after.toList,Region.binds .any e = true ∧ (e.on = i ∨ ((Region.before ops).getD e.on 0).testBit i = true)
 apart : ∀ i j oi oj,i < j → ops[i]? = some oi → ops[j]? = some oj → clash (lookMask ops oi) (dstMask oi) (lookMask ops oj) (dstMask oj) = true →
  ((Region.before ops).getD j 0).testBit i = true
theorem predMask_bit {b : Array Nat} {i : Nat} : ∀ {l : List Edge},(predMask b l).testBit i = true → ∃ e ∈ l,Region.binds .any e = true ∧ (e.on = i ∨ (b.getD e.on 0).testBit i = true)
 | [],h => by simp [predMask] at h
 | e :: r,h => by
  unfold predMask at h
  cases hb : Region.binds .any e with
  | false =>
   rw [hb] at h
   obtain ⟨e',h1,h2⟩ :=predMask_bit (l :=r) h
   exact ⟨e',List.mem_cons_of_mem _ h1,h2⟩
  | true =>
   rw [hb] at h
   simp only [cond_true,testBit_or,Bool.or_eq_true,testBit_bit,decide_eq_true_eq] at h
   rcases h with (h | h) | h
   ·exact ⟨e,List.mem_cons_self,hb,.inl h⟩
   ·exact ⟨e,List.mem_cons_self,hb,.inr h⟩
   ·obtain ⟨e',h1,h2⟩ :=predMask_bit (l :=r) h
    exact ⟨e',List.mem_cons_of_mem _ h1,h2⟩
theorem edgesOK_mem {j : Nat} : ∀ {l : List Edge},edgesOK j l = true → ∀ e ∈ l,Region.binds .any e = true → e.on < j
 | [],_,_,he,_ => by cases he
 | e :: r,h,e',he,hb => by
  unfold edgesOK at h
  cases he with
  | head =>
   rw [hb] at h
   simp only [cond_true,Bool.and_eq_true] at h
   exact blt_iff.1 h.1
  | tail _ he =>
   refine edgesOK_mem (l :=r) ?_ e' he hb
   cases hb' : Region.binds .any e with
   | false => rw [hb'] at h;exact h
   | true => rw [hb'] at h;simp only [cond_true,Bool.and_eq_true] at h;exact h.2
theorem clears_mem {before r2 w2 : Nat} : ∀ {l : List (Nat × Nat × Nat)},clears before r2 w2 l = true → ∀ i r1 w1,(i,r1,w1) ∈ l → clash r1 w1 r2 w2 = true → before.testBit i = true
 | [],_,_,_,_,h,_ => by cases h
 | (k,a,b) :: l,h,i,r1,w1,hm,hcl => by
  unfold clears at h
  cases hc : clash a b r2 w2 && !Nat.testBit before k with
  | true => rw [hc] at h;cases h
  | false =>
   rw [hc] at h
   cases hm with
   | head =>
    rw [hcl] at hc
    simpa using hc
   | tail _ hm => exact clears_mem (l :=l) h i r1 w1 hm hcl
theorem regT_mem {b : Array Nat} : ∀ {l : List Oper} {j : Nat} {prev : List (Nat × Nat × Nat)},regT ops b l j prev = true →
  (∀ k o,l[k]? = some o → b.getD (j + k) 0 = predMask b o.after.toList ∧ edgesOK (j + k) o.after.toList = true ∧
   (∀ i r w,(i,r,w) ∈ prev → clash r w (lookMask ops o) (dstMask o) = true → (b.getD (j + k) 0).testBit i = true) ∧
   (∀ i oi,i < k → l[i]? = some oi → clash (lookMask ops oi) (dstMask oi) (lookMask ops o) (dstMask o) = true → (b.getD (j + k) 0).testBit (j + i) = true))
 | [],_,_,_,k,o,hk => by simp at hk
 | p :: r,j,prev,h,k,o,hk => by
  unfold regT at h
  cases hh : Nat.beq (b.getD j 0) (predMask b p.after.toList) && edgesOK j p.after.toList && clears (b.getD j 0) (lookMask ops p) (dstMask p) prev with
  | false => rw [hh] at h;cases h
  | true =>
   rw [hh] at h
   simp only [Bool.and_eq_true] at hh
   obtain ⟨⟨h1,h2⟩,h3⟩ :=hh
   cases k with
   | zero =>
    cases hk
    exact ⟨Nat.eq_of_beq_eq_true h1,h2,fun i r w hm hcl => clears_mem h3 i r w hm hcl,fun i _ hi => absurd hi (Nat.not_lt_zero _)⟩
   | succ k =>
    have hk : r[k]? = some o :=hk
    obtain ⟨a1,a2,a3,a4⟩ :=regT_mem (l :=r) h k o hk
    have ee : j + 1 + k = j + (k + 1) :=by omega
    rw [ee] at a1 a2 a3 a4
    refine ⟨a1,a2,fun i r w hm hcl => a3 i r w (List.mem_cons_of_mem _ hm) hcl,fun i oi hi hoi hcl => ?_⟩
    cases i with
    | zero =>
     cases hoi
     exact a3 j _ _ List.mem_cons_self hcl
    | succ i =>
     have :=a4 i oi (by omega) hoi hcl
     have e2 : j + 1 + i = j + (i + 1) :=by omega
     rw [e2] at this
     exact this
theorem regOK_static (h : regOK ops = true) : Static ops :=by
 have key :=regT_mem (ops :=ops) h
 have get : ∀ {j o},ops[j]? = some o → ops.toList[j]? = some o :=fun h => by rw [Array.getElem?_toList];exact h
 refine ⟨fun j o ho e he hb => ?_,fun j o i ho hb => ?_,fun i j oi oj hij hi hj hcl => ?_⟩
 ·have :=(key j o (get ho)).2.1
  rw [Nat.zero_add] at this
  exact edgesOK_mem this e he hb
 ·have :=(key j o (get ho)).1
  rw [Nat.zero_add] at this
  rw [this] at hb
  exact predMask_bit hb
 ·have :=(key j oj (get hj)).2.2.2 i oi hij (get hi) hcl
  simpa using this
structure Chain (E : Env) (call : CallM) (n : Nat) (ops : Array Oper) (lo hi : Nat) (T : Nat → Tr Value) (H : Nat → S) (R W : Nat → Nat) : Prop where
 step : ∀ i o,lo ≤ i → i < hi → ops[i]? = some o →
  stepM E call n ops o (T i) ⟨(H i).h,(H i).nx,0,0⟩ = some (T (i + 1),⟨(H (i + 1)).h,(H (i + 1)).nx,R i,W i⟩)
 clear : ∀ i j,i < j → lo ≤ j → j < hi → clash (R i) (W i) (R j) (W j) = true → ((Region.before ops).getD j 0).testBit i = true
structure SeenOK (i : Nat) (R W : Nat → Nat) (seen : Seen) : Prop where
 l : ∀ k,k < i → (k,R k,W k) ∈ seen.l
 r : ∀ k,k < i → ∀ b,(R k).testBit b = true → seen.r.testBit b = true
 w : ∀ k,k < i → ∀ b,(W k).testBit b = true → seen.w.testBit b = true
theorem clash_iff {r1 w1 r2 w2 : Nat} : clash r1 w1 r2 w2 = true ↔
  ∃ b,(w1.testBit b = true ∧ (r2.testBit b = true ∨ w2.testBit b = true)) ∨ (w2.testBit b = true ∧ r1.testBit b = true) :=by
 have hz : clash r1 w1 r2 w2 = !Nat.beq ((w1 &&& (r2 ||| w2)) ||| (w2 &&& r1)) 0 :=by
  unfold clash
  cases h1 : Nat.beq w1 0 && Nat.beq w2 0 with
  | false => rfl
  | true =>
   simp only [Bool.and_eq_true] at h1
   have e1 :=Nat.eq_of_beq_eq_true h1.1
   have e2 :=Nat.eq_of_beq_eq_true h1.2
   subst e1;subst e2
   simp
 rw [hz]
 constructor
 ·intro h
  have h : ((w1 &&& (r2 ||| w2)) ||| (w2 &&& r1)) ≠ 0 :=by
   intro e;rw [e] at h;cases h
  obtain ⟨b,hb⟩ :=Nat.exists_testBit_of_ne_zero h
  refine ⟨b,?_⟩
  simpa only [testBit_or,testBit_and,Bool.or_eq_true,Bool.and_eq_true] using hb
 ·rintro ⟨b,hb⟩
  cases hc : Nat.beq ((w1 &&& (r2 ||| w2)) ||| (w2 &&& r1)) 0 with
  | false => rfl
  | true =>
   have e :=Nat.eq_of_beq_eq_true hc
   have : ((w1 &&& (r2 ||| w2)) ||| (w2 &&& r1)).testBit b = true :=by
    simpa only [testBit_or,testBit_and,Bool.or_eq_true,Bool.and_eq_true] using hb
   rw [e,testBit_zero] at this;cases this
def upd {α : Type} (f : Nat → α) (i : Nat) (x : α) : Nat → α :=fun k => if k = i then x else f k
theorem upd_same {α : Type} (f : Nat → α) (i : Nat) (x : α) : upd f i x i = x :=by simp [upd]
theorem upd_ne {α : Type} (f : Nat → α) {i k : Nat} (x : α) (h : k ≠ i) : upd f i x k = f k :=by simp [upd,h]
theorem chain_of_draw : ∀ (l : List Oper) (i : Nat) (R0 W0 : Nat → Nat) (seen : Seen) (tm : Tr Value) (s : S) (tm' : Tr Value) (s' : S),ops.toList.drop i = l →
  runDraw E call n ops l i seen tm s = some (tm',s') → SeenOK i R0 W0 seen →
  ∃ T H R W,T i = tm ∧ (H i).h = s.h ∧ (H i).nx = s.nx ∧ T (i + l.length) = tm' ∧ (H (i + l.length)).h = s'.h ∧ (H (i + l.length)).nx = s'.nx ∧
   (∀ k,k < i → R k = R0 k ∧ W k = W0 k) ∧ Chain E call n ops i (i + l.length) T H R W
 | [],i,R0,W0,seen,tm,s,tm',s',hl,h,hs => by
  obtain ⟨rfl,rfl⟩ :=pure_some.1 h
  refine ⟨fun _ => tm',fun _ => s',R0,W0,rfl,rfl,rfl,rfl,rfl,rfl,fun _ _ => ⟨rfl,rfl⟩,fun k o h1 h2 _ => ?_,fun _ j _ h1 h2 _ => ?_⟩
  ·simp at h2;omega
  ·simp at h2;omega
 | o :: r,i,R0,W0,seen,tm,s,tm',s',hl,h,hs => by
  rw [runDraw_cons] at h
  obtain ⟨⟨tm1,r1,w1⟩,s1,h1,h2⟩ :=bind_some.1 h
  obtain ⟨_,s2,h3,h4⟩ :=bind_some.1 h2
  obtain ⟨hcl,rfl⟩ :=guardM_some.1 h3
  have ho : ops[i]? = some o :=by
   have : (ops.toList.drop i)[0]? = some o :=by rw [hl];rfl
   rw [List.getElem?_drop,Nat.add_zero,Array.getElem?_toList] at this
   exact this
  have hl' : ops.toList.drop (i + 1) = r :=by
   rw [← List.drop_drop,hl];rfl
  have hst : stepM E call n ops o tm ⟨s.h,s.nx,0,0⟩ = some (tm1,⟨s2.h,s2.nx,r1,w1⟩) :=by
   unfold iso at h1
   cases hm : stepM E call n ops o tm ⟨s.h,s.nx,0,0⟩ with
   | none => rw [hm] at h1;cases h1
   | some q => obtain ⟨q,s3⟩ :=q;rw [hm] at h1;cases h1;rfl
  have hs' : SeenOK (i + 1) (upd R0 i r1) (upd W0 i w1) ⟨(i,r1,w1) :: seen.l,seen.r ||| r1,seen.w ||| w1⟩ :=by
   refine ⟨fun k hk => ?_,fun k hk b hb => ?_,fun k hk b hb => ?_⟩
   ·by_cases e : k = i
    ·subst e;rw [upd_same,upd_same];exact List.mem_cons_self
    ·rw [upd_ne _ _ e,upd_ne _ _ e];exact List.mem_cons_of_mem _ (hs.l k (by omega))
   ·simp only [testBit_or,Bool.or_eq_true]
    by_cases e : k = i
    ·subst e;rw [upd_same] at hb;exact .inr hb
    ·rw [upd_ne _ _ e] at hb;exact .inl (hs.r k (by omega) b hb)
   ·simp only [testBit_or,Bool.or_eq_true]
    by_cases e : k = i
    ·subst e;rw [upd_same] at hb;exact .inr hb
    ·rw [upd_ne _ _ e] at hb;exact .inl (hs.w k (by omega) b hb)
  obtain ⟨T,H,R,W,e1,e2,e3,e4,e5,e6,e7,hch⟩ :=chain_of_draw r (i + 1) _ _ _ _ _ _ _ hl' h4 hs'
  have len : i + (o :: r).length = i + 1 + r.length :=by simp;omega
  have hRi : R i = r1 :=by rw [(e7 i (by omega)).1,upd_same]
  have hWi : W i = w1 :=by rw [(e7 i (by omega)).2,upd_same]
  have hne : i + 1 + r.length ≠ i :=by omega
  have old : ∀ k,k < i → R k = R0 k ∧ W k = W0 k :=fun k hk => by
   obtain ⟨a,b⟩ :=e7 k (by omega)
   rw [a,b,upd_ne _ _ (by omega),upd_ne _ _ (by omega)];exact ⟨rfl,rfl⟩
  rw [len]
  refine ⟨upd T i tm,upd H i s,R,W,upd_same _ _ _,by rw [upd_same],by rw [upd_same],by rw [upd_ne _ _ hne];exact e4,
   by rw [upd_ne _ _ hne];exact e5,by rw [upd_ne _ _ hne];exact e6,old,fun k o' h1 h2 hk => ?_,fun k j hkj h1 h2 hc => ?_⟩
  ·by_cases e : k = i
   ·subst e
    rw [ho] at hk;cases hk
    rw [upd_same,upd_same,upd_ne _ _ (by omega),upd_ne _ _ (by omega),e1,e2,e3,hRi,hWi]
    exact hst
   ·rw [upd_ne _ _ e,upd_ne _ _ e,upd_ne _ _ (by omega),upd_ne _ _ (by omega)]
    exact hch.step k o' (by omega) h2 hk
  ·by_cases e : j = i
   ·subst e
    rw [hRi,hWi,(old k hkj).1,(old k hkj).2] at hc
    simp only [Bool.or_eq_true,Bool.not_eq_true'] at hcl
    rcases hcl with hcl | hcl
    ·exfalso
     obtain ⟨b,hb⟩ :=clash_iff.1 hc
     have : clash seen.r seen.w r1 w1 = true :=by
      refine clash_iff.2 ⟨b,?_⟩
      rcases hb with ⟨x,y⟩ | ⟨x,y⟩
      ·exact .inl ⟨hs.w k hkj b x,y⟩
      ·exact .inr ⟨x,hs.r k hkj b y⟩
     rw [hcl] at this;cases this
    ·exact clears_mem hcl k _ _ (hs.l k hkj) hc
   ·exact hch.clear k j hkj (by omega) h2 hc
end
end
end Go.Ideal

namespace Go.Ideal
set_option linter.all false
set_option linter.unusedSimpArgs false
set_option linter.unusedVariables false
noncomputable section
open Go Go.RowKit
set_option maxHeartbeats 1000000
section
variable {P : Program} {E : Env} {N0 : Nat → Prop} {n : Nat} {ops : Array Oper} {call : CallM}
theorem evalL_congr {ev ev' : Operand → Option Value} : ∀ {l : List Operand},(∀ x ∈ l,ev x = ev' x) → evalL ev l = evalL ev' l
 | [],_ => rfl
 | x :: r,h => by
  unfold evalL
  rw [h x List.mem_cons_self,evalL_congr (l :=r) fun y hy => h y (List.mem_cons_of_mem _ hy)]
theorem evalP_congr {ev ev' : Operand → Option Value} : ∀ {l : List (Nat × Operand)},(∀ x ∈ l.map (·.2),ev x = ev' x) → evalP ev l = evalP ev' l
 | [],_ => rfl
 | (i,x) :: r,h => by
  unfold evalP
  rw [h x (by simp),evalP_congr (l :=r) fun y hy => h y (by simp only [List.map_cons];exact List.mem_cons_of_mem _ hy)]
theorem evalO_congr {ev ev' : Operand → Option Value} {o : Option Operand} (h : ∀ x ∈ o.toArray,ev x = ev' x) : evalO ev o = evalO ev' o :=by
 cases o with
 | none => rfl
 | some x => unfold evalO;simp only;rw [h x (by simp)]
theorem opM_congr {ev ev' : Operand → Option Value} (o : Op) (h : ∀ x ∈ o.operands,ev x = ev' x) : opM E ev o = opM E ev' o :=by
 cases o <;> simp only [Op.operands] at h <;> simp only [opM,o1,o2,o3,oP,oL,oO,oS,oPick,oFn,oCall,lO1,lO2]
 case build t ps => rw [evalP_congr (ev :=ev) (ev' :=ev') fun x hx => h x (by simpa using hx)]
 case buildSlice t n ps => rw [evalP_congr (ev :=ev) (ev' :=ev') fun x hx => h x (by simpa using hx)]
 case makeFunc fn first captured =>
  rw [evalL_congr (ev :=ev) (ev' :=ev') (l :=first.toList) fun x hx => h x (by simp only [Array.mem_toList_iff] at hx;simp [hx]),
   evalL_congr (ev :=ev) (ev' :=ev') (l :=captured.toList) fun x hx => h x (by simp only [Array.mem_toList_iff] at hx;simp [hx])]
 case call c =>
  cases hc : c.callee with
  | builtin b =>
   simp only
   rw [evalL_congr (ev :=ev) (ev' :=ev') (l :=c.args.toList) fun x hx => h x (by simp only [Array.mem_toList_iff] at hx;simp [Call.operands,hx])]
  | _ => rfl
 case makeMap t r => rw [evalO_congr (ev :=ev) (ev' :=ev') h]
 case slice t x lo hi mx =>
  rw [evalO_congr (ev :=ev) (ev' :=ev') (o :=lo) fun y hy => h y (by simp only [Array.mem_append];exact .inl (.inl (.inr hy))),
   evalO_congr (ev :=ev) (ev' :=ev') (o :=hi) fun y hy => h y (by simp only [Array.mem_append];exact .inl (.inr hy)),
   evalO_congr (ev :=ev) (ev' :=ev') (o :=mx) fun y hy => h y (by simp only [Array.mem_append];exact .inr hy),h x (by simp)]
 all_goals (first | rfl | (simp_all;done))
theorem operM_congr {ev ev' : Operand → Option Value} (o : Op) (h : ∀ x ∈ o.operands,ev x = ev' x) : operM E call ev o = operM E call ev' o :=by
 unfold operM
 cases o with
 | call c =>
  simp only
  cases hc : c.callee with
  | value f =>
   simp only [Op.operands,Call.operands,hc] at h
   simp only
   rw [h f (by simp),evalL_congr (ev :=ev) (ev' :=ev') (l :=c.args.toList) fun x hx => h x (by simp only [Array.mem_toList_iff] at hx;simp [hx])]
  | _ => exact opM_congr _ h
 | _ => exact opM_congr _ h
theorem tmpsMask_bit {t : Nat} : ∀ {l : List Operand},.tmp t ∈ l → (tmpsMask l).testBit t = true
 | [],h => by cases h
 | x :: r,h => by
  cases h with
  | head => simp [tmpsMask,testBit_bit]
  | tail _ h =>
   have :=tmpsMask_bit h
   cases x <;> simp [tmpsMask,this]
theorem stepM_congr {o : Oper} {T T' tm : Tr Value} {s s' : S} (h : stepM E call n ops o T s = some (T',s'))
  (ha : ∀ t,(lookMask ops o).testBit t = true → tm.get t = T.get t) :
  (∀ t,(dstMask o).testBit t = false → T'.get t = T.get t) ∧
  ∃ tm',stepM E call n ops o tm s = some (tm',s') ∧ (∀ t,(dstMask o).testBit t = true → tm'.get t = T'.get t) ∧ (∀ t,(dstMask o).testBit t = false → tm'.get t = tm.get t) :=by
 have hev : ∀ x ∈ o.op.operands,evalI E tm x = evalI E T x :=by
  intro x hx
  cases x with
  | tmp t => exact ha t (by simp only [lookMask,testBit_or,Bool.or_eq_true];exact .inl (tmpsMask_bit (by simpa using hx)))
  | _ => rfl
 have hw : wantedI ops tm o = wantedI ops T o :=by
  unfold wantedI
  cases hg : o.guard with
  | none => rfl
  | some p =>
   obtain ⟨j,want⟩ :=p
   simp only
   cases hj : ops[j]? with
   | none => rfl
   | some q =>
    cases hd : q.dst with
    | none => simp [hd]
    | some d =>
     simp only [Option.bind_some,hd]
     rw [ha d (by simp [lookMask,hg,hj,hd,testBit_bit])]
 have put : ∀ {v : Value},putT n T o.dst v = some T' → (∀ t,(dstMask o).testBit t = false → T'.get t = T.get t) ∧
   ∃ tm',putT n tm o.dst v = some tm' ∧ (∀ t,(dstMask o).testBit t = true → tm'.get t = T'.get t) ∧ (∀ t,(dstMask o).testBit t = false → tm'.get t = tm.get t) :=by
  intro v hp
  unfold dstMask
  cases hd : o.dst with
  | none =>
   rw [hd] at hp;cases hp
   exact ⟨fun _ _ => rfl,tm,rfl,fun t ht => by simp at ht,fun _ _ => rfl⟩
  | some d =>
   rw [hd] at hp
   simp only [putT] at hp ⊢
   cases hlt : Nat.blt d n with
   | false => rw [hlt] at hp;cases hp
   | true =>
    rw [hlt] at hp;cases hp
    refine ⟨fun t ht => ?_,_,rfl,fun t ht => ?_,fun t ht => ?_⟩
    ·simp only [testBit_bit,decide_eq_false_iff_not] at ht
     rw [Tr.get_set,if_neg ht]
    ·simp only [testBit_bit,decide_eq_true_eq] at ht
     rw [Tr.get_set,Tr.get_set,if_pos ht,if_pos ht]
    ·simp only [testBit_bit,decide_eq_false_iff_not] at ht
     rw [Tr.get_set,if_neg ht]
 unfold stepM at h ⊢
 rw [hw]
 obtain ⟨b,hb,h⟩ :=lift_bind h
 have bindL : ∀ {α β : Type} {x : Option α} {a : α} {f : α → M β},x = some a → ((liftO x >>= f) s) = f a s :=by
  intro α β x a f e;subst e;rfl
 rw [bindL hb]
 cases b with
 | false =>
  obtain ⟨hp,rfl⟩ :=liftO_some.1 h
  obtain ⟨h1,tm',h2,h3,h4⟩ :=put hp
  exact ⟨h1,tm',liftO_some.2 ⟨h2,rfl⟩,h3,h4⟩
 | true =>
  obtain ⟨v,s1,h1,h2⟩ :=bind_some.1 h
  obtain ⟨hp,rfl⟩ :=liftO_some.1 h2
  obtain ⟨h1',tm',h2,h3,h4⟩ :=put hp
  refine ⟨h1',tm',bind_some.2 ⟨v,s',?_,liftO_some.2 ⟨h2,rfl⟩⟩,h3,h4⟩
  rw [operM_congr (E :=E) (call :=call) o.op hev]
  exact h1
def Mixed {X : Type} (D : Nat → Prop) (val : Nat → Nat → Option X) (wr : Nat → Nat → Bool) (g : Nat → Option X) : Prop :=
 ∀ x,(∃ i,D i ∧ wr i x = true ∧ (∀ k,D k → i < k → wr k x = false) ∧ g x = val (i + 1) x) ∨ ((∀ k,D k → wr k x = false) ∧ g x = val 0 x)
theorem val_same {X : Type} {val : Nat → Nat → Option X} {wr : Nat → Nat → Bool} {m x : Nat} (hv : ∀ i,i < m → wr i x = false → val (i + 1) x = val i x) :
  ∀ (d i j : Nat),j = i + d → j ≤ m → (∀ k,i ≤ k → k < j → wr k x = false) → val j x = val i x
 | 0,i,j,e,_,_ => by rw [e];rfl
 | d + 1,i,j,e,hj,h => by
  subst e
  have e2 : i + (d + 1) = i + d + 1 :=by omega
  rw [e2,hv (i + d) (by omega) (h (i + d) (by omega) (by omega))]
  exact val_same hv d i (i + d) rfl (by omega) fun k h1 h2 => h k h1 (by omega)
theorem Mixed.agree {X : Type} {D : Nat → Prop} {val : Nat → Nat → Option X} {wr : Nat → Nat → Bool} {g : Nat → Option X} (h : Mixed D val wr g) {m j x : Nat}
  (hv : ∀ i,i < m → wr i x = false → val (i + 1) x = val i x) (hj : j ≤ m) (hjD : ¬ D j) (lo : ∀ k,k < j → wr k x = true → D k) (hi : ∀ k,D k → j < k → wr k x = false) :
  g x = val j x :=by
 rcases h x with ⟨i,h1,h2,h3,h4⟩ | ⟨h1,h2⟩
 ·have hlt : i < j :=by
   rcases Nat.lt_trichotomy i j with hh | hh | hh
   ·exact hh
   ·subst hh;exact absurd h1 hjD
   ·rw [hi i h1 hh] at h2;cases h2
  rw [h4]
  refine (val_same hv (j - (i + 1)) (i + 1) j (by omega) hj fun k k1 k2 => ?_).symm
  cases hk : wr k x with
  | false => rfl
  | true => rw [h3 k (lo k k2 hk) (by omega)] at hk;cases hk
 ·rw [h2]
  refine (val_same hv j 0 j (by omega) hj fun k _ k2 => ?_).symm
  cases hk : wr k x with
  | false => rfl
  | true => rw [h1 k (lo k k2 hk)] at hk;cases hk
theorem Mixed.update {X : Type} {D D' : Nat → Prop} {val : Nat → Nat → Option X} {wr : Nat → Nat → Bool} {g g' : Nat → Option X} (h : Mixed D val wr g) {j : Nat}
  (hD : ∀ k,D' k ↔ D k ∨ k = j) (h1 : ∀ x,wr j x = true → g' x = val (j + 1) x) (h2 : ∀ x,wr j x = false → g' x = g x)
  (h3 : ∀ x k,wr j x = true → D k → j < k → wr k x = false) : Mixed D' val wr g' :=by
 intro x
 cases hw : wr j x with
 | true =>
  refine .inl ⟨j,(hD j).2 (.inr rfl),hw,fun k hk hlt => ?_,h1 x hw⟩
  rcases (hD k).1 hk with hk | rfl
  ·exact h3 x k hw hk hlt
  ·omega
 | false =>
  rw [h2 x hw]
  rcases h x with ⟨i,a1,a2,a3,a4⟩ | ⟨a1,a2⟩
  ·refine .inl ⟨i,(hD i).2 (.inl a1),a2,fun k hk hlt => ?_,a4⟩
   rcases (hD k).1 hk with hk | rfl
   ·exact a3 k hk hlt
   ·exact hw
  ·refine .inr ⟨fun k hk => ?_,a2⟩
   rcases (hD k).1 hk with hk | rfl
   ·exact a1 k hk
   ·exact hw
structure Mid (P : Program) (E : Env) (N0 : Nat → Prop) (n : Nat) (ops : Array Oper) (T : Nat → Tr Value) (H : Nat → S) (W : Nat → Nat) (β0 : Bij) (w0 : World)
  (listed : Array Bool) (a : Act) (w : World) (β : Bij) (tm : Tr Value) (h : Tr Blk) : Prop where
 ts : TS β n tm a
 inv : Inv N0 β h.get w
 tmp : Mixed (fun i => listed.getD i false = true) (fun i x => (T i).get x) (fun i x => match ops[i]? with | some o => (dstMask o).testBit x | none => false) tm.get
 heap : Mixed (fun i => listed.getD i false = true) (fun i x => (H i).h.get x) (fun i x => decide (i < ops.size) && (W i).testBit x) h.get
 keep : ∀ b L,β0 b = some L → β b = some L
 new : ∀ b L,β b = some L → β0 b = none → ∃ i,listed.getD i false = true ∧ (H i).nx ≤ b ∧ b < (H (i + 1)).nx
 below : Below N0 w0 w
 closed : ∀ j o,listed.getD j false = true → ops[j]? = some o → ∀ e ∈ o.after.toList,Region.binds .any e = true → listed.getD e.on false = true
 size : listed.size = ops.size
theorem sim_draw (hE : EnvOK P E) (hX : LinkOK P N0 E) (hR : EnvResp E) (hc : CallOK P N0 E call) (hr : ∀ f l,Resp (call f l)) {Q : Exit → Act → World → Prop}
  (hs : Static ops) {T : Nat → Tr Value} {H : Nat → S} {R W : Nat → Nat} (hch : Chain E call n ops 0 ops.size T H R W) {β0 : Bij} {w0 : World}
  (hf : Fresh β0 (H 0).nx (H ops.size).nx) (hg : Globs E β0)
  (hQ : ∀ β a w,TS β n (T ops.size) a → Inv N0 β (H ops.size).h.get w → Ext β0 β (H 0).nx (H ops.size).nx → Below N0 w0 w → Q .normal a w) :
  ∀ (fuel : Nat) (listed : Array Bool) (a : Act) (w : World),listed.toList.count false = fuel →
   (∃ β tm h,Mid P E N0 n ops T H W β0 w0 listed a w β tm h) → wpAny P .any ops Q fuel listed a w :=by
 have stepR : ∀ i o,ops[i]? = some o → RespAt (stepM E call n ops o (T i)) ⟨(H i).h,(H i).nx,0,0⟩ (T (i + 1)) ⟨(H (i + 1)).h,(H (i + 1)).nx,R i,W i⟩ (R i) (W i) :=by
  intro i o ho
  have hi : i < ops.size :=(Array.getElem?_eq_some_iff.1 ho).1
  obtain ⟨dr,dw,r⟩ :=resp_stepM hR hr n ops o (T i) _ _ _ (hch.step i o (Nat.zero_le _) hi ho)
  have e1 : R i = dr :=by have :=r.r;simpa using this
  have e2 : W i = dw :=by have :=r.w;simpa using this
  rw [e1,e2] at r ⊢;exact r
 have get : ∀ i,i < ops.size → ∃ o,ops[i]? = some o :=fun i hi => ⟨ops[i],Array.getElem?_eq_getElem hi⟩
 have mono1 : ∀ i,i < ops.size → (H i).nx ≤ (H (i + 1)).nx :=fun i hi => by
  obtain ⟨o,ho⟩ :=get i hi;exact (stepR i o ho).nx
 have mono : ∀ d i j,j = i + d → j ≤ ops.size → (H i).nx ≤ (H j).nx :=by
  intro d
  induction d with
  | zero => intro i j e _;subst e;exact Nat.le_refl _
  | succ d ih =>
   intro i j e hj;subst e
   exact Nat.le_trans (ih i (i + d) rfl (by omega)) (mono1 (i + d) (by omega))
 have clos : ∀ (listed : Array Bool),(∀ j o,listed.getD j false = true → ops[j]? = some o → ∀ e ∈ o.after.toList,Region.binds .any e = true → listed.getD e.on false = true) →
   ∀ (N j : Nat),j < N → ∀ o,ops[j]? = some o → (∀ e ∈ o.after.toList,Region.binds .any e = true → listed.getD e.on false = true) →
   ∀ i,((Region.before ops).getD j 0).testBit i = true → listed.getD i false = true :=by
  intro listed hcl N
  induction N with
  | zero => intro j hj;omega
  | succ N ih =>
   intro j hj o ho hall i hi
   obtain ⟨e,he,hb,h⟩ :=hs.pred j o i ho hi
   have hon :=hall e he hb
   rcases h with rfl | h
   ·exact hon
   ·have hlt :=hs.low j o ho e he hb
    obtain ⟨o',ho'⟩ : ∃ o',ops[e.on]? = some o' :=by
     have : j < ops.size :=(Array.getElem?_eq_some_iff.1 ho).1
     exact get e.on (by omega)
    exact ih e.on (by omega) o' ho' (hcl e.on o' hon ho') i h
 have done : ∀ (listed : Array Bool) (a : Act) (w : World) (β : Bij) (tm : Tr Value) (h : Tr Blk),Mid P E N0 n ops T H W β0 w0 listed a w β tm h →
   (∀ i,i < ops.size → listed.getD i false = true) → Q .normal a w :=by
  intro listed a w β tm h M hall
  have out : ∀ k,listed.getD k false = true → k < ops.size :=by
   intro k hk
   rcases Nat.lt_or_ge k listed.size with hlt | hge
   ·rw [← M.size];exact hlt
   ·simp [Array.getElem?_eq_none hge] at hk
  have nm : ¬ listed.getD ops.size false = true :=fun hk => absurd (out _ hk) (Nat.lt_irrefl _)
  have et : ∀ x,tm.get x = (T ops.size).get x :=fun x => M.tmp.agree (m :=ops.size)
   (fun i hi hw => by
    obtain ⟨o,ho⟩ :=get i hi
    simp only [ho] at hw
    exact (stepM_congr (hch.step i o (Nat.zero_le _) hi ho) (tm :=T i) fun _ _ => rfl).1 x hw) (Nat.le_refl _) nm (fun k hk _ => hall k hk)
   (fun k hk hlt => by have :=out k hk;omega)
  have eh : ∀ x,h.get x = (H ops.size).h.get x :=fun x => M.heap.agree (m :=ops.size)
   (fun i hi hw => by
    obtain ⟨o,ho⟩ :=get i hi
    simp only [hi,decide_true,Bool.true_and] at hw
    exact (stepR i o ho).old x hw) (Nat.le_refl _) nm (fun k hk _ => hall k hk)
   (fun k hk hlt => by have :=out k hk;omega)
  refine hQ β a w ⟨M.ts.size,M.ts.defers,fun i v hv => M.ts.rel i v (by rw [et];exact hv)⟩ (M.inv.congr fun b => (eh b).symm) ⟨M.keep,fun b L hb h0 => ?_⟩ M.below
  obtain ⟨i,hi,h1,h2⟩ :=M.new b L hb h0
  have :=out i hi
  exact ⟨Nat.le_trans (mono i 0 i (by omega) (by omega)) h1,Nat.lt_of_lt_of_le h2 (mono (ops.size - (i + 1)) (i + 1) ops.size (by omega) (Nat.le_refl _))⟩
 have idle : ∀ (listed : Array Bool),listed.size = ops.size → Region.ready .any ops listed = [] → ∀ i,i < ops.size → listed.getD i false = true :=by
  intro listed hsz hrd i
  induction i using Nat.strongRecOn with
  | _ i ih =>
   intro hi
   cases hl : listed.getD i false with
   | true => rfl
   | false =>
    exfalso
    obtain ⟨o,ho⟩ :=get i hi
    have : i ∈ Region.ready .any ops listed :=by
     refine mem_ready.2 ⟨?_,o,ho,fun e he hb => ?_⟩
     ·have : i < listed.size :=by omega
      simpa [this] using hl
     ·have he' : e ∈ o.after.toList :=by simpa using he
      have hlt :=hs.low i o ho e he' hb
      exact ih e.on hlt (by omega)
    rw [hrd] at this;cases this
 intro fuel
 induction fuel with
 | zero =>
  rintro listed a w hcnt ⟨β,tm,h,M⟩
  have hall : ∀ i,i < ops.size → listed.getD i false = true :=by
   intro i hi
   have hi' : i < listed.size :=by rw [M.size];exact hi
   cases hl : listed[i] with
   | true => simp [hi',hl]
   | false =>
    exfalso
    have : false ∈ listed.toList :=by rw [← hl];simp
    have :=List.count_pos_iff.2 this
    omega
  refine ⟨?_,done listed a w β tm h M hall⟩
  cases hrd : Region.ready .any ops listed with
  | nil => rfl
  | cons x l =>
   exfalso
   have hx : x ∈ Region.ready .any ops listed :=by rw [hrd];exact List.mem_cons_self
   obtain ⟨h0,o,ho,_⟩ :=mem_ready.1 hx
   have hlt : x < ops.size :=(Array.getElem?_eq_some_iff.1 ho).1
   have h1 :=hall x hlt
   have h2 : x < listed.size :=by rw [M.size];exact hlt
   simp [h2] at h0 h1
   rw [h0] at h1;cases h1
 | succ fuel ih =>
  rintro listed a w hcnt ⟨β,tm,h,M⟩
  refine ⟨fun hrd => done listed a w β tm h M (idle listed M.size hrd),fun j hj => ?_⟩
  obtain ⟨hjl,o,ho,hall⟩ :=mem_ready.1 hj
  have hjs : j < ops.size :=(Array.getElem?_eq_some_iff.1 ho).1
  have hjl2 : j < listed.size :=by rw [M.size];exact hjs
  have hjD : ¬ listed.getD j false = true :=by
   intro e;simp [hjl2] at hjl e;rw [hjl] at e;cases e
  have hall' : ∀ e ∈ o.after.toList,Region.binds .any e = true → listed.getD e.on false = true :=fun e he hb => hall e (by simpa using he) hb
  have ahead :=clos listed M.closed (j + 1) j (by omega) o ho hall'
  have later : ∀ k,listed.getD k false = true → ((Region.before ops).getD k 0).testBit j = true → False :=by
   intro k hk hb
   have hks : k < ops.size :=by
    rcases Nat.lt_or_ge k listed.size with hlt | hge
    ·rw [← M.size];exact hlt
    ·simp [Array.getElem?_eq_none hge] at hk
   obtain ⟨ok,hok⟩ :=get k hks
   exact hjD (clos listed M.closed (k + 1) k (by omega) ok hok (M.closed k ok hk hok) j hb)
  have ksz : ∀ k,listed.getD k false = true → k < ops.size :=by
   intro k hk
   rcases Nat.lt_or_ge k listed.size with hlt | hge
   ·rw [← M.size];exact hlt
   ·simp [Array.getElem?_eq_none hge] at hk
  have hst :=hch.step j o (Nat.zero_le _) hjs ho
  have RR :=stepR j o ho
  have eqh : ∀ b,(R j ||| W j).testBit b = true → h.get b = (H j).h.get b :=by
   intro b hb
   simp only [testBit_or,Bool.or_eq_true] at hb
   refine M.heap.agree (m :=ops.size) (fun i hi hw => ?_) (Nat.le_of_lt hjs) hjD (fun k hk hw => ?_) (fun k hk hlt => ?_)
   ·obtain ⟨oi,hoi⟩ :=get i hi
    simp only [hi,decide_true,Bool.true_and] at hw
    exact (stepR i oi hoi).old b hw
   ·have hks : k < ops.size :=by omega
    simp only [hks,decide_true,Bool.true_and] at hw
    exact ahead k (hch.clear k j hk (Nat.zero_le _) hjs (clash_iff.2 ⟨b,.inl ⟨hw,hb⟩⟩))
   ·have hks :=ksz k hk
    simp only [hks,decide_true,Bool.true_and]
    cases hw : (W k).testBit b with
    | false => rfl
    | true =>
     exfalso
     refine later k hk (hch.clear j k hlt (Nat.zero_le _) hks (clash_iff.2 ⟨b,?_⟩))
     rcases hb with hb | hb
     ·exact .inr ⟨hw,hb⟩
     ·exact .inl ⟨hb,.inr hw⟩
  obtain ⟨t',st,tnx,_,_,tw,tn⟩ :=RR.again ⟨h,(H j).nx,0,0⟩ rfl fun b _ hb => eqh b hb
  have eqt : ∀ t,(lookMask ops o).testBit t = true → tm.get t = (T j).get t :=by
   intro t htb
   refine M.tmp.agree (m :=ops.size) (fun i hi hw => ?_) (Nat.le_of_lt hjs) hjD (fun k hk hw => ?_) (fun k hk hlt => ?_)
   ·obtain ⟨oi,hoi⟩ :=get i hi
    simp only [hoi] at hw
    exact (stepM_congr (hch.step i oi (Nat.zero_le _) hi hoi) (tm :=T i) fun _ _ => rfl).1 t hw
   ·obtain ⟨ok,hok⟩ :=get k (by omega)
    simp only [hok] at hw
    exact ahead k (hs.apart k j ok o hk hok ho (clash_iff.2 ⟨t,.inl ⟨hw,.inl htb⟩⟩))
   ·obtain ⟨ok,hok⟩ :=get k (ksz k hk)
    simp only [hok]
    cases hw : (dstMask ok).testBit t with
    | false => rfl
    | true => exact (later k hk (hs.apart j k o ok hlt ho hok (clash_iff.2 ⟨t,.inr ⟨hw,htb⟩⟩))).elim
  obtain ⟨_,tm',st',hm1,hm2⟩ :=stepM_congr st eqt
  have hfr : Fresh β (H j).nx t'.nx :=by
   intro b h1 h2
   rw [tnx] at h2
   cases hb : β b with
   | none => rfl
   | some L =>
    exfalso
    cases h0 : β0 b with
    | some L0 =>
     have : β0 b = none :=hf b (Nat.le_trans (mono j 0 j (by omega) (by omega)) h1)
      (Nat.lt_of_lt_of_le h2 (mono (ops.size - (j + 1)) (j + 1) ops.size (by omega) (Nat.le_refl _)))
     rw [h0] at this;cases this
    | none =>
     obtain ⟨i,hi,h3,h4⟩ :=M.new b L hb h0
     have his :=ksz i hi
     rcases Nat.lt_trichotomy i j with hh | hh | hh
     ·have :=mono (j - (i + 1)) (i + 1) j (by omega) (by omega)
      omega
     ·subst hh;exact hjD hi
     ·have :=mono (i - (j + 1)) (j + 1) i (by omega) (by omega)
      have e2 : (H (j + 1)).nx = (⟨(H (j + 1)).h,(H (j + 1)).nx,R j,W j⟩ : S).nx :=rfl
      simp only at h2
      omega
  refine sim_stepM (s :=⟨h,(H j).nx,0,0⟩) hE hX hc ho st' M.inv hfr (hg.mono M.keep) M.ts ?_
  intro β' w' a' hts hout
  have memD : ∀ k,(listed.setIfInBounds j true).getD k false = true ↔ listed.getD k false = true ∨ k = j :=by
   intro k
   by_cases e : j = k
   ·subst e;simp [hjl2]
   ·rw [getD_set_ne false e]
    constructor
    ·exact .inl
    ·rintro (h | h)
     ·exact h
     ·exact absurd h.symm e
  refine ih _ a' w' ?_ ⟨β',tm',t'.h,hts,hout.inv,M.tmp.update memD (fun x hx => ?_) (fun x hx => ?_) (fun x k hx hk hlt => ?_),
   M.heap.update memD (fun x hx => ?_) (fun x hx => ?_) (fun x k hx hk hlt => ?_),fun b L hb => hout.ext.keep b L (M.keep b L hb),fun b L hb h0 => ?_,
   M.below.trans hout.below,fun k ok hk hok e he hb => ?_,by simp [M.size]⟩
  ·have hlen : j < listed.toList.length :=by simpa using hjl2
   have hl0 : listed.toList[j] = false :=by simp [hjl2] at hjl;simpa using hjl
   rw [Array.toList_setIfInBounds,List.count_set hlen,hl0,hcnt]
   simp
  ·simp only [ho] at hx;exact hm1 x hx
  ·simp only [ho] at hx;exact hm2 x hx
  ·simp only [ho] at hx
   obtain ⟨ok,hok⟩ :=get k (ksz k hk)
   simp only [hok]
   cases hw : (dstMask ok).testBit x with
   | false => rfl
   | true => exact (later k hk (hs.apart j k o ok hlt ho hok (clash_iff.2 ⟨x,.inl ⟨hx,.inr hw⟩⟩))).elim
  ·simp only [hjs,decide_true,Bool.true_and] at hx
   exact tw x hx
  ·simp only [hjs,decide_true,Bool.true_and] at hx
   exact tn x hx
  ·simp only [hjs,decide_true,Bool.true_and] at hx
   have hks :=ksz k hk
   simp only [hks,decide_true,Bool.true_and]
   cases hw : (W k).testBit x with
   | false => rfl
   | true => exact (later k hk (hch.clear j k hlt (Nat.zero_le _) hks (clash_iff.2 ⟨x,.inl ⟨hx,.inr hw⟩⟩))).elim
  ·cases hb' : β b with
   | none =>
    have :=hout.ext.new b L hb hb'
    exact ⟨j,(memD j).2 (.inr rfl),this.1,by have :=this.2;rw [tnx] at this;exact this⟩
   | some L' =>
    have :=hout.ext.keep b L' hb'
    rw [hb] at this;cases this
    obtain ⟨i,hi,h1,h2⟩ :=M.new b L hb' h0
    exact ⟨i,(memD i).2 (.inl hi),h1,h2⟩
  ·rcases (memD k).1 hk with hk | rfl
   ·exact (memD e.on).2 (.inl (M.closed k ok hk hok e he hb))
   ·rw [ho] at hok;cases hok
    exact (memD e.on).2 (.inl (hall' e he hb))
theorem sim_region (hE : EnvOK P E) (hX : LinkOK P N0 E) (hR : EnvResp E) (hc : CallOK P N0 E call) (hr : ∀ f l,Resp (call f l)) {Q : Exit → Act → World → Prop} {id : Nat} {d : Bool}
  {tm tm' : Tr Value} {s s' : S} {β : Bij} {w : World} {a : Act} (h : runRegion E call n ops d tm s = some (tm',s')) (hI : Inv N0 β s.h.get w) (hf : Fresh β s.nx s'.nx)
  (hg : Globs E β) (ht : TS β n tm a) (hQ : ∀ β' w' a',TS β' n tm' a' → Out N0 β s w s' β' w' → Q .normal a' w') : (Code.region id ops d).wp P Q a w :=by
 unfold runRegion at h
 cases d with
 | false =>
  refine wp_region ?_
  rw [List.range_eq_range',← Array.length_toList]
  exact sim_runOps hE hX hR hc hr ops.toList 0 rfl tm s tm' s' β w a h hI hf hg ht hQ
 | true =>
  obtain ⟨_,s1,h1,h2⟩ :=bind_some.1 h
  obtain ⟨hok,rfl⟩ :=guardM_some.1 h1
  have hs :=regOK_static hok
  obtain ⟨T,H,R,W,e1,e2,e3,e4,e5,e6,_,hch⟩ :=chain_of_draw (E :=E) (call :=call) (n :=n) (ops :=ops) ops.toList 0 (fun _ => 0) (fun _ => 0) ⟨[],0,0⟩ tm s1 tm' s' rfl h2
   ⟨fun k hk => absurd hk (Nat.not_lt_zero _),fun k hk => absurd hk (Nat.not_lt_zero _),fun k hk => absurd hk (Nat.not_lt_zero _)⟩
  rw [Nat.zero_add,Array.length_toList] at e4 e5 e6 hch
  refine wp_region_any hE.mixed ?_
  have hb : Below N0 w { w with drawn :=w.drawn + 1 } :=⟨rfl,rfl,rfl,Nat.le_refl _,fun _ _ => rfl⟩
  refine sim_draw (w0 :={ w with drawn :=w.drawn + 1 }) (β0 :=β) hE hX hR hc hr hs hch (by rw [e3,e6];exact hf) hg ?_ ops.size _ a _ (by simp) ⟨β,tm,s1.h,ht,hI.world rfl,?_,?_,fun _ _ h => h,
   fun b L h h0 => (by rw [h] at h0;cases h0),Below.refl _ _,fun j o hj => ?_,by simp⟩
  ·intro β' a' w' hts hinv hext hbel
   rw [e4] at hts
   refine hQ β' w' a' hts ⟨by rw [e3,e6] at hext;exact hext,hinv.congr fun b => by rw [e5],hb.trans hbel⟩
  ·intro x
   refine .inr ⟨fun k hk => ?_,by show tm.get x = (T 0).get x;rw [e1]⟩
   exfalso
   rcases Nat.lt_or_ge k ops.size with hlt | hge
   ·simp [hlt] at hk
   ·simp [Nat.not_lt.2 hge] at hk
  ·intro x
   refine .inr ⟨fun k hk => ?_,by show s1.h.get x = (H 0).h.get x;rw [e2]⟩
   exfalso
   rcases Nat.lt_or_ge k ops.size with hlt | hge
   ·simp [hlt] at hk
   ·simp [Nat.not_lt.2 hge] at hk
  ·exfalso
   rcases Nat.lt_or_ge j ops.size with hlt | hge
   ·simp [hlt] at hj
   ·simp [Nat.not_lt.2 hge] at hj
end
end
end Go.Ideal

