-- Written for this claim by a program, out of the translation.
import Derived.Test.YtlafgnanfkhobaaGreatDoorQ0
namespace Go.Proofs.YtlafgnanfkhobaaGreatDoor.P2
open Go.RowKit Go.Proofs.YtlafgnanfkhobaaGreatDoorW.PrintWords Go.Proofs.YtlafgnanfkhobaaGreatDoorW.PrintLast Go.Proofs.YtlafgnanfkhobaaGreatDoorW.PrintMore
attribute [local go_sem] max2_int min2_int max_two min_two max_three min_three max_four min_four
def pandectlaw27_begun.f : Option (Bool) :=some true
theorem pandectlaw27_begun.calls (r : Bool) (w : World) (h : pandectlaw27_begun.f = some r) : Calls Tryz.prog 5 #[] w fun e w' => e = .returned (.bool r) ∧ Below w.heap.size w w' :=by cases h;exact Go.Proofs.YtlafgnanfkhobaaGreatDoor.yes5 w
theorem slices_Clone_byte_byte.info : (Tryz.prog.info? 5).map (fun i => (i.zero,i.size,i.bytes)) = some (some (.int .u8 0),1,1) :=by kernel_rfl
theorem slices_Clone_byte_byte.eql_none (c : Nat) (w : World) : (binOp .eql 22 (.slice none 0 c) (.slice none 0 0)).run Tryz.prog w = .ok (.bool true) w :=by kernel_rfl
theorem slices_Clone_byte_byte.eql_some (a : Addr) (n c : Nat) (w : World) : (binOp .eql 22 (.slice (some a) n c) (.slice none 0 0)).run Tryz.prog w = .ok (.bool false) w :=by kernel_rfl
def slices_Clone_byte_byte.f (l0 : List Int) : Option (List Int) :=if l0.length ≤ 140737488355328 then some l0 else none
set_option maxHeartbeats 2000000 in
set_option maxRecDepth 100000 in
theorem slices_Clone_byte_byte.calls (A0 : Option Addr) (c0 : Nat) (l0 : List Int) (r : List Int) (w : World) (hr0 : Kd.C (Kd.int .u8) w A0 l0.length l0) (hc0 : l0.length ≤ c0) (h : slices_Clone_byte_byte.f l0 = some r) :
  Calls Tryz.prog 41 #[.slice A0 l0.length c0] w fun e w' => ∃ v0_ : Value,e = .returned (v0_) ∧ Kd.R (Kd.int .u8) 5 w' w.heap.size (fun _ => True) v0_ r ∧ Below w.heap.size w w' :=by
 unfold slices_Clone_byte_byte.f at h
 split at h
 case isFalse => cases h
 rename_i hlim
 cases h
 cases A0 with
 | none =>
  have hn : l0 = [] :=by
   cases l0 with
   | nil => rfl
   | cons x l => obtain ⟨ad,e,_⟩ :=hr0.2.2 (by simp);cases e
  subst hn
  have he :=fun w => slices_Clone_byte_byte.eql_none c0 w
  go_enter Tryz.func41,Tryz.ntmps41
  go_wp2
  go_ret
  exact ⟨_,rfl,Kd.R_nil _ _ _ _ _,Below.refl _ _⟩
 | some ad =>
  have he :=fun w => slices_Clone_byte_byte.eql_some ad l0.length c0 w
  go_enter Tryz.func41,Tryz.ntmps41
  go_wp2_with (first | ((with_reducible refine gate_dst (N :=5) rfl ?_);refine Kd.R_lit (Kd.int .u8) _ 5 ?hg (N :=5) ?hd (xs :=([] : List Int)) (inner :=[]) (ok :=fun _ => True) (okp :=fun _ => True) ?hr ?hp (fun _ hk => hk) trivial (Below.refl _ _) (Nat.le_refl _) (by simp) ?_;(case hd => rfl);(case hg => rfl);(case hr => first | (go_simp;done) | (go_simp;rfl));(case hp => exact Reps.none _ _);intro v1 w1 ho hb hg hnew) | ((with_reducible refine gate_builtin (b :=.append) (xs :=#[.tmp 5,.tmp 6]) rfl ?_);at_builtin;refine Kd.R_append_row (Value.int .u8) 0 (h1 :=fun _ => rfl) (w0 :=w) w.heap.size rfl (.tmp 5) (.tmp 6) 22 5 (.int .u8 0) 1 rfl Tryz.underlying22 slices_Clone_byte_byte.info rfl (by decide) _ [] l0 _ _ _ (fun _ => True) rfl rfl (fun _ _ => trivial) ho (Kd.C_below hr0 hb) hb hb.size (by simpa using hlim) ?_;intro v2 w2 ho2 hb2 hg2 hat2))
  go_ret
  exact ⟨_,rfl,ho2,hb2⟩
section
variable {P : Program} {ops : Array Oper} {rest : List Oper} {o : Oper} {a : Act} {Q : Exit → Act → World → Prop} {W : World}
theorem gate_clos {t : Tmp} {xs : Array Operand} {ts : Array TypeId} (_ho : o.op = .call { callee :=.value (.tmp t),args :=xs,argTypes :=ts }) (h : wpList P ops Q (o :: rest) a W) : wpList P ops Q (o :: rest) a W :=h
theorem goesC_ {oi : Oper} {N : Option Tmp} {a : Act} {w : World} {K : Act → World → Prop} {f : FuncId} {fn : Func} {t : Tmp} {bs : Array Value} {xs : Array Operand} {ts : Array TypeId} (hf : P.funcs[f]? = some fn) (hname : (fn.name == "runtime.NumGoroutine") = false) (hb : fn.body.isSome = true) (args : Array Value)
  (hw : Region.wanted oi (yielded ops a.tmps) = true) (hN : oi.dst = N) (hop : oi.op = .call { callee :=.value (.tmp t),args :=xs,argTypes :=ts }) (hv : a.eval (.tmp t) = .func (.func f) bs #[]) (hargs : bs ++ xs.map a.eval = args)
  (h : Calls P f args w fun e w' => ∃ v,e = .returned v ∧ K (a.put N v) w') : if Region.wanted oi (yielded ops a.tmps) = true then Oper.wp P oi a w K Q else K (a.put N undef) w :=by
 refine call_ f args hw hN ?_ h
 have he :=enters_ hf hname hb args w
 unfold execOp
 simp [hop,resolve,hv,Deferred.ofValue,invoke,hargs,he]
theorem goesLC_ {rest : List Oper} {oi : Oper} {a : Act} {w : World} (N : Option Tmp) (hd : oi.dst = N) (hg : oi.guard = none) {f : FuncId} {fn : Func} {t : Tmp} {bs : Array Value} {xs : Array Operand} {ts : Array TypeId} (hf : P.funcs[f]? = some fn) (hname : (fn.name == "runtime.NumGoroutine") = false) (hb : fn.body.isSome = true) (args : Array Value)
  (hop : oi.op = .call { callee :=.value (.tmp t),args :=xs,argTypes :=ts }) (hv : a.eval (.tmp t) = .func (.func f) bs #[]) (hargs : bs ++ xs.map a.eval = args)
  (h : Calls P f args w fun e w' => ∃ v,e = .returned v ∧ wpList P ops Q rest (a.put N v) w') : wpList P ops Q (oi :: rest) a w :=by
 refine wpList_plain hg fun K hK => ?_
 have he :=enters_ hf hname hb args w
 have hrun : (execOp a.eval oi).run P w = .ok (.enter f args) w :=by
  unfold execOp
  simp [hop,resolve,hv,Deferred.ofValue,invoke,hargs,he]
 unfold Oper.wp
 rw [hrun,Oper.upon_enter]
 refine h.mono fun e w'' hh => ?_
 obtain ⟨v,rfl,hk⟩ :=hh
 subst hd
 exact hK _ _ hk
end
theorem bytesOf_range (s : ByteArray) : ∀ x ∈ bytesOf s,0 ≤ x ∧ x ≤ 255 :=by
 intro x hx
 simp only [bytesOf,List.mem_map] at hx
 obtain ⟨b,_,rfl⟩ :=hx
 have :=b.toNat_lt
 omega
theorem bytesOf_strOfNums (xs : List Int) (h : ∀ x ∈ xs,0 ≤ x ∧ x ≤ 255) : bytesOf (strOfNums xs) = xs :=by
 simp only [bytesOf,strOfNums,List.map_map]
 conv => rhs;rw [← List.map_id xs]
 apply List.map_congr_left
 intro x hx
 obtain ⟨h1,h2⟩ :=h x hx
 simp only [Function.comp_def,UInt8.toNat_ofNat',id]
 omega
def mkreader.f (l0 : List Int) : Option (ByteArray × Bool) :=if ∀ x ∈ l0,0 ≤ x ∧ x ≤ 255 then some (strOfNums l0,false) else none
def I5 (w0 W : World) (g : Nat) (f0 : ByteArray) (f1 : Bool) : Prop :=∃ A0 c0,W.heap[g]? = some (.cells #[.slice A0 (bytesOf f0).length c0,.bool f1] 51 (0,0)) ∧ w0.heap.size ≤ g ∧ Kd.C (Kd.int .u8) w0 A0 (bytesOf f0).length (bytesOf f0) ∧ (bytesOf f0).length ≤ c0
theorem I5.grown {w0 W : World} {g : Nat} {f0 : ByteArray} {f1 : Bool} {W1 : World} {row : Option Nat} (h : I5 w0 W g f0 f1) (hw : W.grownBy W1 row) (hne : some g ≠ row) : I5 w0 W1 g f0 f1 :=by
 obtain ⟨A0,c0,hb,hg,hr⟩ :=h
 exact ⟨A0,c0,blk_grown hb hw hne,hg,hr⟩
theorem I5.grownF {w0 W0 W : World} {g : Nat} {f0 : ByteArray} {f1 : Bool} {W1 : World} {row : Option Nat} (_ : I5 w0 W0 g f0 f1) (h : I5 w0 W g f0 f1) (hw : W.grownBy W1 row) (hne : some g ≠ row) : I5 w0 W1 g f0 f1 :=h.grown hw hne
theorem I5.below {w0 W : World} {g : Nat} {f0 : ByteArray} {f1 : Bool} {W1 : World} (h : I5 w0 W g f0 f1) (hw : Below W.heap.size W W1) : I5 w0 W1 g f0 f1 :=h.grown (grown_of_below hw none) (by simp)
theorem I5.alloc {w0 W : World} {g : Nat} {f0 : ByteArray} {f1 : Bool} (h : I5 w0 W g f0 f1) (o : Obj) : I5 w0 (W.alloc o) g f0 f1 :=h.below (bwa (Below.refl _ _) o)
theorem I5.drewN {w0 W : World} {g : Nat} {f0 : ByteArray} {f1 : Bool} (h : I5 w0 W g f0 f1) (m : Nat) : I5 w0 (W.drewN m) g f0 f1 :=h
theorem I5.drew {w0 W : World} {g : Nat} {f0 : ByteArray} {f1 : Bool} (h : I5 w0 W g f0 f1) : I5 w0 W.drew g f0 f1 :=h
theorem I5.at_ {w0 W : World} {g : Nat} {f0 : ByteArray} {f1 : Bool} {w' : World} {m : Nat} (hq : W.drewN m = w') (h : I5 w0 W g f0 f1) : I5 w0 w' g f0 f1 :=by subst hq;exact I5.drewN h m
theorem I5.apart {w0 W : World} {g : Nat} {f0 : ByteArray} {f1 : Bool} {α : Type} {d : Kd α} {e : Nat} {base : Nat} {ok : Nat → Prop} {v : Value} {xs : List α} (h : I5 w0 W g f0 f1) (ho : d.R e W base ok v xs) (ht : ∀ q,q ∈ e :: d.E → q ≠ 51) : d.R e W base (fun k => ok k ∧ k ≠ g) v xs :=by
 obtain ⟨A0,c0,hb,hg,hr⟩ :=h
 exact Kd.R_types ho hb ht
theorem I5.own_ne {w0 W : World} {g : Nat} {f0 : ByteArray} {f1 : Bool} {α : Type} {d : Kd α} {e : Nat} {base : Nat} {ok : Nat → Prop} {v : Value} {xs : List α} (h : I5 w0 W g f0 f1) (ho : d.R e W base ok v xs) (ht : e ≠ 51) : some g ≠ v.ownBlock :=by
 obtain ⟨A0,c0,hb,hg,hr⟩ :=h
 exact Kd.R_ne ho hb ht
theorem I5.apartS {w0 W : World} {g : Nat} {f0 : ByteArray} {f1 : Bool} {α : Type} {d : Kd α} {e : Nat} {base : Nat} {ok : Nat → Prop} {v : Value} {xs : List α} (h : I5 w0 W g f0 f1) (ho : d.S e W base ok v xs) (ht : ∀ q,q ∈ e :: d.E → q ≠ 51) : d.S e W base (fun k => ok k ∧ k ≠ g) v xs :=by
 obtain ⟨A0,c0,hb,hg,hr⟩ :=h
 exact Kd.S_types ho hb ht
theorem I5.own_neS {w0 W : World} {g : Nat} {f0 : ByteArray} {f1 : Bool} {α : Type} {d : Kd α} {e : Nat} {base : Nat} {ok : Nat → Prop} {v : Value} {xs : List α} (h : I5 w0 W g f0 f1) (ho : d.S e W base ok v xs) (ht : e ≠ 51) : some g ≠ v.ownBlock :=by
 obtain ⟨A0,c0,hb,hg,hr⟩ :=h
 exact Kd.S_ne ho hb ht
theorem I5.lt {w0 W : World} {g : Nat} {f0 : ByteArray} {f1 : Bool} (h : I5 w0 W g f0 f1) : g < W.heap.size :=by
 obtain ⟨A0,c0,hb,hg,hr⟩ :=h
 exact blk_lt hb
theorem I5.ge {w0 W : World} {g : Nat} {f0 : ByteArray} {f1 : Bool} (h : I5 w0 W g f0 f1) : w0.heap.size ≤ g :=by
 obtain ⟨A0,c0,hb,hg,hr⟩ :=h
 exact hg
theorem I5.far {w0 W : World} {g : Nat} {f0 : ByteArray} {f1 : Bool} {p : Addr} (h : I5 w0 W g f0 f1) (hne : g ≠ p.block) (u : Value) : I5 w0 (W.setCell p u) g f0 f1 :=by
 obtain ⟨A0,c0,hb,hg,hr⟩ :=h
 exact ⟨A0,c0,blk_far hb hne u,hg,hr⟩
theorem I5.box_ {w0 W : World} {g : Nat} {A0 : Option Addr} {c0 : Nat} {xs : List Int} {t0 : ByteArray} {t1 : Bool} (hb : W.heap[g]? = some (.cells #[.slice A0 xs.length c0,.bool false] 51 (0,0))) (hg : w0.heap.size ≤ g) (hr : Kd.C (Kd.int .u8) w0 A0 xs.length xs) (hc : xs.length ≤ c0)
  (h : mkreader.f xs = some (t0,t1)) : I5 w0 W g t0 t1 :=by
 unfold mkreader.f at h
 split at h
 ·rename_i hx
  cases h
  have e :=bytesOf_strOfNums xs hx
  exact ⟨A0,c0,by rw [e];exact hb,hg,by rw [e];exact hr,by rw [e];exact hc⟩
 ·cases h
theorem cellS51_0 {W : World} {g c0 : Nat} {A0 : Option Addr} {f0 : ByteArray} {f1 : Bool} (h : W.heap[g]? = some (.cells #[.slice A0 (bytesOf f0).length c0,.bool f1] 51 (0,0))) : W.cell? ⟨g,0,none⟩ = some (.slice A0 f0.size c0) :=by
 rw [← bytesOf_length]
 exact (bkc h 0).trans rfl
theorem cellS51_1 {W : World} {g c0 : Nat} {A0 : Option Addr} {f0 : ByteArray} {f1 : Bool} (h : W.heap[g]? = some (.cells #[.slice A0 (bytesOf f0).length c0,.bool f1] 51 (0,0))) : W.cell? ⟨g,1,none⟩ = some (.bool f1) :=(bkc h 1).trans rfl
def pr_bytes.f (s : ByteArray) (b : Bool) (n : Int) : Option (List Int × ByteArray × Bool) :=
 if ((bytesOf s).length : Int) < n then some ([],strOfNums [],true) else if 0 ≤ n then
  (if ((bytesOf s).take n.toNat).length ≤ 140737488355328 then some ((bytesOf s).take n.toNat,strOfNums ((bytesOf s).drop n.toNat),b) else none) else none
set_option maxHeartbeats 2000000 in
set_option maxRecDepth 100000 in
theorem pr_bytes.calls (g : Nat) (a3 : ByteArray) (a5 : Bool) (a1 : Int) (r1 : List Int) (r2 : ByteArray) (r3 : Bool) (w0 w : World) (hI : I5 w0 w g a3 a5) (hB : Below w0.heap.size w0 w) (h : pr_bytes.f a3 a5 a1 = some (r1,r2,r3)) :
  Calls Tryz.prog 25 #[.pointer (some ⟨g,0,none⟩),.int .i64 a1] w fun e w' => ∃ v0_ : Value,e = .returned (v0_) ∧ Kd.R (Kd.int .u8) 5 w' w.heap.size (fun _ => True) v0_ r1 ∧ I5 w0 w' g r2 r3 ∧ Below w0.heap.size w0 w' ∧ KB w w' g none :=by
 have hI0 :=hI
 obtain ⟨A0,c0,hb,hg,hr,hc⟩ :=hI
 have hlt :=blk_lt hb
 unfold pr_bytes.f at h
 by_cases h1 : ((bytesOf a3).length : Int) < a1
 ·rw [if_pos h1] at h
  cases h
  have d1 : decide (((bytesOf a3).length : Int) < a1) = true :=decide_eq_true h1
  have q0 : w.cell? ⟨g,0,none⟩ = some (.slice A0 (bytesOf a3).length c0) :=(bkc hb 0).trans rfl
  have q1 :=(bkc hb 1).trans rfl
  have f0 :=bkz hb 0
  have f1 :=bkz hb 1
  have b1 : (w.setCell ⟨g,0,none⟩ (.slice none 0 0)).heap[g]? = some (.cells #[.slice none 0 0,.bool a5] 51 (0,0)) :=by simpa using blk_set hb 0 (.slice none 0 0)
  have f2 :=bkz b1 1
  have b2 : ((w.setCell ⟨g,0,none⟩ (.slice none 0 0)).setCell ⟨g,1,none⟩ (.bool true)).heap[g]? = some (.cells #[.slice none 0 0,.bool true] 51 (0,0)) :=by simpa using blk_set b1 1 (.bool true)
  go_enter Tryz.func25,Tryz.ntmps25
  go_wp2
  go_ret
  refine ⟨_,rfl,Kd.R_nil _ _ _ _ _,⟨none,0,?_,hg,?_,?_⟩,bws (bws hB hg) hg,?_⟩
  ·rw [bytesOf_strOfNums [] (by simp)];exact b2
  ·rw [bytesOf_strOfNums [] (by simp)];exact ⟨rfl,by simp,fun hp => by simp at hp⟩
  ·rw [bytesOf_strOfNums [] (by simp)];exact Nat.zero_le _
  ·exact ((KB.refl w g none).set_ 0 _).set_ 1 _
 ·rw [if_neg h1] at h
  by_cases h2 : 0 ≤ a1
  ·rw [if_pos h2] at h
   by_cases h3 : ((bytesOf a3).take a1.toNat).length ≤ 140737488355328
   ·rw [if_pos h3] at h
    cases h
    have d1 : decide (((bytesOf a3).length : Int) < a1) = false :=decide_eq_false h1
    have q0 : w.cell? ⟨g,0,none⟩ = some (.slice A0 (bytesOf a3).length c0) :=(bkc hb 0).trans rfl
    obtain ⟨i5,j5⟩ : ∃ i,Tryz.prog.info? 5 = some i ∧ i.size = 1 :=by
     have h5 :=info5
     cases hx : Tryz.prog.info? 5 with
     | none => rw [hx] at h5;cases h5
     | some i => rw [hx] at h5;exact ⟨i,rfl,by simp at h5;exact h5.2.1⟩
    have hrw :=Kd.C_below hr hB
    have hm : a1.toNat ≤ (bytesOf a3).length :=by omega
    have k1 :=cut_to (P :=Tryz.prog) 22 5 .i64 Tryz.underlying22 j5.1 A0 (bytesOf a3).length c0 a1 h2 (by omega) hc
    have k2 :=Kd.C_take hrw hm
    have hl : ((bytesOf a3).take a1.toNat).length = a1.toNat :=by rw [List.length_take];omega
    have hd : ((bytesOf a3).drop a1.toNat).length = (bytesOf a3).length - a1.toNat :=List.length_drop
    have m1 :=cut_from (P :=Tryz.prog) 22 5 .i64 Tryz.underlying22 j5.1 1 j5.2 A0 (bytesOf a3).length c0 a1 h2 (by omega)
    have m2 :=Kd.C_drop hr hm hc
    rw [show a1.toNat * (Kd.int .u8).sz = a1.toNat * 1 from rfl] at m2
    clear hd
    generalize (if c0 = a1.toNat then A0 else A0.map (·.add (a1.toNat * 1))) = A1 at m1 m2
    have kc :=slices_Clone_byte_byte.calls A0 c0 _ _ w k2 (by omega) (by unfold slices_Clone_byte_byte.f;rw [if_pos h3])
    rw [hl] at kc
    clear k2 hl h3
    go_enter Tryz.func25,Tryz.ntmps25
    go_wp2_with (go_at_call 41;refine kc.mono ?_;rintro e w1 ⟨v1,rfl,ho,hb1⟩;have hn :=blk_below hb hb1;have q1 : w1.cell? ⟨g,0,none⟩ = some (.slice A0 (bytesOf a3).length c0) :=(bkc hn 0).trans rfl;have fz :=bkz hn 0)
    go_ret
    have hd : ((bytesOf a3).drop a1.toNat).length = (bytesOf a3).length - a1.toNat :=List.length_drop
    have e :=bytesOf_strOfNums ((bytesOf a3).drop a1.toNat) (fun x hx => bytesOf_range _ x (List.mem_of_mem_drop hx))
    have hx : (w1.setCell ⟨g,0,none⟩ (.slice A1 ((bytesOf a3).length - a1.toNat) (c0 - a1.toNat))).heap[g]? = some (.cells #[.slice A1 ((bytesOf a3).length - a1.toNat) (c0 - a1.toNat),.bool a5] 51 (0,0)) :=by simpa using blk_set hn 0 (.slice A1 ((bytesOf a3).length - a1.toNat) (c0 - a1.toNat))
    exact ⟨_,rfl,Kd.R_mono (Kd.R_far (p :=⟨g,0,none⟩) (Kd.R_types ho hn (by decide)) (fun _ hk => hk.2) _) (fun _ h => h.1),⟨A1,c0 - a1.toNat,by rw [e,hd];exact hx,hg,by rw [e];exact m2,by rw [e,hd];omega⟩,bws (below_step hB hb1) hg,(KB.of_below hb1 g none).set_ 0 _⟩
   ·rw [if_neg h3] at h;cases h
  ·rw [if_neg h2] at h;cases h
def pr_num.l0 : Nat → Int → List Int → Int → Int → ByteArray → Bool → Option (Int × ByteArray × Bool)
 | 0,_,_,_,_,_,_ => none
 | k + 1,x4,x9,aD,ap,ag,af => if ap < aD then (if 0 ≤ ap then (if ap < (x9.length : Int) then (pr_num.l0 k (Go.bits .or .u64 (IntKind.u64.wrap (x4 * 256)) (IntKind.u64.wrap (rd x9 ap))) x9 aD (wrap64 (ap + 1)) ag af) else (none)) else (none)) else (some (x4,ag,af))
def pr_num.f (k : Nat) (a3 : ByteArray) (a5 : Bool) (a1 : Int) : Option (Int × ByteArray × Bool) :=(pr_bytes.f a3 a5 a1).bind fun a8 => (pr_num.l0 k 0 a8.1 (a8.1.length : Int) 0 a8.2.1 a8.2.2)
theorem pr_num.mono_l : ∀ k,(∀ y0 y1 y2 y3 y4 y5,LeO (pr_num.l0 k y0 y1 y2 y3 y4 y5) (pr_num.l0 (k + 1) y0 y1 y2 y3 y4 y5))
 | 0 => fun _ _ _ _ _ _ r h => by simp [pr_num.l0] at h
 | k + 1 => by
  have ih0 :=pr_num.mono_l k
  ·intro y0 y1 y2 y3 y4 y5
   unfold pr_num.l0
   repeat' first
   | (with_reducible exact ih0 _ _ _ _ _ _)
   | (with_reducible exact LeO.refl _)
   | (with_reducible exact LeO.none _)
   | (with_reducible refine LeO.ite ?_ ?_)
   | (with_reducible refine LeO.bind ?_ (fun _ => ?_))
   | exact ih0 _ _ _ _ _ _
   | exact LeO.none _
   | refine LeO.ite ?_ ?_
   | refine LeO.bind ?_ (fun _ => ?_)
theorem pr_num.mono : ∀ a0 a1 a2 k,LeO (pr_num.f k a0 a1 a2) (pr_num.f (k + 1) a0 a1 a2) :=by
 intro a0 a1 a2 k
 have ih0 :=pr_num.mono_l k
 unfold pr_num.f
 repeat' first
   | (with_reducible exact ih0 _ _ _ _ _ _)
   | (with_reducible exact LeO.refl _)
   | (with_reducible exact LeO.none _)
   | (with_reducible refine LeO.ite ?_ ?_)
   | (with_reducible refine LeO.bind ?_ (fun _ => ?_))
   | exact ih0 _ _ _ _ _ _
   | exact LeO.none _
   | refine LeO.ite ?_ ?_
   | refine LeO.bind ?_ (fun _ => ?_)
set_option maxHeartbeats 8000000 in
set_option maxRecDepth 100000 in
theorem pr_num.calls (k : Nat) (g : Nat) (a3 : ByteArray) (a5 : Bool) (a1 : Int) (r1 : Int) (r2 : ByteArray) (r3 : Bool) (w0 w : World) (hI : I5 w0 w g a3 a5) (hB : Below w0.heap.size w0 w) (h : pr_num.f k a3 a5 a1 = some (r1,r2,r3)) :
  Calls Tryz.prog 13 #[.pointer (some ⟨g,0,none⟩),.int .i64 a1] w fun e w' => e = .returned (.int .u64 r1) ∧ I5 w0 w' g r2 r3 ∧ Below w0.heap.size w0 w' ∧ KB w w' g none :=by
 have HI0 :=AZ.mk hI
 have HK :=AZ.mk (KB.refl w g none)
 have HL :=AZ.mk hB.size
 clear hI
 have HW0 :=AZ.mk hB.size
 have HB :=AZ.mk hB
 clear hB
 have H : ((pr_bytes.f a3 a5 a1).bind fun a8 => (pr_num.l0 k 0 a8.1 (a8.1.length : Int) 0 a8.2.1 a8.2.2)) = some (r1,r2,r3) :=h
 clear h
 replace H :=Option.bind_eq_some_iff.mp H
 obtain ⟨⟨a7,ae,ac⟩,az,H⟩ :=H
 replace H : (pr_num.l0 k 0 a7 (a7.length : Int) 0 ae ac) = some (r1,r2,r3) :=H
 have A3 :=AZ.mk az
 clear az
 have H' :=AZ.mk H
 clear H
 go_enter Tryz.func13,Tryz.ntmps13
 go_wp2_with (first | ((with_reducible refine gate_callee (f :=25) rfl ?_);refine goesL_ (some 9) rfl rfl Tryz.func25 (by kernel_rfl) rfl #[.pointer (some ⟨g,0,none⟩),.int .i64 a1] rfl (by (try simp only [List.map_toArray,List.map_cons,List.map_nil]);first | done | rfl | (simp only [List.length_drop,List.length_take];rfl)) ?_;(with_reducible refine (pr_bytes.calls g a3 a5 a1 a7 ae ac w0 _ ?side1 ?side2 A3.out).mono ?_);(case side1 => repeat (first | (with_reducible first | exact HI0.out | apply I5.alloc | apply I5.drewN | apply I5.drew | apply I5.set_0 | apply I5.set_1) | exact HI0.out));(case side2 => repeat (first | (with_reducible first | exact HB.out | apply bwa | apply pwN | apply bw1 | refine bws ?_ (I5.ge HI0.out)) | exact HB.out));rintro e w4 ⟨v102,rfl,aw,hi,hb,hk⟩;refine ⟨_,rfl,?_⟩;have aj :=AZ.mk (Kd.R_lower aw (keep_size (w :=w) (g :=g) (row :=none) (by repeat (first | (with_reducible first | exact HK.out | apply KB.set_ | apply kpN | apply keep_drew | apply keep_alloc) | exact HK.out))));have ai :=AZ.mk (KB.trans (by repeat (first | (with_reducible first | exact HK.out | apply KB.set_ | apply kpN | apply keep_drew | apply keep_alloc) | exact HK.out)) hk (.inl rfl));have ah :=AZ.mk (hb);have av :=AZ.mk (hi);clear HK;clear HB;clear HI0;have ak :=aj;have HK :=ai;have HB :=ah;have HI0 :=av;clear aj ai ah av;(try clear hb);(try clear hb2);(try clear hk);(try clear hi);(try clear aw);obtain ⟨Ao5,co5,eo5⟩ :=Kd.R_slice ak.out;subst eo5))
 go_loopg [4,11] k (fun kq v4 v11 w' => ∃ (aa : Int) (a4 : Int),v4 = .int .u64 aa ∧ v11 = .int .i64 a4 ∧ AZ (pr_num.l0 kq aa a7 (a7.length : Int) a4 ae ac = some (r1,r2,r3)) ∧ AZ (kq ≤ k) ∧ AZ (Kd.R (Kd.int .u8) 5 w' w.heap.size (fun _ => True) (.slice Ao5 a7.length co5) a7) ∧ AZ (I5 w0 w' g ae ac) ∧ AZ (KB w w' g none) ∧ AZ (Below w0.heap.size w0 w'))
 case atStart => exact ⟨(0),(0),(by first | rfl | (simp;done) | (simp [*];done)),(by first | rfl | (simp;done) | (simp [*];done)),H',⟨Nat.le_refl _⟩,⟨by (with_reducible repeat (first | apply Kd.R_alloc | apply Kd.R_drewN | apply Kd.R_drew));exact ak.out⟩,⟨by repeat (first | (with_reducible first | exact HI0.out | apply I5.alloc | apply I5.drewN | apply I5.drew | apply I5.set_0 | apply I5.set_1) | exact HI0.out)⟩,⟨by repeat (first | (with_reducible first | exact HK.out | apply KB.set_ | apply kpN | apply keep_drew | apply keep_alloc) | exact HK.out)⟩,⟨by repeat (first | (with_reducible first | exact HB.out | apply bwa | apply pwN | apply bw1 | refine bws ?_ (I5.ge HI0.out)) | exact HB.out)⟩⟩
 case round =>
  clear H'
  try clear c1
  try clear c2
  try clear p2
  obtain ⟨aa,a4,rfl,rfl,HA,HK1,ax,HI0,HK,HB⟩ :=hrel
  cases gk with
  | zero => exact absurd HA.out (by simp [pr_num.l0])
  | succ k1 =>
   have H :=HA.out
   clear HA
   simp only [pr_num.l0] at H
   by_cases c6 : a4 < (a7.length : Int)
   ·rw [if_pos c6] at H
    have aC : decide (a4 < (a7.length : Int)) = true :=decide_eq_true c6
    clear c6
    by_cases c7 : 0 ≤ a4
    ·rw [if_pos c7] at H
     have c7b0 : decide (0 ≤ a4) = true :=decide_eq_true c7
     clear c7
     by_cases c8 : a4 < (a7.length : Int)
     ·rw [if_pos c8] at H
      have c8b0 : decide (a4 < (a7.length : Int)) = true :=decide_eq_true c8
      clear c8
      have H' :=AZ.mk H
      clear H
      have ao : 0 ≤ (a4 : Int) :=of_decide_eq_true (by first | (with_reducible assumption) | assumption)
      have an : a4 < (a7.length : Int) :=of_decide_eq_true (by first | (with_reducible assumption) | assumption)
      obtain ⟨aE,aB,aA⟩ :=Kd.at_int (Kd.R_reads' ax.out).2.2 a4 ao an
      cases aB
      replace ao :=eq_true ao
      replace an :=eq_true an
      go_wp2
      go_roundg k1
      case measure => have :=HK1.out;omega
      case rel => exact ⟨(Go.bits .or .u64 (IntKind.u64.wrap (aa * 256)) (IntKind.u64.wrap (rd a7 a4))),(wrap64 (a4 + 1)),(by first | rfl | (simp;done) | (simp [*];done)),(by first | rfl | (simp;done) | (simp [*];done)),H',⟨by have :=HK1.out;omega⟩,⟨by (with_reducible repeat (first | apply Kd.R_alloc | apply Kd.R_drewN | apply Kd.R_drew));exact ax.out⟩,⟨by repeat (first | (with_reducible first | exact HI0.out | apply I5.alloc | apply I5.drewN | apply I5.drew | apply I5.set_0 | apply I5.set_1) | exact HI0.out)⟩,⟨by repeat (first | (with_reducible first | exact HK.out | apply KB.set_ | apply kpN | apply keep_drew | apply keep_alloc) | exact HK.out)⟩,⟨by repeat (first | (with_reducible first | exact HB.out | apply bwa | apply pwN | apply bw1 | refine bws ?_ (I5.ge HI0.out)) | exact HB.out)⟩⟩
     ·rw [if_neg c8] at H
      exact absurd H (by simp)
    ·rw [if_neg c7] at H
     exact absurd H (by simp)
   ·rw [if_neg c6] at H
    have aC : decide (a4 < (a7.length : Int)) = false :=decide_eq_false c6
    clear c6
    simp only [Option.some.injEq,Prod.mk.injEq] at H
    obtain ⟨rfl,rfl,rfl⟩ :=H
    go_wp2
    go_ret
    exact ⟨by first | rfl | (simp [errW_none,errW_some] <;> rfl) | (simp [*,errW_none,errW_some] <;> rfl),by repeat (first | (with_reducible first | exact HI0.out | apply I5.alloc | apply I5.drewN | apply I5.drew | apply I5.set_0 | apply I5.set_1) | exact HI0.out),by repeat (first | (with_reducible first | exact HB.out | apply bwa | apply pwN | apply bw1 | refine bws ?_ (I5.ge HI0.out)) | exact HB.out),by repeat (first | (with_reducible first | exact HK.out | apply KB.set_ | apply kpN | apply keep_drew | apply keep_alloc) | exact HK.out)⟩
def pr_text.f (k : Nat) (a3 : ByteArray) (a5 : Bool) : Option (List Int × ByteArray × Bool) :=(pr_num.f k a3 a5 1).bind fun a9 => ((pr_bytes.f a9.2.1 a9.2.2 (wrap64 (a9.1))).bind fun a6 => (some (a6.1,a6.2.1,a6.2.2)))
theorem pr_text.mono : ∀ a0 a1 k,LeO (pr_text.f k a0 a1) (pr_text.f (k + 1) a0 a1) :=by
 intro a0 a1 k
 unfold pr_text.f
 repeat' first
   | (with_reducible exact pr_num.mono _ _ _ _)
   | (with_reducible exact LeO.refl _)
   | (with_reducible exact LeO.none _)
   | (with_reducible refine LeO.ite ?_ ?_)
   | (with_reducible refine LeO.bind ?_ (fun _ => ?_))
   | exact pr_num.mono _ _ _ _
   | exact LeO.none _
   | refine LeO.ite ?_ ?_
   | refine LeO.bind ?_ (fun _ => ?_)
set_option maxHeartbeats 8000000 in
set_option maxRecDepth 100000 in
theorem pr_text.calls (k : Nat) (g : Nat) (a3 : ByteArray) (a5 : Bool) (r1 : List Int) (r2 : ByteArray) (r3 : Bool) (w0 w : World) (hI : I5 w0 w g a3 a5) (hB : Below w0.heap.size w0 w) (h : pr_text.f k a3 a5 = some (r1,r2,r3)) :
  Calls Tryz.prog 15 #[.pointer (some ⟨g,0,none⟩)] w fun e w' => ∃ v0_ : Value,e = .returned (v0_) ∧ Kd.R (Kd.int .u8) 5 w' w.heap.size (fun _ => True) v0_ r1 ∧ I5 w0 w' g r2 r3 ∧ Below w0.heap.size w0 w' ∧ KB w w' g none :=by
 have HI0 :=AZ.mk hI
 have HK :=AZ.mk (KB.refl w g none)
 have HL :=AZ.mk hB.size
 clear hI
 have HW0 :=AZ.mk hB.size
 have HB :=AZ.mk hB
 clear hB
 have H : ((pr_num.f k a3 a5 1).bind fun a9 => ((pr_bytes.f a9.2.1 a9.2.2 (wrap64 (a9.1))).bind fun a6 => (some (a6.1,a6.2.1,a6.2.2)))) = some (r1,r2,r3) :=h
 clear h
 replace H :=Option.bind_eq_some_iff.mp H
 obtain ⟨⟨ab,am,al⟩,aF,H⟩ :=H
 replace H : ((pr_bytes.f am al (wrap64 (ab))).bind fun a6 => (some (a6.1,a6.2.1,a6.2.2))) = some (r1,r2,r3) :=H
 have A2 :=AZ.mk aF
 clear aF
 replace H :=Option.bind_eq_some_iff.mp H
 obtain ⟨⟨au,ar,aq⟩,az,H⟩ :=H
 replace H : (some (au,ar,aq)) = some (r1,r2,r3) :=H
 have A3 :=AZ.mk az
 clear az
 simp only [Option.some.injEq,Prod.mk.injEq] at H
 obtain ⟨rfl,rfl,rfl⟩ :=H
 go_enter Tryz.func15,Tryz.ntmps15
 go_wp2_with (first | ((with_reducible refine gate_callee (f :=13) rfl ?_);refine goesL_ (some 5) rfl rfl Tryz.func13 (by kernel_rfl) rfl #[.pointer (some ⟨g,0,none⟩),.int .i64 1] rfl (by (try simp only [List.map_toArray,List.map_cons,List.map_nil]);first | done | rfl | (simp only [List.length_drop,List.length_take];rfl)) ?_;(with_reducible refine (pr_num.calls k g a3 a5 1 ab am al w0 _ ?side1 ?side2 A2.out).mono ?_);(case side1 => repeat (first | (with_reducible first | exact HI0.out | apply I5.alloc | apply I5.drewN | apply I5.drew | apply I5.set_0 | apply I5.set_1) | exact HI0.out));(case side2 => repeat (first | (with_reducible first | exact HB.out | apply bwa | apply pwN | apply bw1 | refine bws ?_ (I5.ge HI0.out)) | exact HB.out));rintro e w4 ⟨rfl,hi,hb,hk⟩;refine ⟨_,rfl,?_⟩;have aj :=AZ.mk (KB.trans (by repeat (first | (with_reducible first | exact HK.out | apply KB.set_ | apply kpN | apply keep_drew | apply keep_alloc) | exact HK.out)) hk (.inl rfl));have ai :=AZ.mk (hb);have ah :=AZ.mk (hi);clear HK;clear HB;clear HI0;have HK :=aj;have HB :=ai;have HI0 :=ah;clear aj ai ah;(try clear hb);(try clear hb2);(try clear hk);(try clear hi)) | ((with_reducible refine gate_callee (f :=25) rfl ?_);refine goesL_ (some 7) rfl rfl Tryz.func25 (by kernel_rfl) rfl #[.pointer (some ⟨g,0,none⟩),.int .i64 (wrap64 (ab))] rfl (by (try simp only [List.map_toArray,List.map_cons,List.map_nil]);first | done | rfl | (simp only [List.length_drop,List.length_take];rfl)) ?_;(with_reducible refine (pr_bytes.calls g am al (wrap64 (ab)) au ar aq w0 _ ?side1 ?side2 A3.out).mono ?_);(case side1 => repeat (first | (with_reducible first | exact HI0.out | apply I5.alloc | apply I5.drewN | apply I5.drew | apply I5.set_0 | apply I5.set_1) | exact HI0.out));(case side2 => repeat (first | (with_reducible first | exact HB.out | apply bwa | apply pwN | apply bw1 | refine bws ?_ (I5.ge HI0.out)) | exact HB.out));rintro e w5 ⟨v111,rfl,aw,hi,hb,hk⟩;refine ⟨_,rfl,?_⟩;have aj :=AZ.mk (Kd.R_lower aw (keep_size (w :=w) (g :=g) (row :=none) (by repeat (first | (with_reducible first | exact HK.out | apply KB.set_ | apply kpN | apply keep_drew | apply keep_alloc) | exact HK.out))));have ai :=AZ.mk (KB.trans (by repeat (first | (with_reducible first | exact HK.out | apply KB.set_ | apply kpN | apply keep_drew | apply keep_alloc) | exact HK.out)) hk (.inl rfl));have ah :=AZ.mk (hb);have av :=AZ.mk (hi);clear HK;clear HB;clear HI0;have ay :=aj;have HK :=ai;have HB :=ah;have HI0 :=av;clear aj ai ah av;(try clear hb);(try clear hb2);(try clear hk);(try clear hi);(try clear aw)))
 go_ret
 exact ⟨_,by first | rfl | (simp [errW_none,errW_some] <;> rfl) | (simp [*,errW_none,errW_some] <;> rfl),by (with_reducible repeat (first | apply Kd.R_alloc | apply Kd.R_drewN | apply Kd.R_drew));exact ay.out,by repeat (first | (with_reducible first | exact HI0.out | apply I5.alloc | apply I5.drewN | apply I5.drew | apply I5.set_0 | apply I5.set_1) | exact HI0.out),by repeat (first | (with_reducible first | exact HB.out | apply bwa | apply pwN | apply bw1 | refine bws ?_ (I5.ge HI0.out)) | exact HB.out),by repeat (first | (with_reducible first | exact HK.out | apply KB.set_ | apply kpN | apply keep_drew | apply keep_alloc) | exact HK.out)⟩
end Go.Proofs.YtlafgnanfkhobaaGreatDoor.P2
