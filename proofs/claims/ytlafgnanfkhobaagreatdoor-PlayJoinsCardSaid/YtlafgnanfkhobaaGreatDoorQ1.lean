-- Written for this claim by a program, out of the translation.
import Derived.Test.YtlafgnanfkhobaaGreatDoorQ0
namespace Go.Proofs.YtlafgnanfkhobaaGreatDoor.P2
open Go.RowKit Go.Proofs.YtlafgnanfkhobaaGreatDoorW.PrintWords Go.Proofs.YtlafgnanfkhobaaGreatDoorW.PrintLast Go.Proofs.YtlafgnanfkhobaaGreatDoorW.PrintMore
attribute [local go_sem] max2_int min2_int max_two min_two max_three min_three max_four min_four
set_option linter.unusedVariables false
set_option linter.unusedSimpArgs false
def pandectlaw27_begun.f : Option (Bool) :=some true
theorem pandectlaw27_begun.calls (r : Bool) (w : World) (h : pandectlaw27_begun.f = some r) : Calls Tryz.prog 5 #[] w fun e w' => e = .returned (.bool r) ∧ Below w.heap.size w w' :=by cases h;exact Go.Proofs.YtlafgnanfkhobaaGreatDoor.yes5 w
theorem slices_Clone_byte_byte.info : (Tryz.prog.info? 5).map (fun i => (i.zero,i.size,i.bytes)) = some (some (.int .u8 0),1,1) :=by kernel_rfl
theorem slices_Clone_byte_byte.eql_none (c : Nat) (w : World) : (binOp .eql 22 (.slice none 0 c) (.slice none 0 0)).run Tryz.prog w = .ok (.bool true) w :=by kernel_rfl
theorem slices_Clone_byte_byte.eql_some (a : Addr) (n c : Nat) (w : World) : (binOp .eql 22 (.slice (some a) n c) (.slice none 0 0)).run Tryz.prog w = .ok (.bool false) w :=by kernel_rfl
def slices_Clone_byte_byte.f (l0 : List Int) : Option (List Int) :=if l0.length ≤ 140737488355328 then some l0 else none
set_option maxHeartbeats 2000000 in
set_option maxRecDepth 100000 in
theorem slices_Clone_byte_byte.calls (A0 : Option Addr) (c0 : Nat) (l0 : List Int) (r : List Int) (w : World) (hr0 : Kd.C (Kd.int .u8) w A0 l0.length l0) (hc0 : l0.length ≤ c0) (h : slices_Clone_byte_byte.f l0 = some r) :
  Calls Tryz.prog 41 #[.slice A0 l0.length c0] w fun e w' => ∃ v0_ : Value,e = .returned (v0_) ∧ Kd.R (Kd.int .u8) 5 w' w.heap.size (fun _ => True) v0_ r ∧ Below w.heap.size w w' :=by
 unfold slices_Clone_byte_byte.f at h
 split at h
 case isFalse => cases h
 rename_i hlim
 cases h
 cases A0 with
 | none =>
  have hn : l0 = [] :=by
   cases l0 with
   | nil => rfl
   | cons x l => obtain ⟨ad,e,_⟩ :=hr0.2.2 (by simp);cases e
  subst hn
  have he :=fun w => slices_Clone_byte_byte.eql_none c0 w
  go_enter Tryz.func41,Tryz.ntmps41
  go_wp2
  go_ret
  exact ⟨_,rfl,Kd.R_nil _ _ _ _ _,Below.refl _ _⟩
 | some ad =>
  have he :=fun w => slices_Clone_byte_byte.eql_some ad l0.length c0 w
  go_enter Tryz.func41,Tryz.ntmps41
  go_wp2_with (first | ((with_reducible refine gate_dst (N :=5) rfl ?_);refine Kd.R_lit (Kd.int .u8) _ 5 ?hg (N :=5) ?hd (xs :=([] : List Int)) (inner :=[]) (ok :=fun _ => True) (okp :=fun _ => True) ?hr ?hp (fun _ hk => hk) trivial (Below.refl _ _) (Nat.le_refl _) (by simp) ?_;(case hd => rfl);(case hg => rfl);(case hr => first | (go_simp;done) | (go_simp;rfl));(case hp => exact Reps.none _ _);intro v1 w1 ho hb hg hnew) | ((with_reducible refine gate_builtin (b :=.append) (xs :=#[.tmp 5,.tmp 6]) rfl ?_);at_builtin;refine Kd.R_append_row (Value.int .u8) 0 (h1 :=fun _ => rfl) (w0 :=w) w.heap.size rfl (.tmp 5) (.tmp 6) 22 5 (.int .u8 0) 1 rfl Tryz.underlying22 slices_Clone_byte_byte.info rfl (by decide) _ [] l0 _ _ _ (fun _ => True) rfl rfl (fun _ _ => trivial) ho (Kd.C_below hr0 hb) hb hb.size (by simpa using hlim) ?_;intro v2 w2 ho2 hb2 hg2 hat2))
  go_ret
  exact ⟨_,rfl,ho2,hb2⟩
section
variable {P : Program} {ops : Array Oper} {rest : List Oper} {o : Oper} {a : Act} {Q : Exit → Act → World → Prop} {W : World}
theorem gate_clos {t : Tmp} {xs : Array Operand} {ts : Array TypeId} (_ho : o.op = .call { callee :=.value (.tmp t),args :=xs,argTypes :=ts }) (h : wpList P ops Q (o :: rest) a W) : wpList P ops Q (o :: rest) a W :=h
theorem goesC_ {oi : Oper} {N : Option Tmp} {a : Act} {w : World} {K : Act → World → Prop} {f : FuncId} {fn : Func} {t : Tmp} {bs : Array Value} {xs : Array Operand} {ts : Array TypeId} (hf : P.funcs[f]? = some fn) (hname : (fn.name == "runtime.NumGoroutine") = false) (hb : fn.body.isSome = true) (args : Array Value)
  (hw : Region.wanted oi (yielded ops a.tmps) = true) (hN : oi.dst = N) (hop : oi.op = .call { callee :=.value (.tmp t),args :=xs,argTypes :=ts }) (hv : a.eval (.tmp t) = .func (.func f) bs #[]) (hargs : bs ++ xs.map a.eval = args)
  (h : Calls P f args w fun e w' => ∃ v,e = .returned v ∧ K (a.put N v) w') : if Region.wanted oi (yielded ops a.tmps) = true then Oper.wp P oi a w K Q else K (a.put N undef) w :=by
 refine call_ f args hw hN ?_ h
 have he :=enters_ hf hname hb args w
 unfold execOp
 simp [hop,resolve,hv,Deferred.ofValue,invoke,hargs,he]
theorem goesLC_ {rest : List Oper} {oi : Oper} {a : Act} {w : World} (N : Option Tmp) (hd : oi.dst = N) (hg : oi.guard = none) {f : FuncId} {fn : Func} {t : Tmp} {bs : Array Value} {xs : Array Operand} {ts : Array TypeId} (hf : P.funcs[f]? = some fn) (hname : (fn.name == "runtime.NumGoroutine") = false) (hb : fn.body.isSome = true) (args : Array Value)
  (hop : oi.op = .call { callee :=.value (.tmp t),args :=xs,argTypes :=ts }) (hv : a.eval (.tmp t) = .func (.func f) bs #[]) (hargs : bs ++ xs.map a.eval = args)
  (h : Calls P f args w fun e w' => ∃ v,e = .returned v ∧ wpList P ops Q rest (a.put N v) w') : wpList P ops Q (oi :: rest) a w :=by
 refine wpList_plain hg fun K hK => ?_
 have he :=enters_ hf hname hb args w
 have hrun : (execOp a.eval oi).run P w = .ok (.enter f args) w :=by
  unfold execOp
  simp [hop,resolve,hv,Deferred.ofValue,invoke,hargs,he]
 unfold Oper.wp
 rw [hrun,Oper.upon_enter]
 refine h.mono fun e w'' hh => ?_
 obtain ⟨v,rfl,hk⟩ :=hh
 subst hd
 exact hK _ _ hk
end
theorem bytesOf_range (s : ByteArray) : ∀ x ∈ bytesOf s,0 ≤ x ∧ x ≤ 255 :=by
 intro x hx
 simp only [bytesOf,List.mem_map] at hx
 obtain ⟨b,_,rfl⟩ :=hx
 have :=b.toNat_lt
 omega
theorem bytesOf_strOfNums (xs : List Int) (h : ∀ x ∈ xs,0 ≤ x ∧ x ≤ 255) : bytesOf (strOfNums xs) = xs :=by
 simp only [bytesOf,strOfNums,List.map_map]
 conv => rhs;rw [← List.map_id xs]
 apply List.map_congr_left
 intro x hx
 obtain ⟨h1,h2⟩ :=h x hx
 simp only [Function.comp_def,UInt8.toNat_ofNat',id]
 omega
def mkreader.f (l0 : List Int) : Option (ByteArray × Bool) :=if ∀ x ∈ l0,0 ≤ x ∧ x ≤ 255 then some (strOfNums l0,false) else none
def I51 (w0 W : World) (g : Nat) (f0 : ByteArray) (f1 : Bool) : Prop :=∃ A0 c0,W.heap[g]? = some (.cells #[.slice A0 (bytesOf f0).length c0,.bool f1] 51 (0,0)) ∧ w0.heap.size ≤ g ∧ Kd.C (Kd.int .u8) w0 A0 (bytesOf f0).length (bytesOf f0) ∧ (bytesOf f0).length ≤ c0
theorem I51.grown {w0 W : World} {g : Nat} {f0 : ByteArray} {f1 : Bool} {W1 : World} {row : Option Nat} (h : I51 w0 W g f0 f1) (hw : W.grownBy W1 row) (hne : some g ≠ row) : I51 w0 W1 g f0 f1 :=by
 obtain ⟨A0,c0,hb,hg,hr⟩ :=h
 exact ⟨A0,c0,blk_grown hb hw hne,hg,hr⟩
theorem I51.grownF {w0 W0 W : World} {g : Nat} {f0 : ByteArray} {f1 : Bool} {W1 : World} {row : Option Nat} (_ : I51 w0 W0 g f0 f1) (h : I51 w0 W g f0 f1) (hw : W.grownBy W1 row) (hne : some g ≠ row) : I51 w0 W1 g f0 f1 :=h.grown hw hne
theorem I51.own_neN {w0 W : World} {g : Nat} {f0 : ByteArray} {f1 : Bool} {α : Type} {d : Kd α} {e : Nat} {base : Nat} {ok : Nat → Prop} {v : Value} {xs : List α} (h : I51 w0 W g f0 f1) (ho : Kd.N d e W base ok v xs) (ht : e ≠ 51) : some g ≠ v.ownBlock :=by
 obtain ⟨A0,c0,hb,hg,hr⟩ :=h
 exact Kd.N_ne ho hb ht
theorem I51.fresh {w0 W : World} {g : Nat} {f0 : ByteArray} {f1 : Bool} (h : I51 w0 W g f0 f1) : ∀ k,W.heap.size ≤ k → k ≠ g :=by
 obtain ⟨A0,c0,hb,hg,hr⟩ :=h
 exact Kd.freshB hb
theorem I51.kept {w0 W : World} {g : Nat} {f0 : ByteArray} {f1 : Bool} {W1 : World} {S : Nat → Prop} (h : I51 w0 W g f0 f1) (hk : Kept W W1 S) (hne : ¬ S g) : I51 w0 W1 g f0 f1 :=by
 obtain ⟨A0,c0,hb,hg,hr⟩ :=h
 exact ⟨A0,c0,blk_kept hb hk hne,hg,hr⟩
theorem I51.below {w0 W : World} {g : Nat} {f0 : ByteArray} {f1 : Bool} {W1 : World} (h : I51 w0 W g f0 f1) (hw : Below W.heap.size W W1) : I51 w0 W1 g f0 f1 :=h.grown (grown_of_below hw none) (by simp)
theorem I51.alloc {w0 W : World} {g : Nat} {f0 : ByteArray} {f1 : Bool} (h : I51 w0 W g f0 f1) (o : Obj) : I51 w0 (W.alloc o) g f0 f1 :=h.below (bwa (Below.refl _ _) o)
theorem I51.drewN {w0 W : World} {g : Nat} {f0 : ByteArray} {f1 : Bool} (h : I51 w0 W g f0 f1) (m : Nat) : I51 w0 (W.drewN m) g f0 f1 :=h
theorem I51.drew {w0 W : World} {g : Nat} {f0 : ByteArray} {f1 : Bool} (h : I51 w0 W g f0 f1) : I51 w0 W.drew g f0 f1 :=h
theorem I51.at_ {w0 W : World} {g : Nat} {f0 : ByteArray} {f1 : Bool} {w' : World} {m : Nat} (hq : W.drewN m = w') (h : I51 w0 W g f0 f1) : I51 w0 w' g f0 f1 :=by subst hq;exact I51.drewN h m
theorem I51.apart {w0 W : World} {g : Nat} {f0 : ByteArray} {f1 : Bool} {α : Type} {d : Kd α} {e : Nat} {base : Nat} {ok : Nat → Prop} {v : Value} {xs : List α} (h : I51 w0 W g f0 f1) (ho : d.R e W base ok v xs) (ht : ∀ q,q ∈ e :: d.E → q ≠ 51) : d.R e W base (fun k => ok k ∧ k ≠ g) v xs :=by
 obtain ⟨A0,c0,hb,hg,hr⟩ :=h
 exact Kd.R_types ho hb ht
theorem I51.own_ne {w0 W : World} {g : Nat} {f0 : ByteArray} {f1 : Bool} {α : Type} {d : Kd α} {e : Nat} {base : Nat} {ok : Nat → Prop} {v : Value} {xs : List α} (h : I51 w0 W g f0 f1) (ho : d.R e W base ok v xs) (ht : e ≠ 51) : some g ≠ v.ownBlock :=by
 obtain ⟨A0,c0,hb,hg,hr⟩ :=h
 exact Kd.R_ne ho hb ht
theorem I51.apartQ {w0 W : World} {g : Nat} {f0 : ByteArray} {f1 : Bool} {α : Type} {d : Kd α} {e : Nat} {base : Nat} {ok : Nat → Prop} {v : Value} {xs : List α} (h : I51 w0 W g f0 f1) (ho : d.Q e W base ok v xs) (ht : ∀ q,q ∈ e :: d.E → q ≠ 51) : d.Q e W base (fun k => ok k ∧ k ≠ g) v xs :=by
 obtain ⟨A0,c0,hb,hg,hr⟩ :=h
 exact Kd.Q_types ho hb ht
theorem I51.own_neQ {w0 W : World} {g : Nat} {f0 : ByteArray} {f1 : Bool} {α : Type} {d : Kd α} {e : Nat} {base : Nat} {ok : Nat → Prop} {v : Value} {xs : List α} (h : I51 w0 W g f0 f1) (ho : d.Q e W base ok v xs) (ht : e ≠ 51) : some g ≠ v.ownBlock :=by
 obtain ⟨A0,c0,hb,hg,hr⟩ :=h
 exact Kd.Q_ne ho hb ht
theorem I51.apartS {w0 W : World} {g : Nat} {f0 : ByteArray} {f1 : Bool} {α : Type} {d : Kd α} {e : Nat} {base : Nat} {ok : Nat → Prop} {v : Value} {xs : List α} (h : I51 w0 W g f0 f1) (ho : d.S e W base ok v xs) (ht : ∀ q,q ∈ e :: d.E → q ≠ 51) : d.S e W base (fun k => ok k ∧ k ≠ g) v xs :=by
 obtain ⟨A0,c0,hb,hg,hr⟩ :=h
 exact Kd.S_types ho hb ht
theorem I51.own_neS {w0 W : World} {g : Nat} {f0 : ByteArray} {f1 : Bool} {α : Type} {d : Kd α} {e : Nat} {base : Nat} {ok : Nat → Prop} {v : Value} {xs : List α} (h : I51 w0 W g f0 f1) (ho : d.S e W base ok v xs) (ht : e ≠ 51) : some g ≠ v.ownBlock :=by
 obtain ⟨A0,c0,hb,hg,hr⟩ :=h
 exact Kd.S_ne ho hb ht
theorem I51.lt {w0 W : World} {g : Nat} {f0 : ByteArray} {f1 : Bool} (h : I51 w0 W g f0 f1) : g < W.heap.size :=by
 obtain ⟨A0,c0,hb,hg,hr⟩ :=h
 exact blk_lt hb
theorem I51.ge {w0 W : World} {g : Nat} {f0 : ByteArray} {f1 : Bool} (h : I51 w0 W g f0 f1) : w0.heap.size ≤ g :=by
 obtain ⟨A0,c0,hb,hg,hr⟩ :=h
 exact hg
theorem I51.ne_blk {w0 W : World} {g : Nat} {f0 : ByteArray} {f1 : Bool} {a : Nat} {cs : Array Value} {t : TypeId} {fr : Nat × Nat} (h : I51 w0 W g f0 f1) (hb2 : W.heap[a]? = some (.cells cs t fr)) (ht : t ≠ 51) : g ≠ a :=by
 obtain ⟨A0,c0,hb,hg,hr⟩ :=h
 rintro rfl
 rw [hb] at hb2
 injection hb2 with hb2
 injection hb2 with _ ht2
 exact ht ht2.symm
theorem I51.far {w0 W : World} {g : Nat} {f0 : ByteArray} {f1 : Bool} {p : Addr} (h : I51 w0 W g f0 f1) (hne : g ≠ p.block) (u : Value) : I51 w0 (W.setCell p u) g f0 f1 :=by
 obtain ⟨A0,c0,hb,hg,hr⟩ :=h
 exact ⟨A0,c0,blk_far hb hne u,hg,hr⟩
theorem I51.box_ {w0 W : World} {g : Nat} {A0 : Option Addr} {c0 : Nat} {xs : List Int} {t0 : ByteArray} {t1 : Bool} (hb : W.heap[g]? = some (.cells #[.slice A0 xs.length c0,.bool false] 51 (0,0))) (hg : w0.heap.size ≤ g) (hr : Kd.C (Kd.int .u8) w0 A0 xs.length xs) (hc : xs.length ≤ c0)
  (h : mkreader.f xs = some (t0,t1)) : I51 w0 W g t0 t1 :=by
 unfold mkreader.f at h
 split at h
 ·rename_i hx
  cases h
  have e :=bytesOf_strOfNums xs hx
  exact ⟨A0,c0,by rw [e];exact hb,hg,by rw [e];exact hr,by rw [e];exact hc⟩
 ·cases h
theorem cellS51_0 {W : World} {g c0 : Nat} {A0 : Option Addr} {f0 : ByteArray} {f1 : Bool} (h : W.heap[g]? = some (.cells #[.slice A0 (bytesOf f0).length c0,.bool f1] 51 (0,0))) : W.cell? ⟨g,0,none⟩ = some (.slice A0 f0.size c0) :=by
 rw [← bytesOf_length]
 exact (bkc h 0).trans rfl
theorem cellS51_1 {W : World} {g c0 : Nat} {A0 : Option Addr} {f0 : ByteArray} {f1 : Bool} (h : W.heap[g]? = some (.cells #[.slice A0 (bytesOf f0).length c0,.bool f1] 51 (0,0))) : W.cell? ⟨g,1,none⟩ = some (.bool f1) :=(bkc h 1).trans rfl
def play_reader_bytes.f (s : ByteArray) (b : Bool) (n : Int) : Option (List Int × ByteArray × Bool) :=
 if ((bytesOf s).length : Int) < n then some ([],strOfNums [],true) else if 0 ≤ n then
  (if ((bytesOf s).take n.toNat).length ≤ 140737488355328 then some ((bytesOf s).take n.toNat,strOfNums ((bytesOf s).drop n.toNat),b) else none) else none
set_option maxHeartbeats 2000000 in
set_option maxRecDepth 100000 in
theorem play_reader_bytes.calls (g : Nat) (s0_0 : ByteArray) (s0_1 : Bool) (a1 : Int) (r1 : List Int) (r2 : ByteArray) (r3 : Bool) (w0 w : World) (hI : I51 w0 w g s0_0 s0_1) (hB : Below w0.heap.size w0 w) (h : play_reader_bytes.f s0_0 s0_1 a1 = some (r1,r2,r3)) :
  Calls Tryz.prog 25 #[.pointer (some ⟨g,0,none⟩),.int .i64 a1] w fun e w' => ∃ v0_ : Value,e = .returned (v0_) ∧ Kd.R (Kd.int .u8) 5 w' w.heap.size (fun _ => True) v0_ r1 ∧ I51 w0 w' g r2 r3 ∧ Below w0.heap.size w0 w' ∧ KeepBut w w' g none :=by
 have hI0 :=hI
 obtain ⟨A0,c0,hb,hg,hr,hc⟩ :=hI
 have hlt :=blk_lt hb
 unfold play_reader_bytes.f at h
 by_cases h1 : ((bytesOf s0_0).length : Int) < a1
 ·rw [if_pos h1] at h
  cases h
  have d1 : decide (((bytesOf s0_0).length : Int) < a1) = true :=decide_eq_true h1
  have q0 : w.cell? ⟨g,0,none⟩ = some (.slice A0 (bytesOf s0_0).length c0) :=(bkc hb 0).trans rfl
  have q1 :=(bkc hb 1).trans rfl
  have f0 :=bkz hb 0
  have f1 :=bkz hb 1
  have b1 : (w.setCell ⟨g,0,none⟩ (.slice none 0 0)).heap[g]? = some (.cells #[.slice none 0 0,.bool s0_1] 51 (0,0)) :=by simpa using blk_set hb 0 (.slice none 0 0)
  have f2 :=bkz b1 1
  have b2 : ((w.setCell ⟨g,0,none⟩ (.slice none 0 0)).setCell ⟨g,1,none⟩ (.bool true)).heap[g]? = some (.cells #[.slice none 0 0,.bool true] 51 (0,0)) :=by simpa using blk_set b1 1 (.bool true)
  go_enter Tryz.func25,Tryz.ntmps25
  go_wp2
  go_ret
  refine ⟨_,rfl,Kd.R_nil _ _ _ _ _,⟨none,0,?_,hg,?_,?_⟩,bws (bws hB hg) hg,?_⟩
  ·rw [bytesOf_strOfNums [] (by simp)];exact b2
  ·rw [bytesOf_strOfNums [] (by simp)];exact ⟨rfl,by simp,fun hp => by simp at hp⟩
  ·rw [bytesOf_strOfNums [] (by simp)];exact Nat.zero_le _
  ·exact ((KeepBut.refl w g none).set_ 0 _).set_ 1 _
 ·rw [if_neg h1] at h
  by_cases h2 : 0 ≤ a1
  ·rw [if_pos h2] at h
   by_cases h3 : ((bytesOf s0_0).take a1.toNat).length ≤ 140737488355328
   ·rw [if_pos h3] at h
    cases h
    have d1 : decide (((bytesOf s0_0).length : Int) < a1) = false :=decide_eq_false h1
    have q0 : w.cell? ⟨g,0,none⟩ = some (.slice A0 (bytesOf s0_0).length c0) :=(bkc hb 0).trans rfl
    obtain ⟨i5,j5⟩ : ∃ i,Tryz.prog.info? 5 = some i ∧ i.size = 1 :=by
     have h5 :=info5
     cases hx : Tryz.prog.info? 5 with
     | none => rw [hx] at h5;cases h5
     | some i => rw [hx] at h5;exact ⟨i,rfl,by simp at h5;exact h5.2.1⟩
    have hrw :=Kd.C_below hr hB
    have hm : a1.toNat ≤ (bytesOf s0_0).length :=by omega
    have k1 :=cut_to (P :=Tryz.prog) 22 5 .i64 Tryz.underlying22 j5.1 A0 (bytesOf s0_0).length c0 a1 h2 (by omega) hc
    have k2 :=Kd.C_take hrw hm
    have hl : ((bytesOf s0_0).take a1.toNat).length = a1.toNat :=by rw [List.length_take];omega
    have hd : ((bytesOf s0_0).drop a1.toNat).length = (bytesOf s0_0).length - a1.toNat :=List.length_drop
    have m1 :=cut_from (P :=Tryz.prog) 22 5 .i64 Tryz.underlying22 j5.1 1 j5.2 A0 (bytesOf s0_0).length c0 a1 h2 (by omega)
    have m2 :=Kd.C_drop hr hm hc
    rw [show a1.toNat * (Kd.int .u8).sz = a1.toNat * 1 from rfl] at m2
    clear hd
    generalize (if c0 = a1.toNat then A0 else A0.map (·.add (a1.toNat * 1))) = A1 at m1 m2
    have kc :=slices_Clone_byte_byte.calls A0 c0 _ _ w k2 (by omega) (by unfold slices_Clone_byte_byte.f;rw [if_pos h3])
    rw [hl] at kc
    clear k2 hl h3
    go_enter Tryz.func25,Tryz.ntmps25
    go_wp2_with (go_at_call 41;refine kc.mono ?_;rintro e w1 ⟨v1,rfl,ho,hb1⟩;have hn :=blk_below hb hb1;have q1 : w1.cell? ⟨g,0,none⟩ = some (.slice A0 (bytesOf s0_0).length c0) :=(bkc hn 0).trans rfl;have fz :=bkz hn 0)
    go_ret
    have hd : ((bytesOf s0_0).drop a1.toNat).length = (bytesOf s0_0).length - a1.toNat :=List.length_drop
    have e :=bytesOf_strOfNums ((bytesOf s0_0).drop a1.toNat) (fun x hx => bytesOf_range _ x (List.mem_of_mem_drop hx))
    have hx : (w1.setCell ⟨g,0,none⟩ (.slice A1 ((bytesOf s0_0).length - a1.toNat) (c0 - a1.toNat))).heap[g]? = some (.cells #[.slice A1 ((bytesOf s0_0).length - a1.toNat) (c0 - a1.toNat),.bool s0_1] 51 (0,0)) :=by simpa using blk_set hn 0 (.slice A1 ((bytesOf s0_0).length - a1.toNat) (c0 - a1.toNat))
    exact ⟨_,rfl,Kd.R_mono (Kd.R_far (p :=⟨g,0,none⟩) (Kd.R_types ho hn (by decide)) (fun _ hk => hk.2) _) (fun _ h => h.1),⟨A1,c0 - a1.toNat,by rw [e,hd];exact hx,hg,by rw [e];exact m2,by rw [e,hd];omega⟩,bws (below_step hB hb1) hg,(KeepBut.of_below hb1 g none).set_ 0 _⟩
   ·rw [if_neg h3] at h;cases h
  ·rw [if_neg h2] at h;cases h
def play_reader_num.l0 : Nat → Int → List Int → Int → Int → ByteArray → Bool → Option (Int × ByteArray × Bool)
 | 0,_,_,_,_,_,_ => none
 | k + 1,x4,x9,x10,x11,x1000,x1001 => if x11 < x10 then (if 0 ≤ x11 then (if x11 < (x9.length : Int) then (play_reader_num.l0 k (Go.bits .or .u64 (IntKind.u64.wrap (x4 * 256)) (IntKind.u64.wrap (rd x9 x11))) x9 x10 (wrap64 (x11 + 1)) x1000 x1001) else (none)) else (none)) else (some (x4,x1000,x1001))
def play_reader_num.f (k : Nat) (s0_0 : ByteArray) (s0_1 : Bool) (a1 : Int) : Option (Int × ByteArray × Bool) :=(play_reader_bytes.f s0_0 s0_1 a1).bind fun bt101 => (play_reader_num.l0 k 0 bt101.1 (bt101.1.length : Int) 0 bt101.2.1 bt101.2.2)
theorem play_reader_num.mono_l : ∀ k,(∀ y0 y1 y2 y3 y4 y5,LeO (play_reader_num.l0 k y0 y1 y2 y3 y4 y5) (play_reader_num.l0 (k + 1) y0 y1 y2 y3 y4 y5))
 | 0 => fun _ _ _ _ _ _ r h => by simp [play_reader_num.l0] at h
 | k + 1 => by
  have ih0 :=play_reader_num.mono_l k
  ·intro y0 y1 y2 y3 y4 y5
   unfold play_reader_num.l0
   repeat' first
   | (with_reducible exact ih0 _ _ _ _ _ _)
   | (with_reducible exact LeO.refl _)
   | (with_reducible exact LeO.none _)
   | (with_reducible refine LeO.ite ?_ ?_)
   | (with_reducible refine LeO.bind ?_ (fun _ => ?_))
   | exact ih0 _ _ _ _ _ _
   | exact LeO.none _
   | refine LeO.ite ?_ ?_
   | refine LeO.bind ?_ (fun _ => ?_)
theorem play_reader_num.mono : ∀ a0 a1 a2 k,LeO (play_reader_num.f k a0 a1 a2) (play_reader_num.f (k + 1) a0 a1 a2) :=by
 intro a0 a1 a2 k
 have ih0 :=play_reader_num.mono_l k
 unfold play_reader_num.f
 repeat' first
   | (with_reducible exact ih0 _ _ _ _ _ _)
   | (with_reducible exact LeO.refl _)
   | (with_reducible exact LeO.none _)
   | (with_reducible refine LeO.ite ?_ ?_)
   | (with_reducible refine LeO.bind ?_ (fun _ => ?_))
   | exact ih0 _ _ _ _ _ _
   | exact LeO.none _
   | refine LeO.ite ?_ ?_
   | refine LeO.bind ?_ (fun _ => ?_)
set_option maxHeartbeats 8000000 in
set_option maxRecDepth 100000 in
theorem play_reader_num.calls (k : Nat) (g : Nat) (s0_0 : ByteArray) (s0_1 : Bool) (a1 : Int) (r1 : Int) (r2 : ByteArray) (r3 : Bool) (w0 w : World) (hI : I51 w0 w g s0_0 s0_1) (hB : Below w0.heap.size w0 w) (h : play_reader_num.f k s0_0 s0_1 a1 = some (r1,r2,r3)) :
  Calls Tryz.prog 13 #[.pointer (some ⟨g,0,none⟩),.int .i64 a1] w fun e w' => e = .returned (.int .u64 r1) ∧ I51 w0 w' g r2 r3 ∧ Below w0.heap.size w0 w' ∧ KeepBut w w' g none :=by
 have HI0 :=AZ0.mk hI
 have HK :=AZ0.mk (KeepBut.refl w g none)
 have HL :=AZ0.mk hB.size
 clear hI
 have HW0 :=AZ0.mk hB.size
 have HB :=AZ0.mk hB
 clear hB
 have H : ((play_reader_bytes.f s0_0 s0_1 a1).bind fun bt101 => (play_reader_num.l0 k 0 bt101.1 (bt101.1.length : Int) 0 bt101.2.1 bt101.2.2)) = some (r1,r2,r3) :=h
 clear h
 replace H :=Option.bind_eq_some_iff.mp H
 obtain ⟨⟨t101,t104,t105⟩,A30,H⟩ :=H
 replace H : (play_reader_num.l0 k 0 t101 (t101.length : Int) 0 t104 t105) = some (r1,r2,r3) :=H
 have A3 :=AZ0.mk A30
 clear A30
 have H' :=AZ0.mk H
 clear H
 go_enter Tryz.func13,Tryz.ntmps13
 go_wp2_with (first | ((with_reducible refine gate_callee (f :=25) rfl ?_);refine goesL_ (some 9) rfl rfl Tryz.func25 (by kernel_rfl) rfl #[.pointer (some ⟨g,0,none⟩),.int .i64 a1] rfl (by (try simp only [List.map_toArray,List.map_cons,List.map_nil]);first | done | rfl | (simp only [List.length_drop,List.length_take];rfl)) ?_;(with_reducible refine (play_reader_bytes.calls g s0_0 s0_1 a1 t101 t104 t105 w0 _ ?side1 ?side2 A3.out).mono ?_);(case side1 => repeat (first | (with_reducible first | exact HI0.out | apply I51.alloc | apply I51.drewN | apply I51.drew | apply I51.set_0 | apply I51.set_1) | exact HI0.out));(case side2 => repeat (first | (with_reducible first | exact HB.out | apply bwa | apply pwN | apply bw1 | refine bws ?_ (I51.ge HI0.out)) | exact HB.out));rintro e w4 ⟨v102,rfl,ho0,hi,hb,hk⟩;refine ⟨_,rfl,?_⟩;have n0_ :=AZ0.mk (Kd.R_lower ho0 (keep_size (w :=w) (g :=g) (row :=none) (by repeat (first | (with_reducible first | exact HK.out | apply KeepBut.set_ | apply kpN | apply keep_drew | apply keep_alloc) | exact HK.out))));have n1_ :=AZ0.mk (KeepBut.trans (by repeat (first | (with_reducible first | exact HK.out | apply KeepBut.set_ | apply kpN | apply keep_drew | apply keep_alloc) | exact HK.out)) hk (.inl rfl));have n2_ :=AZ0.mk (hb);have n3_ :=AZ0.mk (hi);clear HK;clear HB;clear HI0;have HO103 :=n0_;have HK :=n1_;have HB :=n2_;have HI0 :=n3_;clear n0_ n1_ n2_ n3_;(try clear hb);(try clear hb2);(try clear hk);(try clear hi);(try clear ho0);obtain ⟨Ao5,co5,eo5⟩ :=Kd.R_slice HO103.out;subst eo5))
 go_loopg [4,11] k (fun kq v4 v11 w' => ∃ (x4_1 : Int) (x11_1 : Int),v4 = .int .u64 x4_1 ∧ v11 = .int .i64 x11_1 ∧ AZ0 (play_reader_num.l0 kq x4_1 t101 (t101.length : Int) x11_1 t104 t105 = some (r1,r2,r3)) ∧ AZ0 (kq ≤ k) ∧ AZ0 (Kd.R (Kd.int .u8) 5 w' w.heap.size (fun _ => True) (.slice Ao5 t101.length co5) t101) ∧ AZ0 (I51 w0 w' g t104 t105) ∧ AZ0 (KeepBut w w' g none) ∧ AZ0 (Below w0.heap.size w0 w'))
 case atStart => exact ⟨(0),(0),(by first | rfl | (simp;done) | (simp [*];done)),(by first | rfl | (simp;done) | (simp [*];done)),H',⟨Nat.le_refl _⟩,⟨by (with_reducible repeat (first | apply Kd.R_alloc | apply Kd.R_drewN | apply Kd.R_drew));exact HO103.out⟩,⟨by repeat (first | (with_reducible first | exact HI0.out | apply I51.alloc | apply I51.drewN | apply I51.drew | apply I51.set_0 | apply I51.set_1) | exact HI0.out)⟩,⟨by repeat (first | (with_reducible first | exact HK.out | apply KeepBut.set_ | apply kpN | apply keep_drew | apply keep_alloc) | exact HK.out)⟩,⟨by repeat (first | (with_reducible first | exact HB.out | apply bwa | apply pwN | apply bw1 | refine bws ?_ (I51.ge HI0.out)) | exact HB.out)⟩⟩
 case round =>
  clear H'
  try clear c1
  try clear c2
  try clear p2
  obtain ⟨x4_1,x11_1,rfl,rfl,HA,HK1,HO_9,HI0,HK,HB⟩ :=hrel
  cases gk with
  | zero => exact absurd HA.out (by simp [play_reader_num.l0])
  | succ k1 =>
   have H :=HA.out
   clear HA
   simp only [play_reader_num.l0] at H
   by_cases c6 : x11_1 < (t101.length : Int)
   ·rw [if_pos c6] at H
    have c6b0 : decide (x11_1 < (t101.length : Int)) = true :=decide_eq_true c6
    clear c6
    by_cases c7 : 0 ≤ x11_1
    ·rw [if_pos c7] at H
     have c7b0 : decide (0 ≤ x11_1) = true :=decide_eq_true c7
     clear c7
     by_cases c8 : x11_1 < (t101.length : Int)
     ·rw [if_pos c8] at H
      have c8b0 : decide (x11_1 < (t101.length : Int)) = true :=decide_eq_true c8
      clear c8
      have H' :=AZ0.mk H
      clear H
      have p106 : 0 ≤ (x11_1 : Int) :=of_decide_eq_true (by first | (with_reducible assumption) | assumption)
      have q106 : x11_1 < (t101.length : Int) :=of_decide_eq_true (by first | (with_reducible assumption) | assumption)
      obtain ⟨ad106,e106,hx106_0⟩ :=Kd.at_int (Kd.R_reads' HO_9.out).2.2 x11_1 p106 q106
      cases e106
      replace p106 :=eq_true p106
      replace q106 :=eq_true q106
      go_wp2
      go_roundg k1
      case measure => have :=HK1.out;omega
      case rel => exact ⟨(Go.bits .or .u64 (IntKind.u64.wrap (x4_1 * 256)) (IntKind.u64.wrap (rd t101 x11_1))),(wrap64 (x11_1 + 1)),(by first | rfl | (simp;done) | (simp [*];done)),(by first | rfl | (simp;done) | (simp [*];done)),H',⟨by have :=HK1.out;omega⟩,⟨by (with_reducible repeat (first | apply Kd.R_alloc | apply Kd.R_drewN | apply Kd.R_drew));exact HO_9.out⟩,⟨by repeat (first | (with_reducible first | exact HI0.out | apply I51.alloc | apply I51.drewN | apply I51.drew | apply I51.set_0 | apply I51.set_1) | exact HI0.out)⟩,⟨by repeat (first | (with_reducible first | exact HK.out | apply KeepBut.set_ | apply kpN | apply keep_drew | apply keep_alloc) | exact HK.out)⟩,⟨by repeat (first | (with_reducible first | exact HB.out | apply bwa | apply pwN | apply bw1 | refine bws ?_ (I51.ge HI0.out)) | exact HB.out)⟩⟩
     ·rw [if_neg c8] at H
      exact absurd H (by simp)
    ·rw [if_neg c7] at H
     exact absurd H (by simp)
   ·rw [if_neg c6] at H
    have c6b0 : decide (x11_1 < (t101.length : Int)) = false :=decide_eq_false c6
    clear c6
    simp only [Option.some.injEq,Prod.mk.injEq] at H
    obtain ⟨rfl,rfl,rfl⟩ :=H
    go_wp2
    go_ret
    exact ⟨by first | rfl | (simp [errW_none,errW_some] <;> rfl) | (simp [*,errW_none,errW_some] <;> rfl),by repeat (first | (with_reducible first | exact HI0.out | apply I51.alloc | apply I51.drewN | apply I51.drew | apply I51.set_0 | apply I51.set_1) | exact HI0.out),by repeat (first | (with_reducible first | exact HB.out | apply bwa | apply pwN | apply bw1 | refine bws ?_ (I51.ge HI0.out)) | exact HB.out),by repeat (first | (with_reducible first | exact HK.out | apply KeepBut.set_ | apply kpN | apply keep_drew | apply keep_alloc) | exact HK.out)⟩
def play_reader_text.f (k : Nat) (s0_0 : ByteArray) (s0_1 : Bool) : Option (List Int × ByteArray × Bool) :=(play_reader_num.f k s0_0 s0_1 1).bind fun bt107 => ((play_reader_bytes.f bt107.2.1 bt107.2.2 (wrap64 (bt107.1))).bind fun bt110 => (some (bt110.1,bt110.2.1,bt110.2.2)))
theorem play_reader_text.mono : ∀ a0 a1 k,LeO (play_reader_text.f k a0 a1) (play_reader_text.f (k + 1) a0 a1) :=by
 intro a0 a1 k
 unfold play_reader_text.f
 repeat' first
   | (with_reducible exact play_reader_num.mono _ _ _ _)
   | (with_reducible exact LeO.refl _)
   | (with_reducible exact LeO.none _)
   | (with_reducible refine LeO.ite ?_ ?_)
   | (with_reducible refine LeO.bind ?_ (fun _ => ?_))
   | exact play_reader_num.mono _ _ _ _
   | exact LeO.none _
   | refine LeO.ite ?_ ?_
   | refine LeO.bind ?_ (fun _ => ?_)
set_option maxHeartbeats 8000000 in
set_option maxRecDepth 100000 in
theorem play_reader_text.calls (k : Nat) (g : Nat) (s0_0 : ByteArray) (s0_1 : Bool) (r1 : List Int) (r2 : ByteArray) (r3 : Bool) (w0 w : World) (hI : I51 w0 w g s0_0 s0_1) (hB : Below w0.heap.size w0 w) (h : play_reader_text.f k s0_0 s0_1 = some (r1,r2,r3)) :
  Calls Tryz.prog 15 #[.pointer (some ⟨g,0,none⟩)] w fun e w' => ∃ v0_ : Value,e = .returned (v0_) ∧ Kd.R (Kd.int .u8) 5 w' w.heap.size (fun _ => True) v0_ r1 ∧ I51 w0 w' g r2 r3 ∧ Below w0.heap.size w0 w' ∧ KeepBut w w' g none :=by
 have HI0 :=AZ0.mk hI
 have HK :=AZ0.mk (KeepBut.refl w g none)
 have HL :=AZ0.mk hB.size
 clear hI
 have HW0 :=AZ0.mk hB.size
 have HB :=AZ0.mk hB
 clear hB
 have H : ((play_reader_num.f k s0_0 s0_1 1).bind fun bt107 => ((play_reader_bytes.f bt107.2.1 bt107.2.2 (wrap64 (bt107.1))).bind fun bt110 => (some (bt110.1,bt110.2.1,bt110.2.2)))) = some (r1,r2,r3) :=h
 clear h
 replace H :=Option.bind_eq_some_iff.mp H
 obtain ⟨⟨t107,t108,t109⟩,A20,H⟩ :=H
 replace H : ((play_reader_bytes.f t108 t109 (wrap64 (t107))).bind fun bt110 => (some (bt110.1,bt110.2.1,bt110.2.2))) = some (r1,r2,r3) :=H
 have A2 :=AZ0.mk A20
 clear A20
 replace H :=Option.bind_eq_some_iff.mp H
 obtain ⟨⟨t110,t113,t114⟩,A30,H⟩ :=H
 replace H : (some (t110,t113,t114)) = some (r1,r2,r3) :=H
 have A3 :=AZ0.mk A30
 clear A30
 simp only [Option.some.injEq,Prod.mk.injEq] at H
 obtain ⟨rfl,rfl,rfl⟩ :=H
 go_enter Tryz.func15,Tryz.ntmps15
 go_wp2_with (first | ((with_reducible refine gate_callee (f :=13) rfl ?_);refine goesL_ (some 5) rfl rfl Tryz.func13 (by kernel_rfl) rfl #[.pointer (some ⟨g,0,none⟩),.int .i64 1] rfl (by (try simp only [List.map_toArray,List.map_cons,List.map_nil]);first | done | rfl | (simp only [List.length_drop,List.length_take];rfl)) ?_;(with_reducible refine (play_reader_num.calls k g s0_0 s0_1 1 t107 t108 t109 w0 _ ?side1 ?side2 A2.out).mono ?_);(case side1 => repeat (first | (with_reducible first | exact HI0.out | apply I51.alloc | apply I51.drewN | apply I51.drew | apply I51.set_0 | apply I51.set_1) | exact HI0.out));(case side2 => repeat (first | (with_reducible first | exact HB.out | apply bwa | apply pwN | apply bw1 | refine bws ?_ (I51.ge HI0.out)) | exact HB.out));rintro e w4 ⟨rfl,hi,hb,hk⟩;refine ⟨_,rfl,?_⟩;have n0_ :=AZ0.mk (KeepBut.trans (by repeat (first | (with_reducible first | exact HK.out | apply KeepBut.set_ | apply kpN | apply keep_drew | apply keep_alloc) | exact HK.out)) hk (.inl rfl));have n1_ :=AZ0.mk (hb);have n2_ :=AZ0.mk (hi);clear HK;clear HB;clear HI0;have HK :=n0_;have HB :=n1_;have HI0 :=n2_;clear n0_ n1_ n2_;(try clear hb);(try clear hb2);(try clear hk);(try clear hi)) | ((with_reducible refine gate_callee (f :=25) rfl ?_);refine goesL_ (some 7) rfl rfl Tryz.func25 (by kernel_rfl) rfl #[.pointer (some ⟨g,0,none⟩),.int .i64 (wrap64 (t107))] rfl (by (try simp only [List.map_toArray,List.map_cons,List.map_nil]);first | done | rfl | (simp only [List.length_drop,List.length_take];rfl)) ?_;(with_reducible refine (play_reader_bytes.calls g t108 t109 (wrap64 (t107)) t110 t113 t114 w0 _ ?side1 ?side2 A3.out).mono ?_);(case side1 => repeat (first | (with_reducible first | exact HI0.out | apply I51.alloc | apply I51.drewN | apply I51.drew | apply I51.set_0 | apply I51.set_1) | exact HI0.out));(case side2 => repeat (first | (with_reducible first | exact HB.out | apply bwa | apply pwN | apply bw1 | refine bws ?_ (I51.ge HI0.out)) | exact HB.out));rintro e w5 ⟨v111,rfl,ho0,hi,hb,hk⟩;refine ⟨_,rfl,?_⟩;have n0_ :=AZ0.mk (Kd.R_lower ho0 (keep_size (w :=w) (g :=g) (row :=none) (by repeat (first | (with_reducible first | exact HK.out | apply KeepBut.set_ | apply kpN | apply keep_drew | apply keep_alloc) | exact HK.out))));have n1_ :=AZ0.mk (KeepBut.trans (by repeat (first | (with_reducible first | exact HK.out | apply KeepBut.set_ | apply kpN | apply keep_drew | apply keep_alloc) | exact HK.out)) hk (.inl rfl));have n2_ :=AZ0.mk (hb);have n3_ :=AZ0.mk (hi);clear HK;clear HB;clear HI0;have HO112 :=n0_;have HK :=n1_;have HB :=n2_;have HI0 :=n3_;clear n0_ n1_ n2_ n3_;(try clear hb);(try clear hb2);(try clear hk);(try clear hi);(try clear ho0)))
 go_ret
 exact ⟨_,by first | rfl | (simp [errW_none,errW_some] <;> rfl) | (simp [*,errW_none,errW_some] <;> rfl),by (with_reducible repeat (first | apply Kd.R_alloc | apply Kd.R_drewN | apply Kd.R_drew));exact HO112.out,by repeat (first | (with_reducible first | exact HI0.out | apply I51.alloc | apply I51.drewN | apply I51.drew | apply I51.set_0 | apply I51.set_1) | exact HI0.out),by repeat (first | (with_reducible first | exact HB.out | apply bwa | apply pwN | apply bw1 | refine bws ?_ (I51.ge HI0.out)) | exact HB.out),by repeat (first | (with_reducible first | exact HK.out | apply KeepBut.set_ | apply kpN | apply keep_drew | apply keep_alloc) | exact HK.out)⟩
end Go.Proofs.YtlafgnanfkhobaaGreatDoor.P2
