/- Texts of this claim, joined. -/
import Derived.Test.YtlafgnanfkhobaaGreatDoorQP
import Derived.LoopTactic
import Derived.LoopN
set_option linter.all false
namespace Go.Proofs.YtlafgnanfkhobaaGreatDoor.P2
open Go.RowKit Go.Proofs.YtlafgnanfkhobaaGreatDoorW.PrintWords Go.Proofs.YtlafgnanfkhobaaGreatDoorW.PrintLast Go.Proofs.YtlafgnanfkhobaaGreatDoorW.PrintMore
attribute [local go_sem] max2_int min2_int max_two min_two max_three min_three max_four min_four
def Pk (w0 W : World) (g : Nat) : Prop :=∃ xs n,I6 w0 W g xs n ∧ (∀ x ∈ xs,0 ≤ x ∧ x ≤ 255) ∧ xs.length ≤ 150 ∧ 0 ≤ n ∧ n ≤ (xs.length : Int)
def PkTo (w0 w w' : World) (g : Nat) : Prop :=Pk w0 w' g ∧ Below w0.heap.size w0 w' ∧ KB w w' g none
theorem rd_byte {xs : List Int} (hx : ∀ x ∈ xs,0 ≤ x ∧ x ≤ 255) (i : Int) : 0 ≤ rd xs i ∧ rd xs i ≤ 255 :=by
 unfold rd
 rw [List.getD_eq_getElem?_getD]
 cases h : xs[i.toNat]? with
 | none => simp
 | some v => exact hx v (List.mem_of_getElem? h)
theorem num_ex {xs : List Int} {n m : Int} (hx : ∀ x ∈ xs,0 ≤ x ∧ x ≤ 255) (hl : xs.length ≤ 150) (h0 : 0 ≤ n) (h1 : n ≤ (xs.length : Int)) (hm : 0 < m) :
  ∃ r n',pp_Num.f xs n m = some (r,n') ∧ 0 ≤ r ∧ r < m ∧ 0 ≤ n' ∧ n' ≤ (xs.length : Int) :=by
 unfold pp_Num.f
 by_cases hc : n ≥ (xs.length : Int)
 ·exact ⟨0,n,by rw [if_pos hc],Int.le_refl _,hm,h0,h1⟩
 ·have e1 : wrap64 (n + 1) = n + 1 :=by unfold wrap64;omega
  have e2 : wrap64 (n + 1 - 1) = n :=by unfold wrap64;omega
  obtain ⟨b0,b1⟩ :=rd_byte hx n
  have e3 : wrap64 (rd xs n) = rd xs n :=by unfold wrap64;omega
  rw [if_neg hc,e1,e2,if_pos h0,if_pos (by omega),if_neg (by omega),e3]
  exact ⟨_,_,rfl,Int.tmod_nonneg _ b0,Int.tmod_lt_of_pos _ hm,by omega,by omega⟩
section
variable {w0 w : World} {g : Nat} (hI : Pk w0 w g) (hB : Below w0.heap.size w0 w)
include hI hB
theorem pk_num (m : Int) (hm : 0 < m) : Calls Tryz.prog 31 #[.pointer (some ⟨g,0,none⟩),.int .i64 m] w fun e w' => ∃ r : Int,e = .returned (.int .i64 r) ∧ 0 ≤ r ∧ r < m ∧ PkTo w0 w w' g :=by
 obtain ⟨xs,n,hS,hx,hl,h0,h1⟩ :=hI
 obtain ⟨r,n',hf,r0,r1,n0,n1⟩ :=num_ex hx hl h0 h1 hm
 refine (pp_Num.calls g xs n m r n' w0 w hS hB hf).mono ?_
 rintro e w' ⟨rfl,hS',hB',hK⟩
 exact ⟨r,rfl,r0,r1,⟨xs,n',hS',hx,hl,n0,n1⟩,hB',hK⟩
theorem pk_over : Calls Tryz.prog 20 #[.pointer (some ⟨g,0,none⟩)] w fun e w' => ∃ b : Bool,e = .returned (.bool b) ∧ PkTo w0 w w' g :=by
 obtain ⟨xs,n,hS,hx,hl,h0,h1⟩ :=hI
 refine (pp_Over.calls g xs n _ _ w0 w hS hB rfl).mono ?_
 rintro e w' ⟨rfl,hS',hB',hK⟩
 exact ⟨_,rfl,⟨xs,n,hS',hx,hl,h0,h1⟩,hB',hK⟩
theorem pk_name : Calls Tryz.prog 29 #[.pointer (some ⟨g,0,none⟩)] w fun e w' => ∃ s : ByteArray,e = .returned (.string s) ∧ s.size ≤ 16 ∧ PkTo w0 w w' g :=by
 obtain ⟨xs,n,hS,hx,hl,h0,h1⟩ :=hI
 obtain ⟨r,n',hf,r0,r1,n0,n1⟩ :=num_ex hx hl h0 h1 (m :=6) (by decide)
 refine (pp_Name.calls g xs n _ n' w0 w hS hB (by unfold pp_Name.f;rw [Option.bind_some,hf,Option.bind_some,if_pos r0,if_pos (by simpa using r1)])).mono ?_
 rintro e w' ⟨rfl,hS',hB',hK⟩
 refine ⟨_,rfl,?_,⟨xs,n',hS',hx,hl,n0,n1⟩,hB',hK⟩
 obtain rfl | rfl | rfl | rfl | rfl | rfl : r = 0 ∨ r = 1 ∨ r = 2 ∨ r = 3 ∨ r = 4 ∨ r = 5 :=by omega
 all_goals (dsimp only;decide)
theorem pk_kind : Calls Tryz.prog 34 #[.pointer (some ⟨g,0,none⟩)] w fun e w' => ∃ s : ByteArray,e = .returned (.string s) ∧ s.size ≤ 16 ∧ PkTo w0 w w' g :=by
 obtain ⟨xs,n,hS,hx,hl,h0,h1⟩ :=hI
 obtain ⟨r,n',hf,r0,r1,n0,n1⟩ :=num_ex hx hl h0 h1 (m :=3) (by decide)
 refine (pp_Kind.calls g xs n _ n' w0 w hS hB (by unfold pp_Kind.f;rw [Option.bind_some,hf,Option.bind_some,if_pos r0,if_pos (by simpa using r1)])).mono ?_
 rintro e w' ⟨rfl,hS',hB',hK⟩
 refine ⟨_,rfl,?_,⟨xs,n',hS',hx,hl,n0,n1⟩,hB',hK⟩
 obtain rfl | rfl | rfl : r = 0 ∨ r = 1 ∨ r = 2 :=by omega
 all_goals (dsimp only;decide)
theorem pk_at : Calls Tryz.prog 30 #[.pointer (some ⟨g,0,none⟩)] w fun e w' => ∃ x : Int,e = .returned (.int .i64 x) ∧ 0 ≤ x ∧ x ≤ 100 ∧ PkTo w0 w w' g :=by
 obtain ⟨xs,n,hS,hx,hl,h0,h1⟩ :=hI
 obtain ⟨r,n',hf,r0,r1,n0,n1⟩ :=num_ex hx hl h0 h1 (m :=8) (by decide)
 refine (pp_at.calls g xs n _ n' w0 w hS hB (by unfold pp_at.f;rw [Option.bind_some,hf,Option.bind_some,if_pos r0,if_pos (by simpa using r1)])).mono ?_
 rintro e w' ⟨rfl,hS',hB',hK⟩
 obtain ⟨k0,k1⟩ : 0 ≤ rd [0,1,2,3,5,8,13,100] r ∧ rd [0,1,2,3,5,8,13,100] r ≤ 100 :=by
  obtain rfl | rfl | rfl | rfl | rfl | rfl | rfl | rfl : r = 0 ∨ r = 1 ∨ r = 2 ∨ r = 3 ∨ r = 4 ∨ r = 5 ∨ r = 6 ∨ r = 7 :=by omega
  all_goals decide
 exact ⟨_,rfl,k0,k1,⟨xs,n',hS',hx,hl,n0,n1⟩,hB',hK⟩
end
theorem data_l (ys : List Int) (n : Int) : ∀ (d : Nat) (zs : List Int) (i : Nat),i + d = zs.length → zs.length ≤ 100 → (∀ x ∈ zs,0 ≤ x ∧ x ≤ 255) →
  ∃ k r,pp_Data.l0 k zs (i : Int) ys n = some (r,n) ∧ (∀ x ∈ r,0 ≤ x ∧ x ≤ 255) ∧ r.length = zs.length
 | 0,zs,i,hi,hl,hz => ⟨1,zs,by simp only [pp_Data.l0];rw [if_neg (by omega)],hz,rfl⟩
 | d + 1,zs,i,hi,hl,hz => by
  have hz2 : ∀ x ∈ zs.set i ((wrap64 ((wrap64 ((i : Int) * 7)) + (zs.length : Int))) % 256),0 ≤ x ∧ x ≤ 255 :=fun x hx => by
   rcases List.mem_or_eq_of_mem_set hx with h | h
   ·exact hz x h
   ·rw [h];omega
  obtain ⟨k,r,hk,h1,h2⟩ :=data_l ys n d (zs.set i ((wrap64 ((wrap64 ((i : Int) * 7)) + (zs.length : Int))) % 256)) (i + 1) (by rw [List.length_set];omega) (by rw [List.length_set];exact hl) hz2
  refine ⟨k + 1,r,?_,h1,by rw [h2,List.length_set]⟩
  simp only [pp_Data.l0]
  rw [if_pos (by omega),if_pos (by omega),show wrap64 ((i : Int) + 1) = ((i + 1 : Nat) : Int) by unfold wrap64;omega]
  exact hk
theorem pk_data {w0 w : World} {g : Nat} (hI : Pk w0 w g) (hB : Below w0.heap.size w0 w) : Calls Tryz.prog 33 #[.pointer (some ⟨g,0,none⟩)] w fun e w' => ∃ (v : Value) (ys : List Int),e = .returned v ∧ Kd.R (Kd.int .u8) 5 w' w.heap.size (fun _ => True) v ys ∧ (∀ x ∈ ys,0 ≤ x ∧ x ≤ 255) ∧ ys.length ≤ 100 ∧ PkTo w0 w w' g :=by
 obtain ⟨xs,n,hS,hx,hl,h0,h1⟩ :=hI
 obtain ⟨r,n',hf,r0,r1,n0,n1⟩ :=num_ex hx hl h0 h1 (m :=5) (by decide)
 obtain ⟨k0,k1⟩ : 0 ≤ rd [0,1,3,20,100] r ∧ rd [0,1,3,20,100] r ≤ 100 :=by
  obtain rfl | rfl | rfl | rfl | rfl : r = 0 ∨ r = 1 ∨ r = 2 ∨ r = 3 ∨ r = 4 :=by omega
  all_goals decide
 obtain ⟨k,ys,hk,hy,hyl⟩ :=data_l xs n' (rd [0,1,3,20,100] r).toNat (List.replicate (rd [0,1,3,20,100] r).toNat 0) 0 (by simp) (by simp;omega) (fun x hx => by simp at hx;omega)
 refine (pp_Data.calls k g xs n ys n' w0 w hS hB (by unfold pp_Data.f;rw [Option.bind_some,hf,Option.bind_some,if_pos r0,if_pos (by simpa using r1),if_pos k0,if_pos (show (rd [0,1,3,20,100] r).toNat ≤ 281474976710656 by omega)];exact hk)).mono ?_
 rintro e w' ⟨v,rfl,hR,hS',hB',hK⟩
 exact ⟨v,ys,rfl,hR,hy,by rw [hyl];simp;omega,⟨xs,n',hS',hx,hl,n0,n1⟩,hB',hK⟩
theorem pk_made (A : Option Addr) (c : Nat) (xs : List Int) (w0 w : World) (hB : Below w0.heap.size w0 w) (hr : Kd.C (Kd.int .u8) w0 A xs.length xs) (hc : xs.length ≤ c) (hx : ∀ x ∈ xs,0 ≤ x ∧ x ≤ 255) (hl : xs.length ≤ 150) :
  Calls Tryz.prog 9 #[.slice A xs.length c] w fun e w' => ∃ g : Nat,e = .returned (.pointer (some ⟨g,0,none⟩)) ∧ Pk w0 w' g ∧ Below w0.heap.size w0 w' ∧ Below w.heap.size w w' :=by
 refine (pp_Made.calls A c xs xs 0 w0 w hB hr hc rfl).mono ?_
 rintro e w' ⟨g,rfl,hS,h1,h2⟩
 exact ⟨g,rfl,⟨xs,0,hS,hx,hl,Int.le_refl _,by omega⟩,h1,h2⟩
end Go.Proofs.YtlafgnanfkhobaaGreatDoor.P2
namespace Go.Proofs.YtlafgnanfkhobaaGreatDoor.P2
open Go.RowKit Go.Proofs.YtlafgnanfkhobaaGreatDoorW.PrintWords Go.Proofs.YtlafgnanfkhobaaGreatDoorW.PrintLast Go.Proofs.YtlafgnanfkhobaaGreatDoorW.PrintMore
attribute [local go_sem] max2_int min2_int max_two min_two max_three min_three max_four min_four
theorem Pk.ge {w0 W : World} {g : Nat} (h : Pk w0 W g) : w0.heap.size ≤ g :=by
 obtain ⟨xs,n,hS,_⟩ :=h
 exact hS.ge
theorem Pk.blk {w0 W : World} {g : Nat} (h : Pk w0 W g) : ∃ cs,W.heap[g]? = some (.cells cs 64 (0,0)) :=by
 obtain ⟨xs,n,⟨A0,c0,hb,_⟩,_⟩ :=h
 exact ⟨_,hb⟩
theorem Pk.below {w0 W W1 : World} {g : Nat} (h : Pk w0 W g) (hb : Below W.heap.size W W1) : Pk w0 W1 g :=by
 obtain ⟨xs,n,hS,hr⟩ :=h
 exact ⟨xs,n,hS.below hb,hr⟩
theorem Pk.far {w0 W : World} {g : Nat} (h : Pk w0 W g) {p : Addr} (hne : g ≠ p.block) (u : Value) : Pk w0 (W.setCell p u) g :=by
 obtain ⟨xs,n,hS,hr⟩ :=h
 exact ⟨xs,n,hS.far hne u,hr⟩
theorem Pk.grown {w0 W W1 : World} {g : Nat} (h : Pk w0 W g) {row : Option Nat} (hw : W.grownBy W1 row) (hne : some g ≠ row) : Pk w0 W1 g :=by
 obtain ⟨xs,n,hS,hr⟩ :=h
 exact ⟨xs,n,hS.grown hw hne,hr⟩
theorem Pk.lt {w0 W : World} {g : Nat} (h : Pk w0 W g) : g < W.heap.size :=by
 obtain ⟨cs,hb⟩ :=h.blk
 exact blk_lt hb
namespace PkTo
variable {w0 w W W1 : World} {g : Nat}
theorem refl (h : Pk w0 w g) (hB : Below w0.heap.size w0 w) : PkTo w0 w w g :=⟨h,hB,KB.refl w g none⟩
theorem below (h : PkTo w0 w W g) (hb : Below W.heap.size W W1) : PkTo w0 w W1 g :=⟨h.1.below hb,below_step h.2.1 hb,h.2.2.trans (KB.of_below hb g none) (.inl rfl)⟩
theorem call (h : PkTo w0 w W g) (h' : PkTo w0 W W1 g) : PkTo w0 w W1 g :=⟨h'.1,h'.2.1,h.2.2.trans h'.2.2 (.inl rfl)⟩
theorem set (h : PkTo w0 w W g) (hg : g < w.heap.size) {b : Nat} (hb : w.heap.size ≤ b) (i : Nat) (u : Value) : PkTo w0 w (W.setCell ⟨b,i,none⟩ u) g :=
 ⟨h.1.far (Nat.ne_of_lt (Nat.lt_of_lt_of_le hg hb)) u,bws h.2.1 (Nat.le_trans h.1.ge (Nat.le_of_lt (Nat.lt_of_lt_of_le hg hb))),keep_far h.2.2 hb u⟩
theorem grown (h : PkTo w0 w W g) (hg : g < w.heap.size) {row : Option Nat} (hw : W.grownBy W1 row) (hr : ∀ k,row = some k → w.heap.size ≤ k) : PkTo w0 w W1 g :=by
 have hne : ∀ k,k < w.heap.size → some k ≠ row :=fun k hk e => by have :=hr k e.symm;omega
 refine ⟨h.1.grown hw (hne g hg),?_,Nat.le_trans h.2.2.1 hw.size,fun k hk h1 h2 => (hw.block k (Nat.lt_of_lt_of_le hk h.2.2.1) (hne k hk)).trans (h.2.2.2 k hk h1 h2)⟩
 have hsz :=h.1.ge
 exact h.2.1.grown hw h.2.1.size (fun k e => by have :=hr k e;omega)
theorem blk (h : PkTo w0 W W1 g) {b : Nat} {o : Obj} (hb : W.heap[b]? = some o) (hne : b ≠ g) : W1.heap[b]? = some o :=h.2.2.blk hb hne (by simp)
theorem row {α : Type} {d : Kd α} {e base : Nat} {ok : Nat → Prop} {v : Value} {xs : List α} (h : PkTo w0 W W1 g) (hP : Pk w0 W g) (hR : d.R e W base ok v xs) (ht : ∀ q,q ∈ e :: d.E → q ≠ 64) : d.R e W1 base ok v xs :=by
 obtain ⟨cs,hb⟩ :=hP.blk
 exact Kd.R_mono (Kd.R_keep (Kd.R_types hR hb ht) h.2.2 (fun _ h => h.2)) (fun _ h => h.1)
end PkTo
end Go.Proofs.YtlafgnanfkhobaaGreatDoor.P2
namespace Go.Proofs.YtlafgnanfkhobaaGreatDoor.P2
open Go.RowKit Go.Proofs.YtlafgnanfkhobaaGreatDoorW.PrintWords Go.Proofs.YtlafgnanfkhobaaGreatDoorW.PrintLast Go.Proofs.YtlafgnanfkhobaaGreatDoorW.PrintMore
attribute [local go_sem] max2_int min2_int max_two min_two max_three min_three max_four min_four
section
variable {P : Program} {ops : Array Oper} {Q : Exit → Act → World → Prop}
theorem wpAny_inv (I : Array Bool → Act → World → Prop)
  (hstep : ∀ l a w i,I l a w → i ∈ Region.ready .any ops l → wpOp P ops Q i (I (l.setIfInBounds i true)) a w)
  (hend : ∀ l a w,I l a w → Region.ready .any ops l = [] → Q .normal a w) :
  ∀ (fuel : Nat) (l : Array Bool) (a : Act) (w : World),I l a w → l.toList.count false ≤ fuel → wpAny P .any ops Q fuel l a w
 | 0,l,a,w,hI,hc => by
  have h0 : Region.ready .any ops l = [] :=List.eq_nil_iff_forall_not_mem.2 fun i hi => by
   have h1 :=(mem_ready.1 hi).1
   have h2 : false ∈ l.toList :=by
    rw [Array.getD_eq_getD_getElem?] at h1
    cases h3 : l[i]? with
    | none => rw [h3] at h1;cases h1
    | some b =>
     rw [h3] at h1
     obtain rfl : b = false :=h1
     exact Array.mem_toList_iff.2 (Array.mem_of_getElem? h3)
   have :=List.count_pos_iff.2 h2
   omega
  exact ⟨h0,hend l a w hI h0⟩
 | fuel + 1,l,a,w,hI,hc => by
  refine ⟨hend l a w hI,fun i hi => wpOp_mono (fun a' w' h => wpAny_inv I hstep hend fuel _ a' w' h ?_) (hstep l a w i hI hi)⟩
  have h1 :=(mem_ready.1 hi).1
  rw [Array.getD_eq_getD_getElem?] at h1
  cases h3 : l[i]? with
  | none => rw [h3] at h1;cases h1
  | some b =>
   rw [h3] at h1
   obtain rfl : b = false :=h1
   obtain ⟨hlt,hb⟩ :=Array.getElem?_eq_some_iff.1 h3
   have hlt' : i < l.toList.length :=by simpa using hlt
   have hb' : l.toList[i] = false :=by simpa using hb
   have hpos :=List.count_pos_iff.2 (hb' ▸ List.getElem_mem hlt')
   rw [Array.toList_setIfInBounds,List.count_set hlt',hb']
   simp only [beq_self_eq_true,if_true,show ((true == false) = true) = False by simp,if_false]
   omega
theorem region_inv {id : Nat} {a : Act} {w : World} (hm : P.follows .mixedOrders = true) (I : Array Bool → Act → World → Prop) (h0 : I (Array.replicate ops.size false) a w.drew)
  (hstep : ∀ l a w i,I l a w → i ∈ Region.ready .any ops l → wpOp P ops Q i (I (l.setIfInBounds i true)) a w)
  (hend : ∀ l a w,I l a w → Region.ready .any ops l = [] → Q .normal a w) : (Code.region id ops true).wp P Q a w :=
 wp_region_any hm (wpAny_inv I hstep hend ops.size _ a _ h0 (by simpa using List.count_le_length (a :=false) (l :=(Array.replicate ops.size false).toList)))
def Done (l : Array Bool) (k : Nat) : Prop :=l.getD k false = true
theorem Done.set {l : Array Bool} {i k : Nat} (h : Done (l.setIfInBounds i true) k) : k = i ∨ Done l k :=by
 by_cases hk : i = k
 ·exact .inl hk.symm
 ·exact .inr (by unfold Done at h ⊢;rwa [getD_set_ne false hk] at h)
def rdeps (ops : Array Oper) : List (List Nat) :=ops.toList.map fun o => (o.after.toList.filter (Region.binds .any)).map (·.on)
theorem ready_dep {l : Array Bool} {i k : Nat} {T : List (List Nat)} (hT : rdeps ops = T) (hr : i ∈ Region.ready .any ops l) (hk : k ∈ T.getD i []) : Done l k :=by
 obtain ⟨_,o,ho,hd⟩ :=mem_ready.1 hr
 subst hT
 have e : (rdeps ops).getD i [] = (o.after.toList.filter (Region.binds .any)).map (·.on) :=by
  simp [rdeps,ho,List.getD_eq_getElem?_getD]
 rw [e] at hk
 obtain ⟨x,hx,rfl⟩ :=List.mem_map.1 hk
 obtain ⟨h1,h2⟩ :=List.mem_filter.1 hx
 exact hd x (Array.mem_toList_iff.1 h1) h2
theorem ready_lt {l : Array Bool} {i : Nat} (hr : i ∈ Region.ready .any ops l) : i < ops.size :=by
 obtain ⟨_,o,ho,_⟩ :=mem_ready.1 hr
 exact (Array.getElem?_eq_some_iff.1 ho).1
theorem ready_new {l : Array Bool} {i : Nat} (hr : i ∈ Region.ready .any ops l) : ¬ Done l i :=by
 have h1 :=(mem_ready.1 hr).1
 unfold Done
 rw [Array.getD_eq_getD_getElem?] at h1 ⊢
 cases h3 : l[i]? with
 | none => simp
 | some b => rw [h3] at h1;simpa using h1
theorem ready_end {l : Array Bool} (hl : l.size = ops.size) (T : List (List Nat)) (hT : rdeps ops = T) (hb : (T.zipIdx.all fun p => p.1.all fun d => Nat.blt d p.2) = true) (h0 : Region.ready .any ops l = []) : ∀ i,i < ops.size → Done l i :=by
 intro i
 induction i using Nat.strongRecOn with
 | ind i ih =>
  intro hi
  refine Classical.byContradiction fun hn => ?_
  have : i ∈ Region.ready .any ops l :=by
   refine mem_ready.2 ⟨?_,ops[i],Array.getElem?_eq_getElem hi,fun e he hbd => ?_⟩
   ·unfold Done at hn
    rw [Array.getD_eq_getD_getElem?] at hn ⊢
    rw [Array.getElem?_eq_getElem (by omega)] at hn ⊢
    simpa using hn
   ·have hm : e.on ∈ T.getD i [] :=by
     subst hT
     have e2 : (rdeps ops).getD i [] = (ops[i].after.toList.filter (Region.binds .any)).map (·.on) :=by
      simp [rdeps,List.getD_eq_getElem?_getD,Array.getElem?_eq_getElem hi]
     rw [e2]
     exact List.mem_map.2 ⟨e,List.mem_filter.2 ⟨Array.mem_toList_iff.2 he,hbd⟩,rfl⟩
    have h1 : e.on < i :=by
     rw [List.getD_eq_getElem?_getD] at hm
     cases hx : T[i]? with
     | none => rw [hx] at hm;cases hm
     | some x =>
      rw [hx] at hm
      have h2 :=List.all_eq_true.1 hb (x,i) (List.mem_zipIdx_iff_getElem?.2 hx)
      have h3 :=List.all_eq_true.1 h2 _ hm
      simpa using h3
    exact ih _ h1 (by omega)
  rw [h0] at this
  cases this
def upd (vs : Nat → Value) (i : Nat) (v : Value) (k : Nat) : Value :=bif Nat.beq k i then v else vs k
theorem upd_same (vs : Nat → Value) (i : Nat) (v : Value) : upd vs i v i = v :=by simp [upd]
theorem upd_ne (vs : Nat → Value) {i k : Nat} (v : Value) (h : k ≠ i) : upd vs i v k = vs k :=by
 unfold upd
 cases hb : Nat.beq k i with
 | true => exact absurd (Nat.eq_of_beq_eq_true hb) h
 | false => rfl
theorem facts_set {F : Nat → Value → World → Prop} {vs : Nat → Value} {w w' : World} {l : Array Bool} {i : Nat} {v : Value} (h : ∀ k,Done l k → F k (vs k) w) (hK : ∀ k u,F k u w → F k u w') (hv : F i v w') :
  ∀ k,Done (l.setIfInBounds i true) k → F k (upd vs i v k) w' :=by
 intro k hk
 by_cases e : k = i
 ·rw [e,upd_same];exact hv
 ·rw [upd_ne _ _ e]
  exact hK _ _ (h k (hk.set.resolve_left e))
end
theorem not_done (n k : Nat) : ¬ Done (Array.replicate n false) k :=by
 unfold Done
 rw [Array.getD_eq_getD_getElem?,Array.getElem?_replicate]
 split <;> simp
theorem PkTo.keepB {w0 W W' : World} {g B : Nat} (T : PkTo w0 W W' g) (hg : g < B) (b : Nat) (o : Obj) (hb : B ≤ b) (h : W.heap[b]? = some o) : W'.heap[b]? = some o :=T.blk h (by omega)
theorem below_keepB {W W' : World} {B : Nat} (h : Below W.heap.size W W') (b : Nat) (o : Obj) (_hb : B ≤ b) (hb : W.heap[b]? = some o) : W'.heap[b]? = some o :=by
 have hlt : b < W.heap.size :=by
  rcases Nat.lt_or_ge b W.heap.size with h | h
  ·exact h
  ·rw [Array.getElem?_eq_none h] at hb;cases hb
 rw [h.block b hlt];exact hb
section
variable {P : Program} {ops : Array Oper} {Q : Exit → Act → World → Prop}
theorem skip_ {oi : Oper} {a : Act} {w w1 : World} {K : Act → World → Prop} (hw : Region.wanted oi (yielded ops a.tmps) = true) (hN : oi.dst = none) (hrun : (execOp a.eval oi).run P w = .ok .skip w1)
  (h : K a w1) : if Region.wanted oi (yielded ops a.tmps) = true then Oper.wp P oi a w K Q else K (a.put none undef) w :=by
 rw [if_pos hw]
 unfold Oper.wp
 rw [hrun]
 show K (a.put oi.dst undef) w1
 rw [hN]
 exact h
end
theorem done_set {l : Array Bool} {i k : Nat} (h : Done l k) : Done (l.setIfInBounds i true) k :=getD_set_true h
theorem done_self {l : Array Bool} {i : Nat} (h : i < l.size) : Done (l.setIfInBounds i true) i :=by
 unfold Done
 rw [Array.getD_eq_getD_getElem?]
 simp [h]
theorem setRow_grown (w : World) (g : Nat) (cs : Array Value) : w.grownBy (w.setRow g cs) (some g) :=
 ⟨rfl,rfl,rfl,by simp [World.setRow],fun k hk hne => by
  have hne : g ≠ k :=fun e => hne (by rw [e])
  simp [World.setRow,Array.getElem?_modify,hne]⟩
theorem M_grown {α : Type} {d : Kd α} {W W' : World} {b t base : Nat} {cs0 : Array Value} {ok : Nat → Prop} {x : α} {cs : List Value} (h : d.M W base ok x cs) (hb : W.heap[b]? = some (.cells cs0 t (0,0))) (ht : ∀ q,q ∈ d.E → q ≠ t) (hw : W.grownBy W' (some b)) : d.M W' base ok x cs :=
 d.M_mono (fun _ h => h.1) (d.M_move (fun k hk => hw.block k hk.2.2.1 (fun e => by
  obtain ⟨_,_,_,q,hq,c,hc⟩ :=hk
  injection e with e
  subst e
  rw [hb] at hc
  injection hc with hc
  injection hc with _ e2
  exact ht q hq e2.symm)) (d.M_bound h))
theorem setCell_grown (w : World) (b i : Nat) (u : Value) : w.grownBy (w.setCell ⟨b,i,none⟩ u) (some b) :=by
 refine ⟨?_,?_,?_,?_,fun k hk hne => ?_⟩
 ·simp [World.setCell]
 ·simp [World.setCell]
 ·simp [World.setCell]
 ·simp [World.setCell]
 ·have hne : b ≠ k :=fun e => hne (by rw [e])
  simp [World.setCell,Array.getElem?_modify,hne]
def GEv (e : S85) : Prop :=e.f0.size ≤ 16 ∧ (∀ x ∈ e.f1,0 ≤ x ∧ x ≤ 255) ∧ e.f1.length ≤ 100
def GPart (p : S83) : Prop :=p.f0.size ≤ 16 ∧ (-2 ≤ p.f1 ∧ p.f1 ≤ 3) ∧ p.f2.length ≤ 4 ∧ ∀ e ∈ p.f2,GEv e
section
variable {P : Program} {ops : Array Oper} {rest : List Oper} {o : Oper} {a : Act} {Q : Exit → Act → World → Prop}
theorem lit_event {W : World} (hgd : o.guard = none) {N : Tmp} (_hd : o.dst = some N) {cs : Array Value} {e : TypeId} {n : Nat}
  (hrun : (execOp a.eval o).run P W = .ok (.value (.slice (some ⟨W.heap.size,0,none⟩) n n)) (W.alloc (.cells cs e)))
  (h : ∀ (t : Nat) (ad : Addr),t = W.heap.size → ad = ⟨t,0,none⟩ → ∀ w1,w1.heap[t]? = some (.cells cs e (0,0)) → Below W.heap.size W w1 → wpList P ops Q rest (a.put o.dst (.slice (some ad) n n)) w1) : wpList P ops Q (o :: rest) a W :=
 Kd.event_run hgd hrun (h _ _ rfl rfl _ (blk_new W _) (bwa (Below.refl _ _) _))
end
theorem tab_at {W : World} {t e : Nat} {cs : Array Value} (K : W.heap[t]? = some (.cells cs e (0,0))) {r : Int} (h0 : 0 ≤ r) (h1 : r < (cs.size : Int)) : ∃ u,u ∈ cs.toList ∧ W.cell? ⟨t,r.toNat,none⟩ = some u :=by
 have hlt : r.toNat < cs.size :=by omega
 exact ⟨cs[r.toNat],Array.getElem_mem_toList hlt,(bkc K r.toNat).trans (Array.getElem?_eq_getElem hlt)⟩
theorem row_grown {α : Type} {d : Kd α} {W W' : World} {e b t base : Nat} {cs0 : Array Value} {ok : Nat → Prop} {v : Value} {xs : List α} (h : d.R e W base ok v xs) (hb : W.heap[b]? = some (.cells cs0 t (0,0))) (ht : ∀ q,q ∈ e :: d.E → q ≠ t) (hw : W.grownBy W' (some b)) : d.R e W' base ok v xs :=
 Kd.R_mono (Kd.R_move (Kd.R_bound h) (fun k hk => hw.block k hk.2.2.1 (fun e => by
  obtain ⟨_,_,_,q,hq,c,hc⟩ :=hk
  injection e with e
  subst e
  rw [hb] at hc
  injection hc with hc
  injection hc with _ e2
  exact ht q hq e2.symm))) (fun _ h => h.1)
theorem grown_trans {w w1 w2 : World} {r : Option Nat} (h : w.grownBy w1 r) (k : w1.grownBy w2 r) : w.grownBy w2 r :=
 ⟨k.os.trans h.os,k.tape.trans h.tape,k.output.trans h.output,Nat.le_trans h.size k.size,fun i hi hne => (k.block i (Nat.lt_of_lt_of_le hi h.size) hne).trans (h.block i hi hne)⟩
theorem row_other {α : Type} {d : Kd α} {W W' : World} {e b base : Nat} {v : Value} {xs : List α} {row : Option Nat} (h : d.R e W base (fun k => k < b) v xs) (hw : W.grownBy W' row) (hr : ∀ j,row = some j → b ≤ j) : d.R e W' base (fun k => k < b) v xs :=
 Kd.R_step h (fun k hk hl => hw.block k hl (fun e => by have :=hr k e.symm;omega))
theorem row_new {α : Type} {d : Kd α} {W W' : World} {e b base : Nat} {ok : Nat → Prop} {v : Value} {xs : List α} (h : d.R e W base ok v xs) (hb : b = W.heap.size) (hw : Below W.heap.size W W') : d.R e W' base (fun k => k < b) v xs :=
 Kd.R_mono (Kd.R_below (Kd.R_bound h) hw) (fun k hk => by have :=hk.2.2.1;omega)
end Go.Proofs.YtlafgnanfkhobaaGreatDoor.P2
