import Derived.Test.YtlafgnanfkhobaaGreatDoorQ1
import Derived.LoopTactic
import Derived.LoopN
namespace Go.Proofs.YtlafgnanfkhobaaGreatDoor.P2
open Go.RowKit Go.Proofs.YtlafgnanfkhobaaGreatDoorW.PrintWords Go.Proofs.YtlafgnanfkhobaaGreatDoorW.PrintLast Go.Proofs.YtlafgnanfkhobaaGreatDoorW.PrintMore
attribute [local go_sem] max2_int min2_int max_two min_two max_three min_three max_four min_four
def I6 (w0 W : World) (g : Nat) (f0 : List Int) (f1 : Int) : Prop :=∃ A0 c0,W.heap[g]? = some (.cells #[.slice A0 f0.length c0,.int .i64 f1] 64 (0,0)) ∧ w0.heap.size ≤ g ∧ Kd.C (Kd.int .u8) w0 A0 f0.length f0
theorem I6.grown {w0 W : World} {g : Nat} {f0 : List Int} {f1 : Int} {W1 : World} {row : Option Nat} (h : I6 w0 W g f0 f1) (hw : W.grownBy W1 row) (hne : some g ≠ row) : I6 w0 W1 g f0 f1 :=by
 obtain ⟨A0,c0,hb,hg,hr0⟩ :=h
 exact ⟨A0,c0,blk_grown hb hw hne,hg,hr0⟩
theorem I6.below {w0 W : World} {g : Nat} {f0 : List Int} {f1 : Int} {W1 : World} (h : I6 w0 W g f0 f1) (hw : Below W.heap.size W W1) : I6 w0 W1 g f0 f1 :=h.grown (grown_of_below hw none) (by simp)
theorem I6.alloc {w0 W : World} {g : Nat} {f0 : List Int} {f1 : Int} (h : I6 w0 W g f0 f1) (o : Obj) : I6 w0 (W.alloc o) g f0 f1 :=h.below (bwa (Below.refl _ _) o)
theorem I6.drewN {w0 W : World} {g : Nat} {f0 : List Int} {f1 : Int} (h : I6 w0 W g f0 f1) (m : Nat) : I6 w0 (W.drewN m) g f0 f1 :=h
theorem I6.drew {w0 W : World} {g : Nat} {f0 : List Int} {f1 : Int} (h : I6 w0 W g f0 f1) : I6 w0 W.drew g f0 f1 :=h
theorem I6.at_ {w0 W : World} {g : Nat} {f0 : List Int} {f1 : Int} {w' : World} {m : Nat} (hq : W.drewN m = w') (h : I6 w0 W g f0 f1) : I6 w0 w' g f0 f1 :=by subst hq;exact I6.drewN h m
theorem I6.apart {w0 W : World} {g : Nat} {f0 : List Int} {f1 : Int} {α : Type} {d : Kd α} {e : Nat} {base : Nat} {ok : Nat → Prop} {v : Value} {xs : List α} (h : I6 w0 W g f0 f1) (ho : d.R e W base ok v xs) (ht : ∀ q,q ∈ e :: d.E → q ≠ 64) : d.R e W base (fun k => ok k ∧ k ≠ g) v xs :=by
 obtain ⟨A0,c0,hb,hg,hr0⟩ :=h
 exact Kd.R_types ho hb ht
theorem I6.own_ne {w0 W : World} {g : Nat} {f0 : List Int} {f1 : Int} {α : Type} {d : Kd α} {e : Nat} {base : Nat} {ok : Nat → Prop} {v : Value} {xs : List α} (h : I6 w0 W g f0 f1) (ho : d.R e W base ok v xs) (ht : e ≠ 64) : some g ≠ v.ownBlock :=by
 obtain ⟨A0,c0,hb,hg,hr0⟩ :=h
 exact Kd.R_ne ho hb ht
theorem I6.apartS {w0 W : World} {g : Nat} {f0 : List Int} {f1 : Int} {α : Type} {d : Kd α} {e : Nat} {base : Nat} {ok : Nat → Prop} {v : Value} {xs : List α} (h : I6 w0 W g f0 f1) (ho : d.S e W base ok v xs) (ht : ∀ q,q ∈ e :: d.E → q ≠ 64) : d.S e W base (fun k => ok k ∧ k ≠ g) v xs :=by
 obtain ⟨A0,c0,hb,hg,hr0⟩ :=h
 exact Kd.S_types ho hb ht
theorem I6.own_neS {w0 W : World} {g : Nat} {f0 : List Int} {f1 : Int} {α : Type} {d : Kd α} {e : Nat} {base : Nat} {ok : Nat → Prop} {v : Value} {xs : List α} (h : I6 w0 W g f0 f1) (ho : d.S e W base ok v xs) (ht : e ≠ 64) : some g ≠ v.ownBlock :=by
 obtain ⟨A0,c0,hb,hg,hr0⟩ :=h
 exact Kd.S_ne ho hb ht
theorem I6.lt {w0 W : World} {g : Nat} {f0 : List Int} {f1 : Int} (h : I6 w0 W g f0 f1) : g < W.heap.size :=by
 obtain ⟨A0,c0,hb,hg,hr0⟩ :=h
 exact blk_lt hb
theorem I6.ge {w0 W : World} {g : Nat} {f0 : List Int} {f1 : Int} (h : I6 w0 W g f0 f1) : w0.heap.size ≤ g :=by
 obtain ⟨A0,c0,hb,hg,hr0⟩ :=h
 exact hg
theorem I6.far {w0 W : World} {g : Nat} {f0 : List Int} {f1 : Int} {p : Addr} (h : I6 w0 W g f0 f1) (hne : g ≠ p.block) (u : Value) : I6 w0 (W.setCell p u) g f0 f1 :=by
 obtain ⟨A0,c0,hb,hg,hr0⟩ :=h
 exact ⟨A0,c0,blk_far hb hne u,hg,hr0⟩
theorem cellS64_0 {W : World} {g : Nat} {A0 : Option Addr} {c0 : Nat} {f0 : List Int} {f1 : Int} (h : W.heap[g]? = some (.cells #[.slice A0 f0.length c0,.int .i64 f1] 64 (0,0))) : W.cell? ⟨g,0,none⟩ = some (.slice A0 f0.length c0) :=(bkc h 0).trans rfl
theorem cellS64_1 {W : World} {g : Nat} {A0 : Option Addr} {c0 : Nat} {f0 : List Int} {f1 : Int} (h : W.heap[g]? = some (.cells #[.slice A0 f0.length c0,.int .i64 f1] 64 (0,0))) : W.cell? ⟨g,1,none⟩ = some (.int .i64 f1) :=(bkc h 1).trans rfl
theorem I6.set_1 {w0 W : World} {g : Nat} {f0 : List Int} {f1 : Int} (h : I6 w0 W g f0 f1) (x : Int) : I6 w0 (W.setCell ⟨g,1,none⟩ (.int .i64 x)) g f0 x :=by
 obtain ⟨A0,c0,hb,hg,hr0⟩ :=h
 exact ⟨A0,c0,by simpa using blk_set hb 1 (.int .i64 x),hg,hr0⟩
def pp_Num.f (a2 : List Int) (a3 : Int) (a1 : Int) : Option (Int × Int) :=if a3 ≥ (a2.length : Int) then (some (0,a3)) else (if 0 ≤ (wrap64 ((wrap64 (a3 + 1)) - 1)) then (if (wrap64 ((wrap64 (a3 + 1)) - 1)) < (a2.length : Int) then (if a1 = 0 then (none) else (some (Int.tmod (wrap64 (rd a2 (wrap64 ((wrap64 (a3 + 1)) - 1)))) a1,wrap64 (a3 + 1)))) else (none)) else (none))
set_option maxHeartbeats 8000000 in
set_option maxRecDepth 100000 in
theorem pp_Num.calls (g : Nat) (a2 : List Int) (a3 : Int) (a1 : Int) (r1 : Int) (r2 : Int) (w0 w : World) (hI : I6 w0 w g a2 a3) (hB : Below w0.heap.size w0 w) (h : pp_Num.f a2 a3 a1 = some (r1,r2)) :
  Calls Tryz.prog 31 #[.pointer (some ⟨g,0,none⟩),.int .i64 a1] w fun e w' => e = .returned (.int .i64 r1) ∧ I6 w0 w' g a2 r2 ∧ Below w0.heap.size w0 w' ∧ KB w w' g none :=by
 have HI0 :=AZ.mk hI
 have HK :=AZ.mk (KB.refl w g none)
 have HL :=AZ.mk hB.size
 clear hI
 have HW0 :=AZ.mk hB.size
 have HB :=AZ.mk hB
 clear hB
 have H : (if a3 ≥ (a2.length : Int) then (some (0,a3)) else (if 0 ≤ (wrap64 ((wrap64 (a3 + 1)) - 1)) then (if (wrap64 ((wrap64 (a3 + 1)) - 1)) < (a2.length : Int) then (if a1 = 0 then (none) else (some (Int.tmod (wrap64 (rd a2 (wrap64 ((wrap64 (a3 + 1)) - 1)))) a1,wrap64 (a3 + 1)))) else (none)) else (none))) = some (r1,r2) :=h
 clear h
 by_cases c3 : a3 ≥ (a2.length : Int)
 ·rw [if_pos c3] at H
  have ar : decide ((a2.length : Int) ≤ a3) = true :=decide_eq_true c3
  clear c3
  simp only [Option.some.injEq,Prod.mk.injEq] at H
  obtain ⟨rfl,rfl⟩ :=H
  obtain ⟨ASz4_0,cSz4_0,aB,b9,HSz4_0⟩ :=HI0.out
  have bh :=cellS64_0 aB
  have bg :=cellS64_1 aB
  have bc :=bkz aB 1
  clear aB b9
  go_enter Tryz.func31,Tryz.ntmps31
  go_wp2
  repeat (go_quiet (fail);try go_wp2)
  go_ret
  exact ⟨by first | rfl | (simp [errW_none,errW_some] <;> rfl) | (simp [*,errW_none,errW_some] <;> rfl),by repeat (first | (with_reducible first | exact HI0.out | apply I6.alloc | apply I6.drewN | apply I6.drew | apply I6.set_1) | exact HI0.out),by repeat (first | (with_reducible first | exact HB.out | apply bwa | apply pwN | apply bw1 | refine bws ?_ (I6.ge HI0.out)) | exact HB.out),by repeat (first | (with_reducible first | exact HK.out | apply KB.set_ | apply kpN | apply keep_drew | apply keep_alloc) | exact HK.out)⟩
 ·rw [if_neg c3] at H
  have ar : decide ((a2.length : Int) ≤ a3) = false :=decide_eq_false c3
  clear c3
  obtain ⟨ji5,hji5⟩ : ∃ j_ : Int,(wrap64 ((wrap64 (a3 + 1)) - 1)) = j_ :=⟨_,rfl⟩
  replace H : (if 0 ≤ (ji5) then (if (ji5) < (a2.length : Int) then (if a1 = 0 then (none) else (some (Int.tmod (wrap64 (rd a2 (ji5))) a1,wrap64 (a3 + 1)))) else (none)) else (none)) = some (r1,r2) :=by first | (rw [hji5] at H;exact H) | (simp only [hji5] at H ⊢;exact H)
  have hji5w : (IntKind.i64.wrap ((wrap64 (a3 + 1)) - 1)) = ji5 :=(i64_w _).trans hji5
  by_cases c6 : 0 ≤ (ji5)
  ·rw [if_pos c6] at H
   have aW : decide (0 ≤ (ji5)) = true :=decide_eq_true c6
   clear c6
   by_cases c7 : (ji5) < (a2.length : Int)
   ·rw [if_pos c7] at H
    have c7b0 : decide ((ji5) < (a2.length : Int)) = true :=decide_eq_true c7
    clear c7
    by_cases c8 : a1 = 0
    ·rw [if_pos c8] at H
     exact absurd H (by simp)
    ·rw [if_neg c8] at H
     have c8b0 : (a1 == 0) = false :=beq_eq_false_iff_ne.mpr c8
     have c8b1 : (a1 != 0) = true :=bne_iff_ne.mpr c8
     simp only [Option.some.injEq,Prod.mk.injEq] at H
     obtain ⟨rfl,rfl⟩ :=H
     obtain ⟨ASz9_0,cSz9_0,aA,b8,HSz9_0⟩ :=HI0.out
     have bf :=cellS64_0 aA
     have be :=cellS64_1 aA
     have bb :=bkz aA 1
     clear aA b8
     have aM : 0 ≤ ((ji5) : Int) :=of_decide_eq_true (by first | (with_reducible assumption) | assumption)
     have aI : (ji5) < (a2.length : Int) :=of_decide_eq_true (by first | (with_reducible assumption) | assumption)
     obtain ⟨aY,br,aa⟩ :=Kd.at_int HSz9_0 (ji5) aM aI
     cases br
     have hn101_0 : aY.block ≠ g :=Nat.ne_of_lt (Nat.lt_of_lt_of_le (by have :=World.block_lt_of_cell? _ _ aa;first | rwa [add_block] at this | exact this) (I6.ge HI0.out))
     replace aa :=pw_cell_below HB.out aa
     replace aa :=(cell_far (p :=⟨g,1,none⟩) (by first | (rw [add_block];exact hn101_0) | (show (Addr.add _ _).block ≠ _;rw [add_block];exact hn101_0) | exact hn101_0) (.int .i64 (wrap64 (a3 + 1)))).trans aa
     (try have hy101_0 :=fun (n_ : Nat) => (show (((w.drewN n_).setCell ⟨g,1,none⟩ (.int .i64 (wrap64 (a3 + 1))))).cell? _ = some _ from aa))
     clear hn101_0
     replace aM :=eq_true aM
     replace aI :=eq_true aI
     go_enter Tryz.func31,Tryz.ntmps31
     go_wp2
     repeat (go_quiet (fail);try go_wp2)
     go_ret
     exact ⟨by first | rfl | (simp [errW_none,errW_some] <;> rfl) | (simp only [← hji5];first | rfl | (simp [errW_none,errW_some] <;> rfl)) | (simp [*,errW_none,errW_some] <;> rfl),by repeat (first | (with_reducible first | exact HI0.out | apply I6.alloc | apply I6.drewN | apply I6.drew | apply I6.set_1) | exact HI0.out),by repeat (first | (with_reducible first | exact HB.out | apply bwa | apply pwN | apply bw1 | refine bws ?_ (I6.ge HI0.out)) | exact HB.out),by repeat (first | (with_reducible first | exact HK.out | apply KB.set_ | apply kpN | apply keep_drew | apply keep_alloc) | exact HK.out)⟩
   ·rw [if_neg c7] at H
    exact absurd H (by simp)
  ·rw [if_neg c6] at H
   exact absurd H (by simp)
def pp_Name.f (a2 : List Int) (a3 : Int) : Option (ByteArray × Int) :=(some (([(⟨#[97]⟩ : ByteArray),(⟨#[98]⟩ : ByteArray),(⟨#[97,98]⟩ : ByteArray),(⟨#[99]⟩ : ByteArray),(⟨#[97,33]⟩ : ByteArray),(⟨#[115,116,114,101,97,109,45,111,102,45,49,54,45,98,121,116]⟩ : ByteArray)] : List ByteArray) : List ByteArray)).bind fun y102 => ((pp_Num.f a2 a3 6).bind fun a7 => (if 0 ≤ a7.1 then (if a7.1 < (y102.length : Int) then (some (rdOf ByteArray.empty y102 a7.1,a7.2)) else (none)) else (none)))
set_option maxHeartbeats 8000000 in
set_option maxRecDepth 100000 in
theorem pp_Name.calls (g : Nat) (a2 : List Int) (a3 : Int) (r1 : ByteArray) (r2 : Int) (w0 w : World) (hI : I6 w0 w g a2 a3) (hB : Below w0.heap.size w0 w) (h : pp_Name.f a2 a3 = some (r1,r2)) :
  Calls Tryz.prog 29 #[.pointer (some ⟨g,0,none⟩)] w fun e w' => e = .returned (.string r1) ∧ I6 w0 w' g a2 r2 ∧ Below w0.heap.size w0 w' ∧ KB w w' g none :=by
 have HI0 :=AZ.mk hI
 have HK :=AZ.mk (KB.refl w g none)
 have HL :=AZ.mk hB.size
 clear hI
 have HW0 :=AZ.mk hB.size
 have HB :=AZ.mk hB
 clear hB
 have H : ((some (([(⟨#[97]⟩ : ByteArray),(⟨#[98]⟩ : ByteArray),(⟨#[97,98]⟩ : ByteArray),(⟨#[99]⟩ : ByteArray),(⟨#[97,33]⟩ : ByteArray),(⟨#[115,116,114,101,97,109,45,111,102,45,49,54,45,98,121,116]⟩ : ByteArray)] : List ByteArray) : List ByteArray)).bind fun y102 => ((pp_Num.f a2 a3 6).bind fun a7 => (if 0 ≤ a7.1 then (if a7.1 < (y102.length : Int) then (some (rdOf ByteArray.empty y102 a7.1,a7.2)) else (none)) else (none)))) = some (r1,r2) :=h
 clear h
 obtain ⟨y102,hy102⟩ : ∃ y_ : List ByteArray,y_ = (([(⟨#[97]⟩ : ByteArray),(⟨#[98]⟩ : ByteArray),(⟨#[97,98]⟩ : ByteArray),(⟨#[99]⟩ : ByteArray),(⟨#[97,33]⟩ : ByteArray),(⟨#[115,116,114,101,97,109,45,111,102,45,49,54,45,98,121,116]⟩ : ByteArray)] : List ByteArray)) :=⟨_,rfl⟩
 replace H : ((pp_Num.f a2 a3 6).bind fun a7 => (if 0 ≤ a7.1 then (if a7.1 < (y102.length : Int) then (some (rdOf ByteArray.empty y102 a7.1,a7.2)) else (none)) else (none))) = some (r1,r2) :=by first | (rw [hy102];with_reducible exact H) | (have H2_ :=(Option.bind_some _ _).symm.trans H;rw [hy102];with_reducible exact H2_) | (have H2_ :=(Option.bind_some _ _).symm.trans H;with_reducible exact H2_) | with_reducible exact H | (rw [hy102];exact H) | exact H
 have Ny102 :=AZ.mk hy102
 clear hy102
 replace H :=Option.bind_eq_some_iff.mp H
 obtain ⟨⟨aj,aQ⟩,av,H⟩ :=H
 replace H : (if 0 ≤ aj then (if aj < (y102.length : Int) then (some (rdOf ByteArray.empty y102 aj,aQ)) else (none)) else (none)) = some (r1,r2) :=H
 have A2 :=AZ.mk av
 clear av
 by_cases c3 : 0 ≤ aj
 ·rw [if_pos c3] at H
  have ar : decide (0 ≤ aj) = true :=decide_eq_true c3
  clear c3
  by_cases c4 : aj < (y102.length : Int)
  ·rw [if_pos c4] at H
   have az : decide (aj < (y102.length : Int)) = true :=decide_eq_true c4
   clear c4
   simp only [Option.some.injEq,Prod.mk.injEq] at H
   obtain ⟨rfl,rfl⟩ :=H
   go_enter Tryz.func29,Tryz.ntmps29
   go_wp2_with (first | ((with_reducible refine gate_dst (N :=3) rfl ?_);refine Kd.R_lit Kd.string _ 9 ?hg (N :=3) ?hd (xs :=([(⟨#[97]⟩ : ByteArray),(⟨#[98]⟩ : ByteArray),(⟨#[97,98]⟩ : ByteArray),(⟨#[99]⟩ : ByteArray),(⟨#[97,33]⟩ : ByteArray),(⟨#[115,116,114,101,97,109,45,111,102,45,49,54,45,98,121,116]⟩ : ByteArray)] : List ByteArray)) (inner :=[.string (⟨#[97]⟩ : ByteArray),.string (⟨#[98]⟩ : ByteArray),.string (⟨#[97,98]⟩ : ByteArray),.string (⟨#[99]⟩ : ByteArray),.string (⟨#[97,33]⟩ : ByteArray),.string (⟨#[115,116,114,101,97,109,45,111,102,45,49,54,45,98,121,116]⟩ : ByteArray)]) (ok :=fun _ => True) (okp :=fun _ => True) ?hr ?hp (fun _ hk => hk) trivial (Below.refl _ _) (Nat.le_refl _) (by simp) ?_;(case hd => rfl);(case hg => rfl);(case hr => first | (go_simp;done) | (go_simp;rfl));(case hp => exact (Reps.one (show Kd.M Kd.string _ _ _ (⟨#[97]⟩ : ByteArray) [.string (⟨#[97]⟩ : ByteArray)] from rfl) (Reps.one (show Kd.M Kd.string _ _ _ (⟨#[98]⟩ : ByteArray) [.string (⟨#[98]⟩ : ByteArray)] from rfl) (Reps.one (show Kd.M Kd.string _ _ _ (⟨#[97,98]⟩ : ByteArray) [.string (⟨#[97,98]⟩ : ByteArray)] from rfl) (Reps.one (show Kd.M Kd.string _ _ _ (⟨#[99]⟩ : ByteArray) [.string (⟨#[99]⟩ : ByteArray)] from rfl) (Reps.one (show Kd.M Kd.string _ _ _ (⟨#[97,33]⟩ : ByteArray) [.string (⟨#[97,33]⟩ : ByteArray)] from rfl) (Reps.one (show Kd.M Kd.string _ _ _ (⟨#[115,116,114,101,97,109,45,111,102,45,49,54,45,98,121,116]⟩ : ByteArray) [.string (⟨#[115,116,114,101,97,109,45,111,102,45,49,54,45,98,121,116]⟩ : ByteArray)] from rfl) (Reps.none _ _))))))));intro v103 w5 al hb hg_ hnew_;clear hg_ hnew_;(first | rw [← Ny102.out] at al | (simp only [Int.reduceToNat] at al;rw [← Ny102.out] at al));have ae :=AZ.mk (Kd.R_lower al (keep_size (w :=w) (g :=g) (row :=none) (by repeat (first | (with_reducible first | exact HK.out | apply KB.set_ | apply kpN | apply keep_drew | apply keep_alloc) | exact HK.out))));have ad :=AZ.mk (I6.below (by repeat (first | (with_reducible first | exact HI0.out | apply I6.alloc | apply I6.drewN | apply I6.drew | apply I6.set_1) | exact HI0.out)) hb);have ac :=AZ.mk (KB.trans (by repeat (first | (with_reducible first | exact HK.out | apply KB.set_ | apply kpN | apply keep_drew | apply keep_alloc) | exact HK.out)) (KB.of_below hb g none) (.inl rfl));have ab :=AZ.mk (below_step (by repeat (first | (with_reducible first | exact HB.out | apply bwa | apply pwN | apply bw1 | refine bws ?_ (I6.ge HI0.out)) | exact HB.out)) hb);clear HI0;clear HK;clear HB;have ao :=ae;have HI0 :=ad;have HK :=ac;have HB :=ab;clear ae ad ac ab;clear hb al) | ((with_reducible refine gate_callee (f :=31) rfl ?_);refine goesL_ (some 5) rfl rfl Tryz.func31 (by kernel_rfl) rfl #[.pointer (some ⟨g,0,none⟩),.int .i64 6] rfl (by (try simp only [List.map_toArray,List.map_cons,List.map_nil]);first | done | rfl | (simp only [List.length_drop,List.length_take];rfl)) ?_;(with_reducible refine (pp_Num.calls g a2 a3 6 aj aQ w0 _ ?side1 ?side2 A2.out).mono ?_);(case side1 => repeat (first | (with_reducible first | exact HI0.out | apply I6.alloc | apply I6.drewN | apply I6.drew | apply I6.set_1) | exact HI0.out));(case side2 => repeat (first | (with_reducible first | exact HB.out | apply bwa | apply pwN | apply bw1 | refine bws ?_ (I6.ge HI0.out)) | exact HB.out));rintro e w7 ⟨rfl,hi,hb,hk⟩;refine ⟨_,rfl,?_⟩;have ae :=AZ.mk (Kd.R_mono (Kd.R_keep (I6.apart (show I6 w0 _ g a2 a3 from by repeat (first | (with_reducible first | exact HI0.out | apply I6.alloc | apply I6.drewN | apply I6.drew | apply I6.set_1) | exact HI0.out)) (by (with_reducible repeat (first | apply Kd.R_alloc | apply Kd.R_drewN | apply Kd.R_drew));exact ao.out) (by decide)) hk (fun _ h => h.2)) (fun _ h => h.1));have ad :=AZ.mk (KB.trans (by repeat (first | (with_reducible first | exact HK.out | apply KB.set_ | apply kpN | apply keep_drew | apply keep_alloc) | exact HK.out)) hk (.inl rfl));have ac :=AZ.mk (hb);have ab :=AZ.mk (hi);clear ao;clear HK;clear HB;clear HI0;have ao :=ae;have HK :=ad;have HB :=ac;have HI0 :=ab;clear ae ad ac ab;(try clear hb);(try clear hb2);(try clear hk);(try clear hi);obtain ⟨bD,bw,aU⟩ :=Kd.R_slice ao.out;subst aU;have aL : 0 ≤ (aj : Int) :=of_decide_eq_true (by first | (with_reducible assumption) | assumption);have aH : aj < (y102.length : Int) :=of_decide_eq_true (by first | (with_reducible assumption) | assumption);obtain ⟨bC,bq,b4⟩ :=Kd.at_string (Kd.R_reads' ao.out).2.2 aj aL aH;cases bq;replace aL :=eq_true aL;replace aH :=eq_true aH))
   go_ret
   exact ⟨by first | rfl | (simp [errW_none,errW_some] <;> rfl) | (simp [*,errW_none,errW_some] <;> rfl),by repeat (first | (with_reducible first | exact HI0.out | apply I6.alloc | apply I6.drewN | apply I6.drew | apply I6.set_1) | exact HI0.out),by repeat (first | (with_reducible first | exact HB.out | apply bwa | apply pwN | apply bw1 | refine bws ?_ (I6.ge HI0.out)) | exact HB.out),by repeat (first | (with_reducible first | exact HK.out | apply KB.set_ | apply kpN | apply keep_drew | apply keep_alloc) | exact HK.out)⟩
  ·rw [if_neg c4] at H
   exact absurd H (by simp)
 ·rw [if_neg c3] at H
  exact absurd H (by simp)
def pp_Data.l0 : Nat → List Int → Int → List Int → Int → Option (List Int × Int)
 | 0,_,_,_,_ => none
 | k + 1,x3,x4,aN,aD => if x4 < (x3.length : Int) then (if 0 ≤ x4 then (pp_Data.l0 k (x3.set (x4 : Int).toNat ((wrap64 ((wrap64 (x4 * 7)) + (x3.length : Int))) % 256)) (wrap64 (x4 + 1)) aN aD) else (none)) else (some (x3,aD))
def pp_Data.f (k : Nat) (a2 : List Int) (a3 : Int) : Option (List Int × Int) :=(some (([0,1,3,20,100] : List Int) : List Int)).bind fun y108 => ((pp_Num.f a2 a3 5).bind fun a4 => (if 0 ≤ a4.1 then (if a4.1 < (y108.length : Int) then (if 0 ≤ (rd y108 a4.1) then (if (rd y108 a4.1 : Int).toNat ≤ 281474976710656 then (pp_Data.l0 k (List.replicate (rd y108 a4.1 : Int).toNat 0) 0 a2 a4.2) else (none)) else (none)) else (none)) else (none)))
theorem pp_Data.mono_l : ∀ k,(∀ y0 y1 y2 y3,LeO (pp_Data.l0 k y0 y1 y2 y3) (pp_Data.l0 (k + 1) y0 y1 y2 y3))
 | 0 => fun _ _ _ _ r h => by simp [pp_Data.l0] at h
 | k + 1 => by
  have ih0 :=pp_Data.mono_l k
  ·intro y0 y1 y2 y3
   unfold pp_Data.l0
   repeat' first
   | (with_reducible exact ih0 _ _ _ _)
   | (with_reducible exact LeO.refl _)
   | (with_reducible exact LeO.none _)
   | (with_reducible refine LeO.ite ?_ ?_)
   | (with_reducible refine LeO.bind ?_ (fun _ => ?_))
   | exact ih0 _ _ _ _
   | exact LeO.none _
   | refine LeO.ite ?_ ?_
   | refine LeO.bind ?_ (fun _ => ?_)
theorem pp_Data.mono : ∀ a0 a1 k,LeO (pp_Data.f k a0 a1) (pp_Data.f (k + 1) a0 a1) :=by
 intro a0 a1 k
 have ih0 :=pp_Data.mono_l k
 unfold pp_Data.f
 repeat' first
   | (with_reducible exact ih0 _ _ _ _)
   | (with_reducible exact LeO.refl _)
   | (with_reducible exact LeO.none _)
   | (with_reducible refine LeO.ite ?_ ?_)
   | (with_reducible refine LeO.bind ?_ (fun _ => ?_))
   | exact ih0 _ _ _ _
   | exact LeO.none _
   | refine LeO.ite ?_ ?_
   | refine LeO.bind ?_ (fun _ => ?_)
set_option maxHeartbeats 8000000 in
set_option maxRecDepth 100000 in
theorem pp_Data.calls (k : Nat) (g : Nat) (a2 : List Int) (a3 : Int) (r1 : List Int) (r2 : Int) (w0 w : World) (hI : I6 w0 w g a2 a3) (hB : Below w0.heap.size w0 w) (h : pp_Data.f k a2 a3 = some (r1,r2)) :
  Calls Tryz.prog 33 #[.pointer (some ⟨g,0,none⟩)] w fun e w' => ∃ v0_ : Value,e = .returned (v0_) ∧ Kd.R (Kd.int .u8) 5 w' w.heap.size (fun _ => True) v0_ r1 ∧ I6 w0 w' g a2 r2 ∧ Below w0.heap.size w0 w' ∧ KB w w' g none :=by
 have HI0 :=AZ.mk hI
 have HK :=AZ.mk (KB.refl w g none)
 have HL :=AZ.mk hB.size
 clear hI
 have HW0 :=AZ.mk hB.size
 have HB :=AZ.mk hB
 clear hB
 have H : ((some (([0,1,3,20,100] : List Int) : List Int)).bind fun y108 => ((pp_Num.f a2 a3 5).bind fun a4 => (if 0 ≤ a4.1 then (if a4.1 < (y108.length : Int) then (if 0 ≤ (rd y108 a4.1) then (if (rd y108 a4.1 : Int).toNat ≤ 281474976710656 then (pp_Data.l0 k (List.replicate (rd y108 a4.1 : Int).toNat 0) 0 a2 a4.2) else (none)) else (none)) else (none)) else (none)))) = some (r1,r2) :=h
 clear h
 obtain ⟨y108,hy108⟩ : ∃ y_ : List Int,y_ = (([0,1,3,20,100] : List Int)) :=⟨_,rfl⟩
 replace H : ((pp_Num.f a2 a3 5).bind fun a4 => (if 0 ≤ a4.1 then (if a4.1 < (y108.length : Int) then (if 0 ≤ (rd y108 a4.1) then (if (rd y108 a4.1 : Int).toNat ≤ 281474976710656 then (pp_Data.l0 k (List.replicate (rd y108 a4.1 : Int).toNat 0) 0 a2 a4.2) else (none)) else (none)) else (none)) else (none))) = some (r1,r2) :=by first | (rw [hy108];with_reducible exact H) | (have H2_ :=(Option.bind_some _ _).symm.trans H;rw [hy108];with_reducible exact H2_) | (have H2_ :=(Option.bind_some _ _).symm.trans H;with_reducible exact H2_) | with_reducible exact H | (rw [hy108];exact H) | exact H
 have Ny108 :=AZ.mk hy108
 clear hy108
 replace H :=Option.bind_eq_some_iff.mp H
 obtain ⟨⟨a8,aq⟩,av,H⟩ :=H
 replace H : (if 0 ≤ a8 then (if a8 < (y108.length : Int) then (if 0 ≤ (rd y108 a8) then (if (rd y108 a8 : Int).toNat ≤ 281474976710656 then (pp_Data.l0 k (List.replicate (rd y108 a8 : Int).toNat 0) 0 a2 aq) else (none)) else (none)) else (none)) else (none)) = some (r1,r2) :=H
 have A2 :=AZ.mk av
 clear av
 by_cases c3 : 0 ≤ a8
 ·rw [if_pos c3] at H
  have ar : decide (0 ≤ a8) = true :=decide_eq_true c3
  clear c3
  by_cases c4 : a8 < (y108.length : Int)
  ·rw [if_pos c4] at H
   have az : decide (a8 < (y108.length : Int)) = true :=decide_eq_true c4
   clear c4
   by_cases c5 : 0 ≤ (rd y108 a8)
   ·rw [if_pos c5] at H
    have bv :=eq_true c5
    have bu : decide (0 ≤ (rd y108 a8)) = true :=decide_eq_true c5
    clear c5
    by_cases c6 : (rd y108 a8 : Int).toNat ≤ 281474976710656
    ·rw [if_pos c6] at H
     have aW :=eq_true c6
     have bt : decide ((rd y108 a8 : Int).toNat ≤ 281474976710656) = true :=decide_eq_true c6
     clear c6
     obtain ⟨y114,hy114⟩ : ∃ y_ : List Int,y_ = (List.replicate (rd y108 a8 : Int).toNat 0) :=⟨_,rfl⟩
     replace H : (pp_Data.l0 k y114 0 a2 aq) = some (r1,r2) :=by first | (rw [hy114];with_reducible exact H) | (have H2_ :=(Option.bind_some _ _).symm.trans H;rw [hy114];with_reducible exact H2_) | (have H2_ :=(Option.bind_some _ _).symm.trans H;with_reducible exact H2_) | with_reducible exact H | (rw [hy114];exact H) | exact H
     have Ny114 :=AZ.mk hy114
     clear hy114
     have H' :=AZ.mk H
     clear H
     go_enter Tryz.func33,Tryz.ntmps33
     go_wp2_with (first | ((with_reducible refine gate_dst (N :=5) rfl ?_);refine Kd.R_lit (Kd.int .i64) _ 3 ?hg (N :=5) ?hd (xs :=([0,1,3,20,100] : List Int)) (inner :=[.int .i64 0,.int .i64 1,.int .i64 3,.int .i64 20,.int .i64 100]) (ok :=fun _ => True) (okp :=fun _ => True) ?hr ?hp (fun _ hk => hk) trivial (Below.refl _ _) (Nat.le_refl _) (by simp) ?_;(case hd => rfl);(case hg => rfl);(case hr => first | (go_simp;done) | (go_simp;rfl));(case hp => exact (Reps.one (show Kd.M (Kd.int .i64) _ _ _ 0 [.int .i64 0] from rfl) (Reps.one (show Kd.M (Kd.int .i64) _ _ _ 1 [.int .i64 1] from rfl) (Reps.one (show Kd.M (Kd.int .i64) _ _ _ 3 [.int .i64 3] from rfl) (Reps.one (show Kd.M (Kd.int .i64) _ _ _ 20 [.int .i64 20] from rfl) (Reps.one (show Kd.M (Kd.int .i64) _ _ _ 100 [.int .i64 100] from rfl) (Reps.none _ _)))))));intro v109 w7 aS hb hg_ hnew_;clear hg_ hnew_;(first | rw [← Ny108.out] at aS | (simp only [Int.reduceToNat] at aS;rw [← Ny108.out] at aS));have ae :=AZ.mk (Kd.R_lower aS (keep_size (w :=w) (g :=g) (row :=none) (by repeat (first | (with_reducible first | exact HK.out | apply KB.set_ | apply kpN | apply keep_drew | apply keep_alloc) | exact HK.out))));have ad :=AZ.mk (I6.below (by repeat (first | (with_reducible first | exact HI0.out | apply I6.alloc | apply I6.drewN | apply I6.drew | apply I6.set_1) | exact HI0.out)) hb);have ac :=AZ.mk (KB.trans (by repeat (first | (with_reducible first | exact HK.out | apply KB.set_ | apply kpN | apply keep_drew | apply keep_alloc) | exact HK.out)) (KB.of_below hb g none) (.inl rfl));have ab :=AZ.mk (below_step (by repeat (first | (with_reducible first | exact HB.out | apply bwa | apply pwN | apply bw1 | refine bws ?_ (I6.ge HI0.out)) | exact HB.out)) hb);clear HI0;clear HK;clear HB;have af :=ae;have HI0 :=ad;have HK :=ac;have HB :=ab;clear ae ad ac ab;clear hb aS) | ((with_reducible refine gate_callee (f :=31) rfl ?_);refine goesL_ (some 7) rfl rfl Tryz.func31 (by kernel_rfl) rfl #[.pointer (some ⟨g,0,none⟩),.int .i64 5] rfl (by (try simp only [List.map_toArray,List.map_cons,List.map_nil]);first | done | rfl | (simp only [List.length_drop,List.length_take];rfl)) ?_;(with_reducible refine (pp_Num.calls g a2 a3 5 a8 aq w0 _ ?side1 ?side2 A2.out).mono ?_);(case side1 => repeat (first | (with_reducible first | exact HI0.out | apply I6.alloc | apply I6.drewN | apply I6.drew | apply I6.set_1) | exact HI0.out));(case side2 => repeat (first | (with_reducible first | exact HB.out | apply bwa | apply pwN | apply bw1 | refine bws ?_ (I6.ge HI0.out)) | exact HB.out));rintro e w9 ⟨rfl,hi,hb,hk⟩;refine ⟨_,rfl,?_⟩;have ae :=AZ.mk (Kd.R_mono (Kd.R_keep (I6.apart (show I6 w0 _ g a2 a3 from by repeat (first | (with_reducible first | exact HI0.out | apply I6.alloc | apply I6.drewN | apply I6.drew | apply I6.set_1) | exact HI0.out)) (by (with_reducible repeat (first | apply Kd.R_alloc | apply Kd.R_drewN | apply Kd.R_drew));exact af.out) (by decide)) hk (fun _ h => h.2)) (fun _ h => h.1));have ad :=AZ.mk (KB.trans (by repeat (first | (with_reducible first | exact HK.out | apply KB.set_ | apply kpN | apply keep_drew | apply keep_alloc) | exact HK.out)) hk (.inl rfl));have ac :=AZ.mk (hb);have ab :=AZ.mk (hi);clear af;clear HK;clear HB;clear HI0;have af :=ae;have HK :=ad;have HB :=ac;have HI0 :=ab;clear ae ad ac ab;(try clear hb);(try clear hb2);(try clear hk);(try clear hi);obtain ⟨Ao10,co10,bm⟩ :=Kd.R_slice af.out;subst bm;have ax : 0 ≤ (a8 : Int) :=of_decide_eq_true (by first | (with_reducible assumption) | assumption);have aw : a8 < (y108.length : Int) :=of_decide_eq_true (by first | (with_reducible assumption) | assumption);obtain ⟨bB,bp,ay⟩ :=Kd.at_int (Kd.R_reads' af.out).2.2 a8 ax aw;cases bp;replace ax :=eq_true ax;replace aw :=eq_true aw) | ((with_reducible refine gate_dst (N :=10) rfl ?_);refine Kd.R_make (Kd.int .u8) _ 5 rfl (N :=10) rfl 22 _ _ rfl (rd y108 a8) rfl rfl Tryz.underlying22 (.int .u8 0) 1 info5 rfl (by decide) (by omega) 0 (ok :=fun _ => True) (okp :=fun _ => True) rfl (fun _ hk => hk) trivial (of_decide_eq_true (by first | (with_reducible assumption) | assumption)) (Nat.le_trans (Nat.mul_le_mul_right _ (of_decide_eq_true (by first | (with_reducible assumption) | assumption) : (rd y108 a8).toNat ≤ 281474976710656)) (by omega)) (Below.refl _ _) (Nat.le_refl _) ?_;intro v115 w11 au hb hg_ hnew_;clear hg_ hnew_;(first | rw [← Ny114.out] at au | (simp only [Int.reduceToNat] at au;rw [← Ny114.out] at au));have ae :=AZ.mk (Kd.R_below (by (with_reducible repeat (first | apply Kd.R_alloc | apply Kd.R_drewN | apply Kd.R_drew));exact af.out) hb);have ad :=AZ.mk (Kd.R_lower au (keep_size (w :=w) (g :=g) (row :=none) (by repeat (first | (with_reducible first | exact HK.out | apply KB.set_ | apply kpN | apply keep_drew | apply keep_alloc) | exact HK.out))));have ac :=AZ.mk (I6.below (by repeat (first | (with_reducible first | exact HI0.out | apply I6.alloc | apply I6.drewN | apply I6.drew | apply I6.set_1) | exact HI0.out)) hb);have ab :=AZ.mk (KB.trans (by repeat (first | (with_reducible first | exact HK.out | apply KB.set_ | apply kpN | apply keep_drew | apply keep_alloc) | exact HK.out)) (KB.of_below hb g none) (.inl rfl));have aR :=AZ.mk (below_step (by repeat (first | (with_reducible first | exact HB.out | apply bwa | apply pwN | apply bw1 | refine bws ?_ (I6.ge HI0.out)) | exact HB.out)) hb);clear af;clear HI0;clear HK;clear HB;have af :=ae;have aZ :=ad;have HI0 :=ac;have HK :=ab;have HB :=aR;clear ae ad ac ab aR;clear hb au))
     go_loopg [4] k (fun kq v4 w' => ∃ (ag : List Int) (a9 : Int),v4 = .int .i64 a9 ∧ AZ (pp_Data.l0 kq ag a9 a2 aq = some (r1,r2)) ∧ AZ (kq ≤ k) ∧ AZ (Kd.R (Kd.int .u8) 5 w' w.heap.size (fun _ => True) v115 ag) ∧ AZ (I6 w0 w' g a2 aq) ∧ AZ (KB w w' g none) ∧ AZ (Below w0.heap.size w0 w'))
     case atStart => exact ⟨(y114),(0),(by first | rfl | (simp;done) | (simp [*];done)),H',⟨Nat.le_refl _⟩,⟨by (with_reducible repeat (first | apply Kd.R_alloc | apply Kd.R_drewN | apply Kd.R_drew));exact aZ.out⟩,⟨by repeat (first | (with_reducible first | exact HI0.out | apply I6.alloc | apply I6.drewN | apply I6.drew | apply I6.set_1) | exact HI0.out)⟩,⟨by repeat (first | (with_reducible first | exact HK.out | apply KB.set_ | apply kpN | apply keep_drew | apply keep_alloc) | exact HK.out)⟩,⟨by repeat (first | (with_reducible first | exact HB.out | apply bwa | apply pwN | apply bw1 | refine bws ?_ (I6.ge HI0.out)) | exact HB.out)⟩⟩
     case round =>
      clear H'
      try clear p1
      try clear q1
      try clear hx1
      try clear p2
      try clear c3
      try clear ar
      try clear c4
      try clear az
      try clear c5
      try clear bv
      try clear bu
      try clear c6
      try clear aW
      try clear bt
      try clear p11
      try clear q11
      try clear hx11
      try clear ay
      try clear ax
      try clear aw
      obtain ⟨ag,a9,rfl,HA,HK1,ak,HI0,HK,HB⟩ :=hrel
      cases gk with
      | zero => exact absurd HA.out (by simp [pp_Data.l0])
      | succ k1 =>
       have H :=HA.out
       clear HA
       simp only [pp_Data.l0] at H
       by_cases c13 : a9 < (ag.length : Int)
       ·rw [if_pos c13] at H
        have aX : decide (a9 < (ag.length : Int)) = true :=decide_eq_true c13
        clear c13
        by_cases c14 : 0 ≤ a9
        ·rw [if_pos c14] at H
         have bx : decide (0 ≤ a9) = true :=decide_eq_true c14
         clear c14
         obtain ⟨y117,hy117⟩ : ∃ y_ : List Int,y_ = (ag.set (a9 : Int).toNat ((wrap64 ((wrap64 (a9 * 7)) + (ag.length : Int))) % 256)) :=⟨_,rfl⟩
         replace H : (pp_Data.l0 k1 y117 (wrap64 (a9 + 1)) a2 aq) = some (r1,r2) :=by first | (rw [hy117];with_reducible exact H) | (have H2_ :=(Option.bind_some _ _).symm.trans H;rw [hy117];with_reducible exact H2_) | (have H2_ :=(Option.bind_some _ _).symm.trans H;with_reducible exact H2_) | with_reducible exact H | (rw [hy117];exact H) | exact H
         have Ny117 :=AZ.mk hy117
         clear hy117
         have H' :=AZ.mk H
         clear H
         obtain ⟨Ao16,bs,bl⟩ :=Kd.R_slice ak.out
         subst bl
         have b6 : 0 ≤ (a9 : Int) :=of_decide_eq_true (by first | (with_reducible assumption) | assumption)
         have b5 : (a9 : Int) < ((ag.length : Int) : Int) :=of_decide_eq_true (by first | (with_reducible assumption) | assumption)
         obtain ⟨go15,co15,aV,aT,gl15,cl15,HG15⟩ :=Kd.R_form ak.out (by omega)
         (first | cases aV | (injection aV with ea_ en_ ec_;(first | subst ea_ | (injection ea_ with ea_;subst ea_));subst ec_;clear en_))
         have GB15 :=AZ.mk aT
         have GG15 :=AZ.mk HG15
         clear aT gl15 HG15
         obtain ⟨b7,hf15_0⟩ :=Kd.R_celln 0 ak.out (a9 : Int) b6 b5
         replace b6 :=eq_true b6
         replace b5 :=eq_true b5
         have HP17 :=Kd.R_putg ak.out (a9 : Int) ((wrap64 ((wrap64 (a9 * 7)) + (ag.length : Int))) % 256)
         go_wp2_with (first | ((with_reducible refine gate_store (t :=5) (p :=25) rfl ?_);refine store_event (t :=5) (p :=25) (v :=?vo_w18) (w1 :=(wr.setCell ⟨go15,(a9 : Int).toNat,none⟩ (.int .u8 ((wrap64 ((wrap64 (a9 * 7)) + (ag.length : Int))) % 256)))) ?hg ?ho ?hn ?hr ?_;(case ho => rfl);(case hg => rfl);(case hn => rfl);(case hr => first | (go_simp;done) | (go_simp;rfl));intro w18 hw;have hg : wr.grownBy w18 (some go15) :=(by rw [hw];exact HP17.2);have hp_ : Kd.R (Kd.int .u8) 5 w18 w.heap.size (fun _ => True) (.slice (some ⟨go15,0,none⟩) ag.length bs) y117 :=(by rw [hw,Ny117.out];exact HP17.1);clear HP17;have ae :=AZ.mk (hp_);have ad :=AZ.mk (I6.grown (by repeat (first | (with_reducible first | exact HI0.out | apply I6.alloc | apply I6.drewN | apply I6.drew | apply I6.set_1) | exact HI0.out)) hg (I6.own_ne HI0.out ak.out (by decide)));have ac :=AZ.mk ((by rw [hw];exact bws (HB.out) (Nat.le_trans HL.out GB15.out) : Below w0.heap.size w0 w18));have ab :=AZ.mk (KB.trans (by repeat (first | (with_reducible first | exact HK.out | apply KB.set_ | apply kpN | apply keep_drew | apply keep_alloc) | exact HK.out)) (KB.of_grown hg g) (Kd.R_base2 ak.out));clear ak;clear HI0;clear HB;clear HK;have ak :=ae;have HI0 :=ad;have HB :=ac;have HK :=ab;clear ae ad ac ab;clear hg hw hp_))
         go_roundg k1
         case measure => have :=HK1.out;omega
         case rel => exact ⟨(y117),(wrap64 (a9 + 1)),(by first | rfl | (simp;done) | (simp [*];done)),H',⟨by have :=HK1.out;omega⟩,⟨by (with_reducible repeat (first | apply Kd.R_alloc | apply Kd.R_drewN | apply Kd.R_drew));exact ak.out⟩,⟨by repeat (first | (with_reducible first | exact HI0.out | apply I6.alloc | apply I6.drewN | apply I6.drew | apply I6.set_1) | exact HI0.out)⟩,⟨by repeat (first | (with_reducible first | exact HK.out | apply KB.set_ | apply kpN | apply keep_drew | apply keep_alloc) | exact HK.out)⟩,⟨by repeat (first | (with_reducible first | exact HB.out | apply bwa | apply pwN | apply bw1 | refine bws ?_ (I6.ge HI0.out)) | exact HB.out)⟩⟩
        ·rw [if_neg c14] at H
         exact absurd H (by simp)
       ·rw [if_neg c13] at H
        have aX : decide (a9 < (ag.length : Int)) = false :=decide_eq_false c13
        clear c13
        simp only [Option.some.injEq,Prod.mk.injEq] at H
        obtain ⟨rfl,rfl⟩ :=H
        obtain ⟨Ao19,co19,bk⟩ :=Kd.R_slice ak.out
        subst bk
        go_wp2
        go_ret
        exact ⟨_,by first | rfl | (simp [errW_none,errW_some] <;> rfl) | (simp [*,errW_none,errW_some] <;> rfl),by (with_reducible repeat (first | apply Kd.R_alloc | apply Kd.R_drewN | apply Kd.R_drew));exact ak.out,by repeat (first | (with_reducible first | exact HI0.out | apply I6.alloc | apply I6.drewN | apply I6.drew | apply I6.set_1) | exact HI0.out),by repeat (first | (with_reducible first | exact HB.out | apply bwa | apply pwN | apply bw1 | refine bws ?_ (I6.ge HI0.out)) | exact HB.out),by repeat (first | (with_reducible first | exact HK.out | apply KB.set_ | apply kpN | apply keep_drew | apply keep_alloc) | exact HK.out)⟩
    ·rw [if_neg c6] at H
     exact absurd H (by simp)
   ·rw [if_neg c5] at H
    exact absurd H (by simp)
  ·rw [if_neg c4] at H
   exact absurd H (by simp)
 ·rw [if_neg c3] at H
  exact absurd H (by simp)
def pp_Kind.f (a2 : List Int) (a3 : Int) : Option (ByteArray × Int) :=(some (([(⟨#[109,97,100,101]⟩ : ByteArray),(⟨#[112,97,105,100]⟩ : ByteArray),(⟨#[120]⟩ : ByteArray)] : List ByteArray) : List ByteArray)).bind fun y118 => ((pp_Num.f a2 a3 3).bind fun a6 => (if 0 ≤ a6.1 then (if a6.1 < (y118.length : Int) then (some (rdOf ByteArray.empty y118 a6.1,a6.2)) else (none)) else (none)))
set_option maxHeartbeats 8000000 in
set_option maxRecDepth 100000 in
theorem pp_Kind.calls (g : Nat) (a2 : List Int) (a3 : Int) (r1 : ByteArray) (r2 : Int) (w0 w : World) (hI : I6 w0 w g a2 a3) (hB : Below w0.heap.size w0 w) (h : pp_Kind.f a2 a3 = some (r1,r2)) :
  Calls Tryz.prog 34 #[.pointer (some ⟨g,0,none⟩)] w fun e w' => e = .returned (.string r1) ∧ I6 w0 w' g a2 r2 ∧ Below w0.heap.size w0 w' ∧ KB w w' g none :=by
 have HI0 :=AZ.mk hI
 have HK :=AZ.mk (KB.refl w g none)
 have HL :=AZ.mk hB.size
 clear hI
 have HW0 :=AZ.mk hB.size
 have HB :=AZ.mk hB
 clear hB
 have H : ((some (([(⟨#[109,97,100,101]⟩ : ByteArray),(⟨#[112,97,105,100]⟩ : ByteArray),(⟨#[120]⟩ : ByteArray)] : List ByteArray) : List ByteArray)).bind fun y118 => ((pp_Num.f a2 a3 3).bind fun a6 => (if 0 ≤ a6.1 then (if a6.1 < (y118.length : Int) then (some (rdOf ByteArray.empty y118 a6.1,a6.2)) else (none)) else (none)))) = some (r1,r2) :=h
 clear h
 obtain ⟨y118,hy118⟩ : ∃ y_ : List ByteArray,y_ = (([(⟨#[109,97,100,101]⟩ : ByteArray),(⟨#[112,97,105,100]⟩ : ByteArray),(⟨#[120]⟩ : ByteArray)] : List ByteArray)) :=⟨_,rfl⟩
 replace H : ((pp_Num.f a2 a3 3).bind fun a6 => (if 0 ≤ a6.1 then (if a6.1 < (y118.length : Int) then (some (rdOf ByteArray.empty y118 a6.1,a6.2)) else (none)) else (none))) = some (r1,r2) :=by first | (rw [hy118];with_reducible exact H) | (have H2_ :=(Option.bind_some _ _).symm.trans H;rw [hy118];with_reducible exact H2_) | (have H2_ :=(Option.bind_some _ _).symm.trans H;with_reducible exact H2_) | with_reducible exact H | (rw [hy118];exact H) | exact H
 have Ny118 :=AZ.mk hy118
 clear hy118
 replace H :=Option.bind_eq_some_iff.mp H
 obtain ⟨⟨ai,aP⟩,av,H⟩ :=H
 replace H : (if 0 ≤ ai then (if ai < (y118.length : Int) then (some (rdOf ByteArray.empty y118 ai,aP)) else (none)) else (none)) = some (r1,r2) :=H
 have A2 :=AZ.mk av
 clear av
 by_cases c3 : 0 ≤ ai
 ·rw [if_pos c3] at H
  have ar : decide (0 ≤ ai) = true :=decide_eq_true c3
  clear c3
  by_cases c4 : ai < (y118.length : Int)
  ·rw [if_pos c4] at H
   have az : decide (ai < (y118.length : Int)) = true :=decide_eq_true c4
   clear c4
   simp only [Option.some.injEq,Prod.mk.injEq] at H
   obtain ⟨rfl,rfl⟩ :=H
   go_enter Tryz.func34,Tryz.ntmps34
   go_wp2_with (first | ((with_reducible refine gate_dst (N :=3) rfl ?_);refine Kd.R_lit Kd.string _ 9 ?hg (N :=3) ?hd (xs :=([(⟨#[109,97,100,101]⟩ : ByteArray),(⟨#[112,97,105,100]⟩ : ByteArray),(⟨#[120]⟩ : ByteArray)] : List ByteArray)) (inner :=[.string (⟨#[109,97,100,101]⟩ : ByteArray),.string (⟨#[112,97,105,100]⟩ : ByteArray),.string (⟨#[120]⟩ : ByteArray)]) (ok :=fun _ => True) (okp :=fun _ => True) ?hr ?hp (fun _ hk => hk) trivial (Below.refl _ _) (Nat.le_refl _) (by simp) ?_;(case hd => rfl);(case hg => rfl);(case hr => first | (go_simp;done) | (go_simp;rfl));(case hp => exact (Reps.one (show Kd.M Kd.string _ _ _ (⟨#[109,97,100,101]⟩ : ByteArray) [.string (⟨#[109,97,100,101]⟩ : ByteArray)] from rfl) (Reps.one (show Kd.M Kd.string _ _ _ (⟨#[112,97,105,100]⟩ : ByteArray) [.string (⟨#[112,97,105,100]⟩ : ByteArray)] from rfl) (Reps.one (show Kd.M Kd.string _ _ _ (⟨#[120]⟩ : ByteArray) [.string (⟨#[120]⟩ : ByteArray)] from rfl) (Reps.none _ _)))));intro v119 w5 al hb hg_ hnew_;clear hg_ hnew_;(first | rw [← Ny118.out] at al | (simp only [Int.reduceToNat] at al;rw [← Ny118.out] at al));have ae :=AZ.mk (Kd.R_lower al (keep_size (w :=w) (g :=g) (row :=none) (by repeat (first | (with_reducible first | exact HK.out | apply KB.set_ | apply kpN | apply keep_drew | apply keep_alloc) | exact HK.out))));have ad :=AZ.mk (I6.below (by repeat (first | (with_reducible first | exact HI0.out | apply I6.alloc | apply I6.drewN | apply I6.drew | apply I6.set_1) | exact HI0.out)) hb);have ac :=AZ.mk (KB.trans (by repeat (first | (with_reducible first | exact HK.out | apply KB.set_ | apply kpN | apply keep_drew | apply keep_alloc) | exact HK.out)) (KB.of_below hb g none) (.inl rfl));have ab :=AZ.mk (below_step (by repeat (first | (with_reducible first | exact HB.out | apply bwa | apply pwN | apply bw1 | refine bws ?_ (I6.ge HI0.out)) | exact HB.out)) hb);clear HI0;clear HK;clear HB;have an :=ae;have HI0 :=ad;have HK :=ac;have HB :=ab;clear ae ad ac ab;clear hb al) | ((with_reducible refine gate_callee (f :=31) rfl ?_);refine goesL_ (some 5) rfl rfl Tryz.func31 (by kernel_rfl) rfl #[.pointer (some ⟨g,0,none⟩),.int .i64 3] rfl (by (try simp only [List.map_toArray,List.map_cons,List.map_nil]);first | done | rfl | (simp only [List.length_drop,List.length_take];rfl)) ?_;(with_reducible refine (pp_Num.calls g a2 a3 3 ai aP w0 _ ?side1 ?side2 A2.out).mono ?_);(case side1 => repeat (first | (with_reducible first | exact HI0.out | apply I6.alloc | apply I6.drewN | apply I6.drew | apply I6.set_1) | exact HI0.out));(case side2 => repeat (first | (with_reducible first | exact HB.out | apply bwa | apply pwN | apply bw1 | refine bws ?_ (I6.ge HI0.out)) | exact HB.out));rintro e w7 ⟨rfl,hi,hb,hk⟩;refine ⟨_,rfl,?_⟩;have ae :=AZ.mk (Kd.R_mono (Kd.R_keep (I6.apart (show I6 w0 _ g a2 a3 from by repeat (first | (with_reducible first | exact HI0.out | apply I6.alloc | apply I6.drewN | apply I6.drew | apply I6.set_1) | exact HI0.out)) (by (with_reducible repeat (first | apply Kd.R_alloc | apply Kd.R_drewN | apply Kd.R_drew));exact an.out) (by decide)) hk (fun _ h => h.2)) (fun _ h => h.1));have ad :=AZ.mk (KB.trans (by repeat (first | (with_reducible first | exact HK.out | apply KB.set_ | apply kpN | apply keep_drew | apply keep_alloc) | exact HK.out)) hk (.inl rfl));have ac :=AZ.mk (hb);have ab :=AZ.mk (hi);clear an;clear HK;clear HB;clear HI0;have an :=ae;have HK :=ad;have HB :=ac;have HI0 :=ab;clear ae ad ac ab;(try clear hb);(try clear hb2);(try clear hk);(try clear hi);obtain ⟨bD,bw,aU⟩ :=Kd.R_slice an.out;subst aU;have aK : 0 ≤ (ai : Int) :=of_decide_eq_true (by first | (with_reducible assumption) | assumption);have aG : ai < (y118.length : Int) :=of_decide_eq_true (by first | (with_reducible assumption) | assumption);obtain ⟨bA,bo,b3⟩ :=Kd.at_string (Kd.R_reads' an.out).2.2 ai aK aG;cases bo;replace aK :=eq_true aK;replace aG :=eq_true aG))
   go_ret
   exact ⟨by first | rfl | (simp [errW_none,errW_some] <;> rfl) | (simp [*,errW_none,errW_some] <;> rfl),by repeat (first | (with_reducible first | exact HI0.out | apply I6.alloc | apply I6.drewN | apply I6.drew | apply I6.set_1) | exact HI0.out),by repeat (first | (with_reducible first | exact HB.out | apply bwa | apply pwN | apply bw1 | refine bws ?_ (I6.ge HI0.out)) | exact HB.out),by repeat (first | (with_reducible first | exact HK.out | apply KB.set_ | apply kpN | apply keep_drew | apply keep_alloc) | exact HK.out)⟩
  ·rw [if_neg c4] at H
   exact absurd H (by simp)
 ·rw [if_neg c3] at H
  exact absurd H (by simp)
def pp_at.f (a2 : List Int) (a3 : Int) : Option (Int × Int) :=(some (([0,1,2,3,5,8,13,100] : List Int) : List Int)).bind fun y124 => ((pp_Num.f a2 a3 8).bind fun a5 => (if 0 ≤ a5.1 then (if a5.1 < (y124.length : Int) then (some (rd y124 a5.1,a5.2)) else (none)) else (none)))
set_option maxHeartbeats 8000000 in
set_option maxRecDepth 100000 in
theorem pp_at.calls (g : Nat) (a2 : List Int) (a3 : Int) (r1 : Int) (r2 : Int) (w0 w : World) (hI : I6 w0 w g a2 a3) (hB : Below w0.heap.size w0 w) (h : pp_at.f a2 a3 = some (r1,r2)) :
  Calls Tryz.prog 30 #[.pointer (some ⟨g,0,none⟩)] w fun e w' => e = .returned (.int .i64 r1) ∧ I6 w0 w' g a2 r2 ∧ Below w0.heap.size w0 w' ∧ KB w w' g none :=by
 have HI0 :=AZ.mk hI
 have HK :=AZ.mk (KB.refl w g none)
 have HL :=AZ.mk hB.size
 clear hI
 have HW0 :=AZ.mk hB.size
 have HB :=AZ.mk hB
 clear hB
 have H : ((some (([0,1,2,3,5,8,13,100] : List Int) : List Int)).bind fun y124 => ((pp_Num.f a2 a3 8).bind fun a5 => (if 0 ≤ a5.1 then (if a5.1 < (y124.length : Int) then (some (rd y124 a5.1,a5.2)) else (none)) else (none)))) = some (r1,r2) :=h
 clear h
 obtain ⟨y124,hy124⟩ : ∃ y_ : List Int,y_ = (([0,1,2,3,5,8,13,100] : List Int)) :=⟨_,rfl⟩
 replace H : ((pp_Num.f a2 a3 8).bind fun a5 => (if 0 ≤ a5.1 then (if a5.1 < (y124.length : Int) then (some (rd y124 a5.1,a5.2)) else (none)) else (none))) = some (r1,r2) :=by first | (rw [hy124];with_reducible exact H) | (have H2_ :=(Option.bind_some _ _).symm.trans H;rw [hy124];with_reducible exact H2_) | (have H2_ :=(Option.bind_some _ _).symm.trans H;with_reducible exact H2_) | with_reducible exact H | (rw [hy124];exact H) | exact H
 have Ny124 :=AZ.mk hy124
 clear hy124
 replace H :=Option.bind_eq_some_iff.mp H
 obtain ⟨⟨ah,aO⟩,av,H⟩ :=H
 replace H : (if 0 ≤ ah then (if ah < (y124.length : Int) then (some (rd y124 ah,aO)) else (none)) else (none)) = some (r1,r2) :=H
 have A2 :=AZ.mk av
 clear av
 by_cases c3 : 0 ≤ ah
 ·rw [if_pos c3] at H
  have ar : decide (0 ≤ ah) = true :=decide_eq_true c3
  clear c3
  by_cases c4 : ah < (y124.length : Int)
  ·rw [if_pos c4] at H
   have az : decide (ah < (y124.length : Int)) = true :=decide_eq_true c4
   clear c4
   simp only [Option.some.injEq,Prod.mk.injEq] at H
   obtain ⟨rfl,rfl⟩ :=H
   go_enter Tryz.func30,Tryz.ntmps30
   go_wp2_with (first | ((with_reducible refine gate_dst (N :=3) rfl ?_);refine Kd.R_lit (Kd.int .i64) _ 2 ?hg (N :=3) ?hd (xs :=([0,1,2,3,5,8,13,100] : List Int)) (inner :=[.int .i64 0,.int .i64 1,.int .i64 2,.int .i64 3,.int .i64 5,.int .i64 8,.int .i64 13,.int .i64 100]) (ok :=fun _ => True) (okp :=fun _ => True) ?hr ?hp (fun _ hk => hk) trivial (Below.refl _ _) (Nat.le_refl _) (by simp) ?_;(case hd => rfl);(case hg => rfl);(case hr => first | (go_simp;done) | (go_simp;rfl));(case hp => exact (Reps.one (show Kd.M (Kd.int .i64) _ _ _ 0 [.int .i64 0] from rfl) (Reps.one (show Kd.M (Kd.int .i64) _ _ _ 1 [.int .i64 1] from rfl) (Reps.one (show Kd.M (Kd.int .i64) _ _ _ 2 [.int .i64 2] from rfl) (Reps.one (show Kd.M (Kd.int .i64) _ _ _ 3 [.int .i64 3] from rfl) (Reps.one (show Kd.M (Kd.int .i64) _ _ _ 5 [.int .i64 5] from rfl) (Reps.one (show Kd.M (Kd.int .i64) _ _ _ 8 [.int .i64 8] from rfl) (Reps.one (show Kd.M (Kd.int .i64) _ _ _ 13 [.int .i64 13] from rfl) (Reps.one (show Kd.M (Kd.int .i64) _ _ _ 100 [.int .i64 100] from rfl) (Reps.none _ _))))))))));intro v125 w5 al hb hg_ hnew_;clear hg_ hnew_;(first | rw [← Ny124.out] at al | (simp only [Int.reduceToNat] at al;rw [← Ny124.out] at al));have ae :=AZ.mk (Kd.R_lower al (keep_size (w :=w) (g :=g) (row :=none) (by repeat (first | (with_reducible first | exact HK.out | apply KB.set_ | apply kpN | apply keep_drew | apply keep_alloc) | exact HK.out))));have ad :=AZ.mk (I6.below (by repeat (first | (with_reducible first | exact HI0.out | apply I6.alloc | apply I6.drewN | apply I6.drew | apply I6.set_1) | exact HI0.out)) hb);have ac :=AZ.mk (KB.trans (by repeat (first | (with_reducible first | exact HK.out | apply KB.set_ | apply kpN | apply keep_drew | apply keep_alloc) | exact HK.out)) (KB.of_below hb g none) (.inl rfl));have ab :=AZ.mk (below_step (by repeat (first | (with_reducible first | exact HB.out | apply bwa | apply pwN | apply bw1 | refine bws ?_ (I6.ge HI0.out)) | exact HB.out)) hb);clear HI0;clear HK;clear HB;have am :=ae;have HI0 :=ad;have HK :=ac;have HB :=ab;clear ae ad ac ab;clear hb al) | ((with_reducible refine gate_callee (f :=31) rfl ?_);refine goesL_ (some 5) rfl rfl Tryz.func31 (by kernel_rfl) rfl #[.pointer (some ⟨g,0,none⟩),.int .i64 8] rfl (by (try simp only [List.map_toArray,List.map_cons,List.map_nil]);first | done | rfl | (simp only [List.length_drop,List.length_take];rfl)) ?_;(with_reducible refine (pp_Num.calls g a2 a3 8 ah aO w0 _ ?side1 ?side2 A2.out).mono ?_);(case side1 => repeat (first | (with_reducible first | exact HI0.out | apply I6.alloc | apply I6.drewN | apply I6.drew | apply I6.set_1) | exact HI0.out));(case side2 => repeat (first | (with_reducible first | exact HB.out | apply bwa | apply pwN | apply bw1 | refine bws ?_ (I6.ge HI0.out)) | exact HB.out));rintro e w7 ⟨rfl,hi,hb,hk⟩;refine ⟨_,rfl,?_⟩;have ae :=AZ.mk (Kd.R_mono (Kd.R_keep (I6.apart (show I6 w0 _ g a2 a3 from by repeat (first | (with_reducible first | exact HI0.out | apply I6.alloc | apply I6.drewN | apply I6.drew | apply I6.set_1) | exact HI0.out)) (by (with_reducible repeat (first | apply Kd.R_alloc | apply Kd.R_drewN | apply Kd.R_drew));exact am.out) (by decide)) hk (fun _ h => h.2)) (fun _ h => h.1));have ad :=AZ.mk (KB.trans (by repeat (first | (with_reducible first | exact HK.out | apply KB.set_ | apply kpN | apply keep_drew | apply keep_alloc) | exact HK.out)) hk (.inl rfl));have ac :=AZ.mk (hb);have ab :=AZ.mk (hi);clear am;clear HK;clear HB;clear HI0;have am :=ae;have HK :=ad;have HB :=ac;have HI0 :=ab;clear ae ad ac ab;(try clear hb);(try clear hb2);(try clear hk);(try clear hi);obtain ⟨bD,bw,aU⟩ :=Kd.R_slice am.out;subst aU;have aJ : 0 ≤ (ah : Int) :=of_decide_eq_true (by first | (with_reducible assumption) | assumption);have aF : ah < (y124.length : Int) :=of_decide_eq_true (by first | (with_reducible assumption) | assumption);obtain ⟨bz,bn,b2⟩ :=Kd.at_int (Kd.R_reads' am.out).2.2 ah aJ aF;cases bn;replace aJ :=eq_true aJ;replace aF :=eq_true aF))
   go_ret
   exact ⟨by first | rfl | (simp [errW_none,errW_some] <;> rfl) | (simp [*,errW_none,errW_some] <;> rfl),by repeat (first | (with_reducible first | exact HI0.out | apply I6.alloc | apply I6.drewN | apply I6.drew | apply I6.set_1) | exact HI0.out),by repeat (first | (with_reducible first | exact HB.out | apply bwa | apply pwN | apply bw1 | refine bws ?_ (I6.ge HI0.out)) | exact HB.out),by repeat (first | (with_reducible first | exact HK.out | apply KB.set_ | apply kpN | apply keep_drew | apply keep_alloc) | exact HK.out)⟩
  ·rw [if_neg c4] at H
   exact absurd H (by simp)
 ·rw [if_neg c3] at H
  exact absurd H (by simp)
def pp_Over.f (a2 : List Int) (a3 : Int) : Option (Bool × Int) :=some (decide (a3 ≥ (a2.length : Int)),a3)
set_option maxHeartbeats 8000000 in
set_option maxRecDepth 100000 in
theorem pp_Over.calls (g : Nat) (a2 : List Int) (a3 : Int) (r1 : Bool) (r2 : Int) (w0 w : World) (hI : I6 w0 w g a2 a3) (hB : Below w0.heap.size w0 w) (h : pp_Over.f a2 a3 = some (r1,r2)) :
  Calls Tryz.prog 20 #[.pointer (some ⟨g,0,none⟩)] w fun e w' => e = .returned (.bool r1) ∧ I6 w0 w' g a2 r2 ∧ Below w0.heap.size w0 w' ∧ KB w w' g none :=by
 have HI0 :=AZ.mk hI
 have HK :=AZ.mk (KB.refl w g none)
 have HL :=AZ.mk hB.size
 clear hI
 have HW0 :=AZ.mk hB.size
 have HB :=AZ.mk hB
 clear hB
 have H : (some (decide (a3 ≥ (a2.length : Int)),a3)) = some (r1,r2) :=h
 clear h
 simp only [Option.some.injEq,Prod.mk.injEq] at H
 obtain ⟨rfl,rfl⟩ :=H
 obtain ⟨ASz2_0,cSz2_0,aC,ba,HSz2_0⟩ :=HI0.out
 have bj :=cellS64_0 aC
 have bi :=cellS64_1 aC
 have bd :=bkz aC 1
 clear aC ba
 go_enter Tryz.func20,Tryz.ntmps20
 go_wp2
 repeat (go_quiet (fail);try go_wp2)
 go_ret
 exact ⟨by first | rfl | (simp [errW_none,errW_some] <;> rfl) | (simp [*,errW_none,errW_some] <;> rfl),by repeat (first | (with_reducible first | exact HI0.out | apply I6.alloc | apply I6.drewN | apply I6.drew | apply I6.set_1) | exact HI0.out),by repeat (first | (with_reducible first | exact HB.out | apply bwa | apply pwN | apply bw1 | refine bws ?_ (I6.ge HI0.out)) | exact HB.out),by repeat (first | (with_reducible first | exact HK.out | apply KB.set_ | apply kpN | apply keep_drew | apply keep_alloc) | exact HK.out)⟩
def pp_Made.f (l0 : List Int) : Option (List Int × Int) :=some (l0,0)
set_option maxHeartbeats 8000000 in
set_option maxRecDepth 100000 in
theorem pp_Made.calls (A0 : Option Addr) (c0 : Nat) (l0 : List Int) (r1 : List Int) (r2 : Int) (w0 w : World) (hB : Below w0.heap.size w0 w) (hr0 : Kd.C (Kd.int .u8) w0 A0 l0.length l0) (hc0 : l0.length ≤ c0) (h : pp_Made.f l0 = some (r1,r2)) :
  Calls Tryz.prog 9 #[.slice A0 l0.length c0] w fun e w' => ∃ g_ : Nat,e = .returned (.pointer (some ⟨g_,0,none⟩)) ∧ I6 w0 w' g_ r1 r2 ∧ Below w0.heap.size w0 w' ∧ Below w.heap.size w w' :=by
 have hu64 :=Tryz.underlying64
 have HR0 :=AZ.mk hr0
 have HC0 :=AZ.mk hc0
 clear hr0 hc0
 have HBW :=AZ.mk (Below.refl w.heap.size w)
 have HW0 :=AZ.mk hB.size
 have HB :=AZ.mk hB
 clear hB
 have H : (some (l0,0)) = some (r1,r2) :=h
 clear h
 simp only [Option.some.injEq,Prod.mk.injEq] at H
 obtain ⟨rfl,rfl⟩ :=H
 go_enter Tryz.func9,Tryz.ntmps9
 go_wp2_with (first | ((with_reducible refine gate_dst (N :=5) rfl ?_);refine box_event ?hg (N :=5) ?hd (cs :=#[.slice A0 l0.length c0,.int .i64 0]) (t :=64) ?hr ?_;(case hd => rfl);(case hg => rfl);(case hr => first | (go_simp;done) | (go_simp;rfl));intro ap hg w2 hbox hb;have ae :=AZ.mk (below_step HBW.out hb);have ad :=AZ.mk (below_step (by repeat (first | (with_reducible first | exact HB.out | apply bwa | apply pwN | apply bw1) | exact HB.out)) hb);have ac :=AZ.mk (hbox);have ab :=AZ.mk ((by rw [hg];exact (below_size (by repeat (first | (with_reducible first | exact HBW.out | apply bwa | apply pwN | apply bw1) | exact HBW.out))) : w.heap.size ≤ ap));have aR :=AZ.mk ((Nat.le_trans HW0.out (by rw [hg];exact (below_size (by repeat (first | (with_reducible first | exact HBW.out | apply bwa | apply pwN | apply bw1) | exact HBW.out))) : w.heap.size ≤ ap) : w0.heap.size ≤ ap));clear HBW;clear HB;have HBW :=ae;have HB :=ad;have b1 :=ac;have b0 :=ab;have aE :=aR;clear ae ad ac ab aR;clear hb hbox hg))
 go_ret
 exact ⟨_,rfl,(show I6 w0 _ ap l0 0 from ⟨_,_,by (with_reducible repeat (first | refine bkN ?_ _ | refine bkd ?_ | refine bka ?_ _));exact b1.out,aE.out,HR0.out⟩),by repeat (first | (with_reducible first | exact HB.out | apply bwa | apply pwN | apply bw1 | refine bws ?_ aE.out) | exact HB.out),by repeat (first | (with_reducible first | exact HBW.out | apply bwa | apply pwN | apply bw1 | refine bws ?_ b0.out) | exact HBW.out)⟩
end Go.Proofs.YtlafgnanfkhobaaGreatDoor.P2
