-- Written for this claim by a program, out of the translation.
import Derived.Test.YtfelkchmeiijfaaQ0
namespace Go.Proofs.Ytfelkchmeiijfaa.P2
open Go.RowKit Go.Proofs.YtfelkchmeiijfaaW.PrintWords Go.Proofs.YtfelkchmeiijfaaW.PrintLast Go.Proofs.YtfelkchmeiijfaaW.PrintMore
attribute [local go_sem] max2_int min2_int max_two min_two max_three min_three max_four min_four
set_option linter.unusedVariables false
set_option linter.unusedSimpArgs false
/-! ### pandectlaw17_begun: function 4 -/
def pandectlaw17_begun.f : Option (Bool) :=some true
theorem pandectlaw17_begun.calls (r : Bool) (w : World) (h : pandectlaw17_begun.f = some r) : Calls Try.prog 4 #[] w fun e w' => e = .returned (.bool r) ∧ Below w.heap.size w w' :=by cases h;exact Go.Proofs.Ytfelkchmeiijfaa.begun_true w
/-- A state of type 56 at block g of W; what its slices lead to came in by w0. -/
def IsS56 (w0 W : World) (g : Nat) (f0 : List Int) (f1 : Int) : Prop :=∃ A0 c0,W.heap[g]? = some (.cells #[.slice A0 f0.length c0,.int .i64 f1] 56 (0,0)) ∧ w0.heap.size ≤ g ∧ Kd.C (Kd.int .u8) w0 A0 f0.length f0
theorem IsS56.grown {w0 W : World} {g : Nat} {f0 : List Int} {f1 : Int} {W1 : World} {row : Option Nat} (h : IsS56 w0 W g f0 f1) (hw : W.grownBy W1 row) (hne : some g ≠ row) : IsS56 w0 W1 g f0 f1 :=by
 obtain ⟨A0,c0,hb,hg,hr0⟩ :=h
 exact ⟨A0,c0,blk_grown hb hw hne,hg,hr0⟩
theorem IsS56.own_neN {w0 W : World} {g : Nat} {f0 : List Int} {f1 : Int} {α : Type} {d : Kd α} {e : Nat} {base : Nat} {ok : Nat → Prop} {v : Value} {xs : List α} (h : IsS56 w0 W g f0 f1) (ho : Kd.N d e W base ok v xs) (ht : e ≠ 56) : some g ≠ v.ownBlock :=by
 obtain ⟨A0,c0,hb,hg,hr0⟩ :=h
 exact Kd.N_ne ho hb ht
theorem IsS56.fresh {w0 W : World} {g : Nat} {f0 : List Int} {f1 : Int} (h : IsS56 w0 W g f0 f1) : ∀ k,W.heap.size ≤ k → k ≠ g :=by
 obtain ⟨A0,c0,hb,hg,hr0⟩ :=h
 exact Kd.freshB hb
theorem IsS56.kept {w0 W : World} {g : Nat} {f0 : List Int} {f1 : Int} {W1 : World} {S : Nat → Prop} (h : IsS56 w0 W g f0 f1) (hk : Kept W W1 S) (hne : ¬ S g) : IsS56 w0 W1 g f0 f1 :=by
 obtain ⟨A0,c0,hb,hg,hr0⟩ :=h
 exact ⟨A0,c0,blk_kept hb hk hne,hg,hr0⟩
theorem IsS56.below {w0 W : World} {g : Nat} {f0 : List Int} {f1 : Int} {W1 : World} (h : IsS56 w0 W g f0 f1) (hw : Below W.heap.size W W1) : IsS56 w0 W1 g f0 f1 :=h.grown (grown_of_below hw none) (by simp)
theorem IsS56.alloc {w0 W : World} {g : Nat} {f0 : List Int} {f1 : Int} (h : IsS56 w0 W g f0 f1) (o : Obj) : IsS56 w0 (W.alloc o) g f0 f1 :=h.below (below_alloc (Below.refl _ _) o)
theorem IsS56.drewN {w0 W : World} {g : Nat} {f0 : List Int} {f1 : Int} (h : IsS56 w0 W g f0 f1) (m : Nat) : IsS56 w0 (W.drewN m) g f0 f1 :=h
theorem IsS56.drew {w0 W : World} {g : Nat} {f0 : List Int} {f1 : Int} (h : IsS56 w0 W g f0 f1) : IsS56 w0 W.drew g f0 f1 :=h
theorem IsS56.at_ {w0 W : World} {g : Nat} {f0 : List Int} {f1 : Int} {w' : World} {m : Nat} (hq : W.drewN m = w') (h : IsS56 w0 W g f0 f1) : IsS56 w0 w' g f0 f1 :=by subst hq;exact IsS56.drewN h m
theorem IsS56.apart {w0 W : World} {g : Nat} {f0 : List Int} {f1 : Int} {α : Type} {d : Kd α} {e : Nat} {base : Nat} {ok : Nat → Prop} {v : Value} {xs : List α} (h : IsS56 w0 W g f0 f1) (ho : d.R e W base ok v xs) (ht : ∀ q,q ∈ e :: d.E → q ≠ 56) : d.R e W base (fun k => ok k ∧ k ≠ g) v xs :=by
 obtain ⟨A0,c0,hb,hg,hr0⟩ :=h
 exact Kd.R_types ho hb ht
theorem IsS56.own_ne {w0 W : World} {g : Nat} {f0 : List Int} {f1 : Int} {α : Type} {d : Kd α} {e : Nat} {base : Nat} {ok : Nat → Prop} {v : Value} {xs : List α} (h : IsS56 w0 W g f0 f1) (ho : d.R e W base ok v xs) (ht : e ≠ 56) : some g ≠ v.ownBlock :=by
 obtain ⟨A0,c0,hb,hg,hr0⟩ :=h
 exact Kd.R_ne ho hb ht
theorem IsS56.apartQ {w0 W : World} {g : Nat} {f0 : List Int} {f1 : Int} {α : Type} {d : Kd α} {e : Nat} {base : Nat} {ok : Nat → Prop} {v : Value} {xs : List α} (h : IsS56 w0 W g f0 f1) (ho : d.Q e W base ok v xs) (ht : ∀ q,q ∈ e :: d.E → q ≠ 56) : d.Q e W base (fun k => ok k ∧ k ≠ g) v xs :=by
 obtain ⟨A0,c0,hb,hg,hr0⟩ :=h
 exact Kd.Q_types ho hb ht
theorem IsS56.own_neQ {w0 W : World} {g : Nat} {f0 : List Int} {f1 : Int} {α : Type} {d : Kd α} {e : Nat} {base : Nat} {ok : Nat → Prop} {v : Value} {xs : List α} (h : IsS56 w0 W g f0 f1) (ho : d.Q e W base ok v xs) (ht : e ≠ 56) : some g ≠ v.ownBlock :=by
 obtain ⟨A0,c0,hb,hg,hr0⟩ :=h
 exact Kd.Q_ne ho hb ht
theorem IsS56.apartS {w0 W : World} {g : Nat} {f0 : List Int} {f1 : Int} {α : Type} {d : Kd α} {e : Nat} {base : Nat} {ok : Nat → Prop} {v : Value} {xs : List α} (h : IsS56 w0 W g f0 f1) (ho : d.S e W base ok v xs) (ht : ∀ q,q ∈ e :: d.E → q ≠ 56) : d.S e W base (fun k => ok k ∧ k ≠ g) v xs :=by
 obtain ⟨A0,c0,hb,hg,hr0⟩ :=h
 exact Kd.S_types ho hb ht
theorem IsS56.own_neS {w0 W : World} {g : Nat} {f0 : List Int} {f1 : Int} {α : Type} {d : Kd α} {e : Nat} {base : Nat} {ok : Nat → Prop} {v : Value} {xs : List α} (h : IsS56 w0 W g f0 f1) (ho : d.S e W base ok v xs) (ht : e ≠ 56) : some g ≠ v.ownBlock :=by
 obtain ⟨A0,c0,hb,hg,hr0⟩ :=h
 exact Kd.S_ne ho hb ht
theorem IsS56.lt {w0 W : World} {g : Nat} {f0 : List Int} {f1 : Int} (h : IsS56 w0 W g f0 f1) : g < W.heap.size :=by
 obtain ⟨A0,c0,hb,hg,hr0⟩ :=h
 exact blk_lt hb
theorem IsS56.ge {w0 W : World} {g : Nat} {f0 : List Int} {f1 : Int} (h : IsS56 w0 W g f0 f1) : w0.heap.size ≤ g :=by
 obtain ⟨A0,c0,hb,hg,hr0⟩ :=h
 exact hg
theorem IsS56.ne_blk {w0 W : World} {g : Nat} {f0 : List Int} {f1 : Int} {a : Nat} {cs : Array Value} {t : TypeId} {fr : Nat × Nat} (h : IsS56 w0 W g f0 f1) (hb2 : W.heap[a]? = some (.cells cs t fr)) (ht : t ≠ 56) : g ≠ a :=by
 obtain ⟨A0,c0,hb,hg,hr0⟩ :=h
 rintro rfl
 rw [hb] at hb2
 injection hb2 with hb2
 injection hb2 with _ ht2
 exact ht ht2.symm
theorem IsS56.far {w0 W : World} {g : Nat} {f0 : List Int} {f1 : Int} {p : Addr} (h : IsS56 w0 W g f0 f1) (hne : g ≠ p.block) (u : Value) : IsS56 w0 (W.setCell p u) g f0 f1 :=by
 obtain ⟨A0,c0,hb,hg,hr0⟩ :=h
 exact ⟨A0,c0,blk_far hb hne u,hg,hr0⟩
theorem cellS56_0 {W : World} {g : Nat} {A0 : Option Addr} {c0 : Nat} {f0 : List Int} {f1 : Int} (h : W.heap[g]? = some (.cells #[.slice A0 f0.length c0,.int .i64 f1] 56 (0,0))) : W.cell? ⟨g,0,none⟩ = some (.slice A0 f0.length c0) :=(blk_cell h 0).trans rfl
theorem cellS56_1 {W : World} {g : Nat} {A0 : Option Addr} {c0 : Nat} {f0 : List Int} {f1 : Int} (h : W.heap[g]? = some (.cells #[.slice A0 f0.length c0,.int .i64 f1] 56 (0,0))) : W.cell? ⟨g,1,none⟩ = some (.int .i64 f1) :=(blk_cell h 1).trans rfl
theorem IsS56.set_1 {w0 W : World} {g : Nat} {f0 : List Int} {f1 : Int} (h : IsS56 w0 W g f0 f1) (x : Int) : IsS56 w0 (W.setCell ⟨g,1,none⟩ (.int .i64 x)) g f0 x :=by
 obtain ⟨A0,c0,hb,hg,hr0⟩ :=h
 exact ⟨A0,c0,by simpa using blk_set hb 1 (.int .i64 x),hg,hr0⟩
theorem IsS56.new (w0 W : World) (A0 : Option Addr) (c0 : Nat) (f0 : List Int) (f1 : Int) (hB : Below w0.heap.size w0 W) (hr0 : Kd.C (Kd.int .u8) w0 A0 f0.length f0) : IsS56 w0 (W.alloc (.cells #[.slice A0 f0.length c0,.int .i64 f1] 56)) W.heap.size f0 f1 :=⟨A0,c0,by simpa using heap_alloc_new W _,hB.size,hr0⟩
/-! ### pandectplay_Made: function 5 -/
def pandectplay_Made.f (l0 : List Int) : Option (List Int × Int) :=some (l0,0)
set_option maxHeartbeats 8000000 in
set_option maxRecDepth 100000 in
theorem pandectplay_Made.calls (A0 : Option Addr) (c0 : Nat) (l0 : List Int) (r1 : List Int) (r2 : Int) (w0 w : World) (hB : Below w0.heap.size w0 w) (hr0 : Kd.C (Kd.int .u8) w0 A0 l0.length l0) (hc0 : l0.length ≤ c0) (h : pandectplay_Made.f l0 = some (r1,r2)) :
  Calls Try.prog 5 #[.slice A0 l0.length c0] w fun e w' => ∃ g_ : Nat,e = .returned (.pointer (some ⟨g_,0,none⟩)) ∧ IsS56 w0 w' g_ r1 r2 ∧ Below w0.heap.size w0 w' ∧ Below w.heap.size w w' :=by
 have hu56 :=Try.underlying56
 have HR0 :=Aside0.mk hr0
 have HC0 :=Aside0.mk hc0
 clear hr0 hc0
 have HBW :=Aside0.mk (Below.refl w.heap.size w)
 have HW0 :=Aside0.mk hB.size
 have HB :=Aside0.mk hB
 clear hB
 have H : (some (l0,0)) = some (r1,r2) :=h
 clear h
 simp only [Option.some.injEq,Prod.mk.injEq] at H
 obtain ⟨rfl,rfl⟩ :=H
 go_enter Try.func5,Try.ntmps5
 go_wp2_with (first | ((with_reducible refine gate_dst (N :=5) rfl ?_);refine box_event ?hg (N :=5) ?hd (cs :=#[.slice A0 l0.length c0,.int .i64 0]) (t :=56) ?hr ?_;(case hd => rfl);(case hg => rfl);(case hr => first | (go_simp;done) | (go_simp;rfl));intro gb101 hg w2 hbox hb;have n0_ :=Aside0.mk (below_step HBW.out hb);have n1_ :=Aside0.mk (below_step (by repeat (first | (with_reducible first | exact HB.out | apply below_alloc | apply pw_below_drewN | apply below_drew1) | exact HB.out)) hb);have n2_ :=Aside0.mk (hbox);have n3_ :=Aside0.mk ((by rw [hg];exact (below_size (by repeat (first | (with_reducible first | exact HBW.out | apply below_alloc | apply pw_below_drewN | apply below_drew1) | exact HBW.out))) : w.heap.size ≤ gb101));have n4_ :=Aside0.mk ((Nat.le_trans HW0.out (by rw [hg];exact (below_size (by repeat (first | (with_reducible first | exact HBW.out | apply below_alloc | apply pw_below_drewN | apply below_drew1) | exact HBW.out))) : w.heap.size ≤ gb101) : w0.heap.size ≤ gb101));clear HBW;clear HB;have HBW :=n0_;have HB :=n1_;have BK101 :=n2_;have GW101 :=n3_;have GE101 :=n4_;clear n0_ n1_ n2_ n3_ n4_;clear hb hbox hg))
 go_ret
 exact ⟨_,rfl,(show IsS56 w0 _ gb101 l0 0 from ⟨_,_,by (with_reducible repeat (first | refine blk_drewN ?_ _ | refine blk_drew ?_ | refine blk_alloc ?_ _));exact BK101.out,GE101.out,HR0.out⟩),by repeat (first | (with_reducible first | exact HB.out | apply below_alloc | apply pw_below_drewN | apply below_drew1 | refine below_set ?_ GE101.out) | exact HB.out),by repeat (first | (with_reducible first | exact HBW.out | apply below_alloc | apply pw_below_drewN | apply below_drew1 | refine below_set ?_ GW101.out) | exact HBW.out)⟩
/-! ### pandectplay_Picks_Num: function 10 -/
def pandectplay_Picks_Num.f (s0_0 : List Int) (s0_1 : Int) (a1 : Int) : Option (Int × Int) :=if s0_1 ≥ (s0_0.length : Int) then (some (0,s0_1)) else (if 0 ≤ (wrap64 ((wrap64 (s0_1 + 1)) - 1)) then (if (wrap64 ((wrap64 (s0_1 + 1)) - 1)) < (s0_0.length : Int) then (if a1 = 0 then (none) else (some (Int.tmod (wrap64 (rd s0_0 (wrap64 ((wrap64 (s0_1 + 1)) - 1)))) a1,wrap64 (s0_1 + 1)))) else (none)) else (none))
set_option maxHeartbeats 8000000 in
set_option maxRecDepth 100000 in
theorem pandectplay_Picks_Num.calls (g : Nat) (s0_0 : List Int) (s0_1 : Int) (a1 : Int) (r1 : Int) (r2 : Int) (w0 w : World) (hI : IsS56 w0 w g s0_0 s0_1) (hB : Below w0.heap.size w0 w) (h : pandectplay_Picks_Num.f s0_0 s0_1 a1 = some (r1,r2)) :
  Calls Try.prog 10 #[.pointer (some ⟨g,0,none⟩),.int .i64 a1] w fun e w' => e = .returned (.int .i64 r1) ∧ IsS56 w0 w' g s0_0 r2 ∧ Below w0.heap.size w0 w' ∧ KeepBut w w' g none :=by
 have HI0 :=Aside0.mk hI
 have HK :=Aside0.mk (KeepBut.refl w g none)
 have HL :=Aside0.mk hB.size
 clear hI
 have HW0 :=Aside0.mk hB.size
 have HB :=Aside0.mk hB
 clear hB
 have H : (if s0_1 ≥ (s0_0.length : Int) then (some (0,s0_1)) else (if 0 ≤ (wrap64 ((wrap64 (s0_1 + 1)) - 1)) then (if (wrap64 ((wrap64 (s0_1 + 1)) - 1)) < (s0_0.length : Int) then (if a1 = 0 then (none) else (some (Int.tmod (wrap64 (rd s0_0 (wrap64 ((wrap64 (s0_1 + 1)) - 1)))) a1,wrap64 (s0_1 + 1)))) else (none)) else (none))) = some (r1,r2) :=h
 clear h
 by_cases c3 : s0_1 ≥ (s0_0.length : Int)
 ·rw [if_pos c3] at H
  have c3b0 : decide ((s0_0.length : Int) ≤ s0_1) = true :=decide_eq_true c3
  clear c3
  simp only [Option.some.injEq,Prod.mk.injEq] at H
  obtain ⟨rfl,rfl⟩ :=H
  obtain ⟨ASz4_0,cSz4_0,HGz4,hgz4,HSz4_0⟩ :=HI0.out
  have hcz4_0 :=cellS56_0 HGz4
  have hcz4_1 :=cellS56_1 HGz4
  have hfz4_1 :=blk_frozen HGz4 1
  clear HGz4 hgz4
  go_enter Try.func10,Try.ntmps10
  go_wp2
  repeat (go_quiet (fail);try go_wp2)
  go_ret
  exact ⟨by first | rfl | (simp [errW_none,errW_some] <;> rfl) | (simp [*,errW_none,errW_some] <;> rfl),by repeat (first | (with_reducible first | exact HI0.out | apply IsS56.alloc | apply IsS56.drewN | apply IsS56.drew | apply IsS56.set_1) | exact HI0.out),by repeat (first | (with_reducible first | exact HB.out | apply below_alloc | apply pw_below_drewN | apply below_drew1 | refine below_set ?_ (IsS56.ge HI0.out)) | exact HB.out),by repeat (first | (with_reducible first | exact HK.out | apply KeepBut.set_ | apply keep_drewN | apply keep_drew | apply keep_alloc) | exact HK.out)⟩
 ·rw [if_neg c3] at H
  have c3b0 : decide ((s0_0.length : Int) ≤ s0_1) = false :=decide_eq_false c3
  clear c3
  obtain ⟨ji5,hji5⟩ : ∃ j_ : Int,(wrap64 ((wrap64 (s0_1 + 1)) - 1)) = j_ :=⟨_,rfl⟩
  replace H : (if 0 ≤ (ji5) then (if (ji5) < (s0_0.length : Int) then (if a1 = 0 then (none) else (some (Int.tmod (wrap64 (rd s0_0 (ji5))) a1,wrap64 (s0_1 + 1)))) else (none)) else (none)) = some (r1,r2) :=by first | (rw [hji5] at H;exact H) | (simp only [hji5] at H ⊢;exact H)
  have hji5w : (IntKind.i64.wrap ((wrap64 (s0_1 + 1)) - 1)) = ji5 :=(i64_w _).trans hji5
  by_cases c6 : 0 ≤ (ji5)
  ·rw [if_pos c6] at H
   have c6b0 : decide (0 ≤ (ji5)) = true :=decide_eq_true c6
   clear c6
   by_cases c7 : (ji5) < (s0_0.length : Int)
   ·rw [if_pos c7] at H
    have c7b0 : decide ((ji5) < (s0_0.length : Int)) = true :=decide_eq_true c7
    clear c7
    by_cases c8 : a1 = 0
    ·rw [if_pos c8] at H
     exact absurd H (by simp)
    ·rw [if_neg c8] at H
     have c8b0 : (a1 == 0) = false :=beq_eq_false_iff_ne.mpr c8
     have c8b1 : (a1 != 0) = true :=bne_iff_ne.mpr c8
     simp only [Option.some.injEq,Prod.mk.injEq] at H
     obtain ⟨rfl,rfl⟩ :=H
     obtain ⟨ASz9_0,cSz9_0,HGz9,hgz9,HSz9_0⟩ :=HI0.out
     have hcz9_0 :=cellS56_0 HGz9
     have hcz9_1 :=cellS56_1 HGz9
     have hfz9_1 :=blk_frozen HGz9 1
     clear HGz9 hgz9
     have p102 : 0 ≤ ((ji5) : Int) :=of_decide_eq_true (by first | (with_reducible assumption) | assumption)
     have q102 : (ji5) < (s0_0.length : Int) :=of_decide_eq_true (by first | (with_reducible assumption) | assumption)
     obtain ⟨ad102,e102,hx102_0⟩ :=Kd.at_int HSz9_0 (ji5) p102 q102
     cases e102
     have hn102_0 : ad102.block ≠ g :=Nat.ne_of_lt (Nat.lt_of_lt_of_le (by have :=World.block_lt_of_cell? _ _ hx102_0;first | rwa [add_block] at this | exact this) (IsS56.ge HI0.out))
     replace hx102_0 :=pw_cell_below HB.out hx102_0
     replace hx102_0 :=(cell_far (p :=⟨g,1,none⟩) (by first | (rw [add_block];exact hn102_0) | (show (Addr.add _ _).block ≠ _;rw [add_block];exact hn102_0) | exact hn102_0) (.int .i64 (wrap64 (s0_1 + 1)))).trans hx102_0
     (try have hy102_0 :=fun (n_ : Nat) => (show (((w.drewN n_).setCell ⟨g,1,none⟩ (.int .i64 (wrap64 (s0_1 + 1))))).cell? _ = some _ from hx102_0))
     clear hn102_0
     replace p102 :=eq_true p102
     replace q102 :=eq_true q102
     go_enter Try.func10,Try.ntmps10
     go_wp2
     repeat (go_quiet (fail);try go_wp2)
     go_ret
     exact ⟨by first | rfl | (simp [errW_none,errW_some] <;> rfl) | (simp only [← hji5];first | rfl | (simp [errW_none,errW_some] <;> rfl)) | (simp [*,errW_none,errW_some] <;> rfl),by repeat (first | (with_reducible first | exact HI0.out | apply IsS56.alloc | apply IsS56.drewN | apply IsS56.drew | apply IsS56.set_1) | exact HI0.out),by repeat (first | (with_reducible first | exact HB.out | apply below_alloc | apply pw_below_drewN | apply below_drew1 | refine below_set ?_ (IsS56.ge HI0.out)) | exact HB.out),by repeat (first | (with_reducible first | exact HK.out | apply KeepBut.set_ | apply keep_drewN | apply keep_drew | apply keep_alloc) | exact HK.out)⟩
   ·rw [if_neg c7] at H
    exact absurd H (by simp)
  ·rw [if_neg c6] at H
   exact absurd H (by simp)
/-! ### pandectplay_Picks_Name: function 11 -/
def pandectplay_Picks_Name.f (s0_0 : List Int) (s0_1 : Int) : Option (ByteArray × Int) :=(some (([(⟨#[97]⟩ : ByteArray),(⟨#[98]⟩ : ByteArray),(⟨#[97,98]⟩ : ByteArray),(⟨#[99]⟩ : ByteArray),(⟨#[97,33]⟩ : ByteArray),(⟨#[115,116,114,101,97,109,45,111,102,45,49,54,45,98,121,116]⟩ : ByteArray)] : List ByteArray) : List ByteArray)).bind fun y103 => ((pandectplay_Picks_Num.f s0_0 s0_1 6).bind fun bt106 => (if 0 ≤ bt106.1 then (if bt106.1 < (y103.length : Int) then (some (rdOf ByteArray.empty y103 bt106.1,bt106.2)) else (none)) else (none)))
set_option maxHeartbeats 8000000 in
set_option maxRecDepth 100000 in
theorem pandectplay_Picks_Name.calls (g : Nat) (s0_0 : List Int) (s0_1 : Int) (r1 : ByteArray) (r2 : Int) (w0 w : World) (hI : IsS56 w0 w g s0_0 s0_1) (hB : Below w0.heap.size w0 w) (h : pandectplay_Picks_Name.f s0_0 s0_1 = some (r1,r2)) :
  Calls Try.prog 11 #[.pointer (some ⟨g,0,none⟩)] w fun e w' => e = .returned (.string r1) ∧ IsS56 w0 w' g s0_0 r2 ∧ Below w0.heap.size w0 w' ∧ KeepBut w w' g none :=by
 have HI0 :=Aside0.mk hI
 have HK :=Aside0.mk (KeepBut.refl w g none)
 have HL :=Aside0.mk hB.size
 clear hI
 have HW0 :=Aside0.mk hB.size
 have HB :=Aside0.mk hB
 clear hB
 have H : ((some (([(⟨#[97]⟩ : ByteArray),(⟨#[98]⟩ : ByteArray),(⟨#[97,98]⟩ : ByteArray),(⟨#[99]⟩ : ByteArray),(⟨#[97,33]⟩ : ByteArray),(⟨#[115,116,114,101,97,109,45,111,102,45,49,54,45,98,121,116]⟩ : ByteArray)] : List ByteArray) : List ByteArray)).bind fun y103 => ((pandectplay_Picks_Num.f s0_0 s0_1 6).bind fun bt106 => (if 0 ≤ bt106.1 then (if bt106.1 < (y103.length : Int) then (some (rdOf ByteArray.empty y103 bt106.1,bt106.2)) else (none)) else (none)))) = some (r1,r2) :=h
 clear h
 obtain ⟨y103,hy103⟩ : ∃ y_ : List ByteArray,y_ = (([(⟨#[97]⟩ : ByteArray),(⟨#[98]⟩ : ByteArray),(⟨#[97,98]⟩ : ByteArray),(⟨#[99]⟩ : ByteArray),(⟨#[97,33]⟩ : ByteArray),(⟨#[115,116,114,101,97,109,45,111,102,45,49,54,45,98,121,116]⟩ : ByteArray)] : List ByteArray)) :=⟨_,rfl⟩
 replace H : ((pandectplay_Picks_Num.f s0_0 s0_1 6).bind fun bt106 => (if 0 ≤ bt106.1 then (if bt106.1 < (y103.length : Int) then (some (rdOf ByteArray.empty y103 bt106.1,bt106.2)) else (none)) else (none))) = some (r1,r2) :=by first | (rw [hy103];with_reducible exact H) | (have H2_ :=(Option.bind_some _ _).symm.trans H;rw [hy103];with_reducible exact H2_) | (have H2_ :=(Option.bind_some _ _).symm.trans H;with_reducible exact H2_) | with_reducible exact H | (rw [hy103];exact H) | exact H
 have Ny103 :=Aside0.mk hy103
 clear hy103
 replace H :=Option.bind_eq_some_iff.mp H
 obtain ⟨⟨t106,t107⟩,A20,H⟩ :=H
 replace H : (if 0 ≤ t106 then (if t106 < (y103.length : Int) then (some (rdOf ByteArray.empty y103 t106,t107)) else (none)) else (none)) = some (r1,r2) :=H
 have A2 :=Aside0.mk A20
 clear A20
 by_cases c3 : 0 ≤ t106
 ·rw [if_pos c3] at H
  have c3b0 : decide (0 ≤ t106) = true :=decide_eq_true c3
  clear c3
  by_cases c4 : t106 < (y103.length : Int)
  ·rw [if_pos c4] at H
   have c4b0 : decide (t106 < (y103.length : Int)) = true :=decide_eq_true c4
   clear c4
   simp only [Option.some.injEq,Prod.mk.injEq] at H
   obtain ⟨rfl,rfl⟩ :=H
   go_enter Try.func11,Try.ntmps11
   go_wp2_with (first | ((with_reducible refine gate_dst (N :=3) rfl ?_);refine Kd.R_lit Kd.string _ 9 ?hg (N :=3) ?hd (xs :=([(⟨#[97]⟩ : ByteArray),(⟨#[98]⟩ : ByteArray),(⟨#[97,98]⟩ : ByteArray),(⟨#[99]⟩ : ByteArray),(⟨#[97,33]⟩ : ByteArray),(⟨#[115,116,114,101,97,109,45,111,102,45,49,54,45,98,121,116]⟩ : ByteArray)] : List ByteArray)) (inner :=[.string (⟨#[97]⟩ : ByteArray),.string (⟨#[98]⟩ : ByteArray),.string (⟨#[97,98]⟩ : ByteArray),.string (⟨#[99]⟩ : ByteArray),.string (⟨#[97,33]⟩ : ByteArray),.string (⟨#[115,116,114,101,97,109,45,111,102,45,49,54,45,98,121,116]⟩ : ByteArray)]) (ok :=fun _ => True) (okp :=fun _ => True) ?hr ?hp (fun _ hk => hk) trivial (Below.refl _ _) (Nat.le_refl _) (by simp) ?_;(case hd => rfl);(case hg => rfl);(case hr => first | (go_simp;done) | (go_simp;rfl));(case hp => exact (Reps.one (show Kd.M Kd.string _ _ _ (⟨#[97]⟩ : ByteArray) [.string (⟨#[97]⟩ : ByteArray)] from rfl) (Reps.one (show Kd.M Kd.string _ _ _ (⟨#[98]⟩ : ByteArray) [.string (⟨#[98]⟩ : ByteArray)] from rfl) (Reps.one (show Kd.M Kd.string _ _ _ (⟨#[97,98]⟩ : ByteArray) [.string (⟨#[97,98]⟩ : ByteArray)] from rfl) (Reps.one (show Kd.M Kd.string _ _ _ (⟨#[99]⟩ : ByteArray) [.string (⟨#[99]⟩ : ByteArray)] from rfl) (Reps.one (show Kd.M Kd.string _ _ _ (⟨#[97,33]⟩ : ByteArray) [.string (⟨#[97,33]⟩ : ByteArray)] from rfl) (Reps.one (show Kd.M Kd.string _ _ _ (⟨#[115,116,114,101,97,109,45,111,102,45,49,54,45,98,121,116]⟩ : ByteArray) [.string (⟨#[115,116,114,101,97,109,45,111,102,45,49,54,45,98,121,116]⟩ : ByteArray)] from rfl) (Reps.none _ _))))))));intro v104 w5 ho6 hb hg_ hnew_;clear hg_ hnew_;(first | rw [← Ny103.out] at ho6 | (simp only [Int.reduceToNat] at ho6;rw [← Ny103.out] at ho6));have n0_ :=Aside0.mk (Kd.R_lower ho6 (keep_size (w :=w) (g :=g) (row :=none) (by repeat (first | (with_reducible first | exact HK.out | apply KeepBut.set_ | apply keep_drewN | apply keep_drew | apply keep_alloc) | exact HK.out))));have n1_ :=Aside0.mk (IsS56.below (by repeat (first | (with_reducible first | exact HI0.out | apply IsS56.alloc | apply IsS56.drewN | apply IsS56.drew | apply IsS56.set_1) | exact HI0.out)) hb);have n2_ :=Aside0.mk (KeepBut.trans (by repeat (first | (with_reducible first | exact HK.out | apply KeepBut.set_ | apply keep_drewN | apply keep_drew | apply keep_alloc) | exact HK.out)) (KeepBut.of_below hb g none) (.inl rfl));have n3_ :=Aside0.mk (below_step (by repeat (first | (with_reducible first | exact HB.out | apply below_alloc | apply pw_below_drewN | apply below_drew1 | refine below_set ?_ (IsS56.ge HI0.out)) | exact HB.out)) hb);clear HI0;clear HK;clear HB;have HO105 :=n0_;have HI0 :=n1_;have HK :=n2_;have HB :=n3_;clear n0_ n1_ n2_ n3_;clear hb ho6) | ((with_reducible refine gate_callee (f :=10) rfl ?_);refine goesL_ (some 5) rfl rfl Try.func10 (by kernel_rfl) rfl #[.pointer (some ⟨g,0,none⟩),.int .i64 6] rfl (by (try simp only [List.map_toArray,List.map_cons,List.map_nil]);first | done | rfl | (simp only [List.length_drop,List.length_take];rfl)) ?_;(with_reducible refine (pandectplay_Picks_Num.calls g s0_0 s0_1 6 t106 t107 w0 _ ?side1 ?side2 A2.out).mono ?_);(case side1 => repeat (first | (with_reducible first | exact HI0.out | apply IsS56.alloc | apply IsS56.drewN | apply IsS56.drew | apply IsS56.set_1) | exact HI0.out));(case side2 => repeat (first | (with_reducible first | exact HB.out | apply below_alloc | apply pw_below_drewN | apply below_drew1 | refine below_set ?_ (IsS56.ge HI0.out)) | exact HB.out));rintro e w7 ⟨rfl,hi,hb,hk⟩;refine ⟨_,rfl,?_⟩;have n0_ :=Aside0.mk (Kd.R_mono (Kd.R_keep (IsS56.apart (show IsS56 w0 _ g s0_0 s0_1 from by repeat (first | (with_reducible first | exact HI0.out | apply IsS56.alloc | apply IsS56.drewN | apply IsS56.drew | apply IsS56.set_1) | exact HI0.out)) (by (with_reducible repeat (first | apply Kd.R_alloc | apply Kd.R_drewN | apply Kd.R_drew));exact HO105.out) (by decide)) hk (fun _ h => h.2)) (fun _ h => h.1));have n1_ :=Aside0.mk (KeepBut.trans (by repeat (first | (with_reducible first | exact HK.out | apply KeepBut.set_ | apply keep_drewN | apply keep_drew | apply keep_alloc) | exact HK.out)) hk (.inl rfl));have n2_ :=Aside0.mk (hb);have n3_ :=Aside0.mk (hi);clear HO105;clear HK;clear HB;clear HI0;have HO105 :=n0_;have HK :=n1_;have HB :=n2_;have HI0 :=n3_;clear n0_ n1_ n2_ n3_;(try clear hb);(try clear hb2);(try clear hk);(try clear hi);obtain ⟨Ao8,co8,eo8⟩ :=Kd.R_slice HO105.out;subst eo8;have p108 : 0 ≤ (t106 : Int) :=of_decide_eq_true (by first | (with_reducible assumption) | assumption);have q108 : t106 < (y103.length : Int) :=of_decide_eq_true (by first | (with_reducible assumption) | assumption);obtain ⟨ad108,e108,hx108_0⟩ :=Kd.at_string (Kd.R_reads' HO105.out).2.2 t106 p108 q108;cases e108;replace p108 :=eq_true p108;replace q108 :=eq_true q108))
   go_ret
   exact ⟨by first | rfl | (simp [errW_none,errW_some] <;> rfl) | (simp [*,errW_none,errW_some] <;> rfl),by repeat (first | (with_reducible first | exact HI0.out | apply IsS56.alloc | apply IsS56.drewN | apply IsS56.drew | apply IsS56.set_1) | exact HI0.out),by repeat (first | (with_reducible first | exact HB.out | apply below_alloc | apply pw_below_drewN | apply below_drew1 | refine below_set ?_ (IsS56.ge HI0.out)) | exact HB.out),by repeat (first | (with_reducible first | exact HK.out | apply KeepBut.set_ | apply keep_drewN | apply keep_drew | apply keep_alloc) | exact HK.out)⟩
  ·rw [if_neg c4] at H
   exact absurd H (by simp)
 ·rw [if_neg c3] at H
  exact absurd H (by simp)
/-! ### pandectplay_Picks_Kind: function 12 -/
def pandectplay_Picks_Kind.f (s0_0 : List Int) (s0_1 : Int) : Option (ByteArray × Int) :=(some (([(⟨#[109,97,100,101]⟩ : ByteArray),(⟨#[112,97,105,100]⟩ : ByteArray),(⟨#[120]⟩ : ByteArray)] : List ByteArray) : List ByteArray)).bind fun y109 => ((pandectplay_Picks_Num.f s0_0 s0_1 3).bind fun bt112 => (if 0 ≤ bt112.1 then (if bt112.1 < (y109.length : Int) then (some (rdOf ByteArray.empty y109 bt112.1,bt112.2)) else (none)) else (none)))
set_option maxHeartbeats 8000000 in
set_option maxRecDepth 100000 in
theorem pandectplay_Picks_Kind.calls (g : Nat) (s0_0 : List Int) (s0_1 : Int) (r1 : ByteArray) (r2 : Int) (w0 w : World) (hI : IsS56 w0 w g s0_0 s0_1) (hB : Below w0.heap.size w0 w) (h : pandectplay_Picks_Kind.f s0_0 s0_1 = some (r1,r2)) :
  Calls Try.prog 12 #[.pointer (some ⟨g,0,none⟩)] w fun e w' => e = .returned (.string r1) ∧ IsS56 w0 w' g s0_0 r2 ∧ Below w0.heap.size w0 w' ∧ KeepBut w w' g none :=by
 have HI0 :=Aside0.mk hI
 have HK :=Aside0.mk (KeepBut.refl w g none)
 have HL :=Aside0.mk hB.size
 clear hI
 have HW0 :=Aside0.mk hB.size
 have HB :=Aside0.mk hB
 clear hB
 have H : ((some (([(⟨#[109,97,100,101]⟩ : ByteArray),(⟨#[112,97,105,100]⟩ : ByteArray),(⟨#[120]⟩ : ByteArray)] : List ByteArray) : List ByteArray)).bind fun y109 => ((pandectplay_Picks_Num.f s0_0 s0_1 3).bind fun bt112 => (if 0 ≤ bt112.1 then (if bt112.1 < (y109.length : Int) then (some (rdOf ByteArray.empty y109 bt112.1,bt112.2)) else (none)) else (none)))) = some (r1,r2) :=h
 clear h
 obtain ⟨y109,hy109⟩ : ∃ y_ : List ByteArray,y_ = (([(⟨#[109,97,100,101]⟩ : ByteArray),(⟨#[112,97,105,100]⟩ : ByteArray),(⟨#[120]⟩ : ByteArray)] : List ByteArray)) :=⟨_,rfl⟩
 replace H : ((pandectplay_Picks_Num.f s0_0 s0_1 3).bind fun bt112 => (if 0 ≤ bt112.1 then (if bt112.1 < (y109.length : Int) then (some (rdOf ByteArray.empty y109 bt112.1,bt112.2)) else (none)) else (none))) = some (r1,r2) :=by first | (rw [hy109];with_reducible exact H) | (have H2_ :=(Option.bind_some _ _).symm.trans H;rw [hy109];with_reducible exact H2_) | (have H2_ :=(Option.bind_some _ _).symm.trans H;with_reducible exact H2_) | with_reducible exact H | (rw [hy109];exact H) | exact H
 have Ny109 :=Aside0.mk hy109
 clear hy109
 replace H :=Option.bind_eq_some_iff.mp H
 obtain ⟨⟨t112,t113⟩,A20,H⟩ :=H
 replace H : (if 0 ≤ t112 then (if t112 < (y109.length : Int) then (some (rdOf ByteArray.empty y109 t112,t113)) else (none)) else (none)) = some (r1,r2) :=H
 have A2 :=Aside0.mk A20
 clear A20
 by_cases c3 : 0 ≤ t112
 ·rw [if_pos c3] at H
  have c3b0 : decide (0 ≤ t112) = true :=decide_eq_true c3
  clear c3
  by_cases c4 : t112 < (y109.length : Int)
  ·rw [if_pos c4] at H
   have c4b0 : decide (t112 < (y109.length : Int)) = true :=decide_eq_true c4
   clear c4
   simp only [Option.some.injEq,Prod.mk.injEq] at H
   obtain ⟨rfl,rfl⟩ :=H
   go_enter Try.func12,Try.ntmps12
   go_wp2_with (first | ((with_reducible refine gate_dst (N :=3) rfl ?_);refine Kd.R_lit Kd.string _ 9 ?hg (N :=3) ?hd (xs :=([(⟨#[109,97,100,101]⟩ : ByteArray),(⟨#[112,97,105,100]⟩ : ByteArray),(⟨#[120]⟩ : ByteArray)] : List ByteArray)) (inner :=[.string (⟨#[109,97,100,101]⟩ : ByteArray),.string (⟨#[112,97,105,100]⟩ : ByteArray),.string (⟨#[120]⟩ : ByteArray)]) (ok :=fun _ => True) (okp :=fun _ => True) ?hr ?hp (fun _ hk => hk) trivial (Below.refl _ _) (Nat.le_refl _) (by simp) ?_;(case hd => rfl);(case hg => rfl);(case hr => first | (go_simp;done) | (go_simp;rfl));(case hp => exact (Reps.one (show Kd.M Kd.string _ _ _ (⟨#[109,97,100,101]⟩ : ByteArray) [.string (⟨#[109,97,100,101]⟩ : ByteArray)] from rfl) (Reps.one (show Kd.M Kd.string _ _ _ (⟨#[112,97,105,100]⟩ : ByteArray) [.string (⟨#[112,97,105,100]⟩ : ByteArray)] from rfl) (Reps.one (show Kd.M Kd.string _ _ _ (⟨#[120]⟩ : ByteArray) [.string (⟨#[120]⟩ : ByteArray)] from rfl) (Reps.none _ _)))));intro v110 w5 ho6 hb hg_ hnew_;clear hg_ hnew_;(first | rw [← Ny109.out] at ho6 | (simp only [Int.reduceToNat] at ho6;rw [← Ny109.out] at ho6));have n0_ :=Aside0.mk (Kd.R_lower ho6 (keep_size (w :=w) (g :=g) (row :=none) (by repeat (first | (with_reducible first | exact HK.out | apply KeepBut.set_ | apply keep_drewN | apply keep_drew | apply keep_alloc) | exact HK.out))));have n1_ :=Aside0.mk (IsS56.below (by repeat (first | (with_reducible first | exact HI0.out | apply IsS56.alloc | apply IsS56.drewN | apply IsS56.drew | apply IsS56.set_1) | exact HI0.out)) hb);have n2_ :=Aside0.mk (KeepBut.trans (by repeat (first | (with_reducible first | exact HK.out | apply KeepBut.set_ | apply keep_drewN | apply keep_drew | apply keep_alloc) | exact HK.out)) (KeepBut.of_below hb g none) (.inl rfl));have n3_ :=Aside0.mk (below_step (by repeat (first | (with_reducible first | exact HB.out | apply below_alloc | apply pw_below_drewN | apply below_drew1 | refine below_set ?_ (IsS56.ge HI0.out)) | exact HB.out)) hb);clear HI0;clear HK;clear HB;have HO111 :=n0_;have HI0 :=n1_;have HK :=n2_;have HB :=n3_;clear n0_ n1_ n2_ n3_;clear hb ho6) | ((with_reducible refine gate_callee (f :=10) rfl ?_);refine goesL_ (some 5) rfl rfl Try.func10 (by kernel_rfl) rfl #[.pointer (some ⟨g,0,none⟩),.int .i64 3] rfl (by (try simp only [List.map_toArray,List.map_cons,List.map_nil]);first | done | rfl | (simp only [List.length_drop,List.length_take];rfl)) ?_;(with_reducible refine (pandectplay_Picks_Num.calls g s0_0 s0_1 3 t112 t113 w0 _ ?side1 ?side2 A2.out).mono ?_);(case side1 => repeat (first | (with_reducible first | exact HI0.out | apply IsS56.alloc | apply IsS56.drewN | apply IsS56.drew | apply IsS56.set_1) | exact HI0.out));(case side2 => repeat (first | (with_reducible first | exact HB.out | apply below_alloc | apply pw_below_drewN | apply below_drew1 | refine below_set ?_ (IsS56.ge HI0.out)) | exact HB.out));rintro e w7 ⟨rfl,hi,hb,hk⟩;refine ⟨_,rfl,?_⟩;have n0_ :=Aside0.mk (Kd.R_mono (Kd.R_keep (IsS56.apart (show IsS56 w0 _ g s0_0 s0_1 from by repeat (first | (with_reducible first | exact HI0.out | apply IsS56.alloc | apply IsS56.drewN | apply IsS56.drew | apply IsS56.set_1) | exact HI0.out)) (by (with_reducible repeat (first | apply Kd.R_alloc | apply Kd.R_drewN | apply Kd.R_drew));exact HO111.out) (by decide)) hk (fun _ h => h.2)) (fun _ h => h.1));have n1_ :=Aside0.mk (KeepBut.trans (by repeat (first | (with_reducible first | exact HK.out | apply KeepBut.set_ | apply keep_drewN | apply keep_drew | apply keep_alloc) | exact HK.out)) hk (.inl rfl));have n2_ :=Aside0.mk (hb);have n3_ :=Aside0.mk (hi);clear HO111;clear HK;clear HB;clear HI0;have HO111 :=n0_;have HK :=n1_;have HB :=n2_;have HI0 :=n3_;clear n0_ n1_ n2_ n3_;(try clear hb);(try clear hb2);(try clear hk);(try clear hi);obtain ⟨Ao8,co8,eo8⟩ :=Kd.R_slice HO111.out;subst eo8;have p114 : 0 ≤ (t112 : Int) :=of_decide_eq_true (by first | (with_reducible assumption) | assumption);have q114 : t112 < (y109.length : Int) :=of_decide_eq_true (by first | (with_reducible assumption) | assumption);obtain ⟨ad114,e114,hx114_0⟩ :=Kd.at_string (Kd.R_reads' HO111.out).2.2 t112 p114 q114;cases e114;replace p114 :=eq_true p114;replace q114 :=eq_true q114))
   go_ret
   exact ⟨by first | rfl | (simp [errW_none,errW_some] <;> rfl) | (simp [*,errW_none,errW_some] <;> rfl),by repeat (first | (with_reducible first | exact HI0.out | apply IsS56.alloc | apply IsS56.drewN | apply IsS56.drew | apply IsS56.set_1) | exact HI0.out),by repeat (first | (with_reducible first | exact HB.out | apply below_alloc | apply pw_below_drewN | apply below_drew1 | refine below_set ?_ (IsS56.ge HI0.out)) | exact HB.out),by repeat (first | (with_reducible first | exact HK.out | apply KeepBut.set_ | apply keep_drewN | apply keep_drew | apply keep_alloc) | exact HK.out)⟩
  ·rw [if_neg c4] at H
   exact absurd H (by simp)
 ·rw [if_neg c3] at H
  exact absurd H (by simp)
/-! ### pandectplay_Picks_Data: function 13 -/
def pandectplay_Picks_Data.l0 : Nat → List Int → Int → List Int → Int → Option (List Int × Int)
 | 0,_,_,_,_ => none
 | k + 1,x3,x4,x1000,x1001 => if x4 < (x3.length : Int) then (if 0 ≤ x4 then (pandectplay_Picks_Data.l0 k (x3.set (x4 : Int).toNat ((wrap64 ((wrap64 (x4 * 7)) + (x3.length : Int))) % 256)) (wrap64 (x4 + 1)) x1000 x1001) else (none)) else (some (x3,x1001))
def pandectplay_Picks_Data.f (k : Nat) (s0_0 : List Int) (s0_1 : Int) : Option (List Int × Int) :=(some (([0,1,3,20,100] : List Int) : List Int)).bind fun y115 => ((pandectplay_Picks_Num.f s0_0 s0_1 5).bind fun bt118 => (if 0 ≤ bt118.1 then (if bt118.1 < (y115.length : Int) then (if 0 ≤ (rd y115 bt118.1) then (if (rd y115 bt118.1 : Int).toNat ≤ 281474976710656 then (pandectplay_Picks_Data.l0 k (List.replicate (rd y115 bt118.1 : Int).toNat 0) 0 s0_0 bt118.2) else (none)) else (none)) else (none)) else (none)))
theorem pandectplay_Picks_Data.mono_l : ∀ k,(∀ y0 y1 y2 y3,LeO (pandectplay_Picks_Data.l0 k y0 y1 y2 y3) (pandectplay_Picks_Data.l0 (k + 1) y0 y1 y2 y3))
 | 0 => fun _ _ _ _ r h => by simp [pandectplay_Picks_Data.l0] at h
 | k + 1 => by
  have ih0 :=pandectplay_Picks_Data.mono_l k
  ·intro y0 y1 y2 y3
   unfold pandectplay_Picks_Data.l0
   repeat' first
   | (with_reducible exact ih0 _ _ _ _)
   | (with_reducible exact LeO.refl _)
   | (with_reducible exact LeO.none _)
   | (with_reducible refine LeO.ite ?_ ?_)
   | (with_reducible refine LeO.bind ?_ (fun _ => ?_))
   | exact ih0 _ _ _ _
   | exact LeO.none _
   | refine LeO.ite ?_ ?_
   | refine LeO.bind ?_ (fun _ => ?_)
theorem pandectplay_Picks_Data.mono : ∀ a0 a1 k,LeO (pandectplay_Picks_Data.f k a0 a1) (pandectplay_Picks_Data.f (k + 1) a0 a1) :=by
 intro a0 a1 k
 have ih0 :=pandectplay_Picks_Data.mono_l k
 unfold pandectplay_Picks_Data.f
 repeat' first
   | (with_reducible exact ih0 _ _ _ _)
   | (with_reducible exact LeO.refl _)
   | (with_reducible exact LeO.none _)
   | (with_reducible refine LeO.ite ?_ ?_)
   | (with_reducible refine LeO.bind ?_ (fun _ => ?_))
   | exact ih0 _ _ _ _
   | exact LeO.none _
   | refine LeO.ite ?_ ?_
   | refine LeO.bind ?_ (fun _ => ?_)
set_option maxHeartbeats 8000000 in
set_option maxRecDepth 100000 in
theorem pandectplay_Picks_Data.calls (k : Nat) (g : Nat) (s0_0 : List Int) (s0_1 : Int) (r1 : List Int) (r2 : Int) (w0 w : World) (hI : IsS56 w0 w g s0_0 s0_1) (hB : Below w0.heap.size w0 w) (h : pandectplay_Picks_Data.f k s0_0 s0_1 = some (r1,r2)) :
  Calls Try.prog 13 #[.pointer (some ⟨g,0,none⟩)] w fun e w' => ∃ v0_ : Value,e = .returned (v0_) ∧ Kd.R (Kd.int .u8) 5 w' w.heap.size (fun _ => True) v0_ r1 ∧ IsS56 w0 w' g s0_0 r2 ∧ Below w0.heap.size w0 w' ∧ KeepBut w w' g none :=by
 have HI0 :=Aside0.mk hI
 have HK :=Aside0.mk (KeepBut.refl w g none)
 have HL :=Aside0.mk hB.size
 clear hI
 have HW0 :=Aside0.mk hB.size
 have HB :=Aside0.mk hB
 clear hB
 have H : ((some (([0,1,3,20,100] : List Int) : List Int)).bind fun y115 => ((pandectplay_Picks_Num.f s0_0 s0_1 5).bind fun bt118 => (if 0 ≤ bt118.1 then (if bt118.1 < (y115.length : Int) then (if 0 ≤ (rd y115 bt118.1) then (if (rd y115 bt118.1 : Int).toNat ≤ 281474976710656 then (pandectplay_Picks_Data.l0 k (List.replicate (rd y115 bt118.1 : Int).toNat 0) 0 s0_0 bt118.2) else (none)) else (none)) else (none)) else (none)))) = some (r1,r2) :=h
 clear h
 obtain ⟨y115,hy115⟩ : ∃ y_ : List Int,y_ = (([0,1,3,20,100] : List Int)) :=⟨_,rfl⟩
 replace H : ((pandectplay_Picks_Num.f s0_0 s0_1 5).bind fun bt118 => (if 0 ≤ bt118.1 then (if bt118.1 < (y115.length : Int) then (if 0 ≤ (rd y115 bt118.1) then (if (rd y115 bt118.1 : Int).toNat ≤ 281474976710656 then (pandectplay_Picks_Data.l0 k (List.replicate (rd y115 bt118.1 : Int).toNat 0) 0 s0_0 bt118.2) else (none)) else (none)) else (none)) else (none))) = some (r1,r2) :=by first | (rw [hy115];with_reducible exact H) | (have H2_ :=(Option.bind_some _ _).symm.trans H;rw [hy115];with_reducible exact H2_) | (have H2_ :=(Option.bind_some _ _).symm.trans H;with_reducible exact H2_) | with_reducible exact H | (rw [hy115];exact H) | exact H
 have Ny115 :=Aside0.mk hy115
 clear hy115
 replace H :=Option.bind_eq_some_iff.mp H
 obtain ⟨⟨t118,t119⟩,A20,H⟩ :=H
 replace H : (if 0 ≤ t118 then (if t118 < (y115.length : Int) then (if 0 ≤ (rd y115 t118) then (if (rd y115 t118 : Int).toNat ≤ 281474976710656 then (pandectplay_Picks_Data.l0 k (List.replicate (rd y115 t118 : Int).toNat 0) 0 s0_0 t119) else (none)) else (none)) else (none)) else (none)) = some (r1,r2) :=H
 have A2 :=Aside0.mk A20
 clear A20
 by_cases c3 : 0 ≤ t118
 ·rw [if_pos c3] at H
  have c3b0 : decide (0 ≤ t118) = true :=decide_eq_true c3
  clear c3
  by_cases c4 : t118 < (y115.length : Int)
  ·rw [if_pos c4] at H
   have c4b0 : decide (t118 < (y115.length : Int)) = true :=decide_eq_true c4
   clear c4
   by_cases c5 : 0 ≤ (rd y115 t118)
   ·rw [if_pos c5] at H
    have c5b0 :=eq_true c5
    have c5b1 : decide (0 ≤ (rd y115 t118)) = true :=decide_eq_true c5
    clear c5
    by_cases c6 : (rd y115 t118 : Int).toNat ≤ 281474976710656
    ·rw [if_pos c6] at H
     have c6b0 :=eq_true c6
     have c6b1 : decide ((rd y115 t118 : Int).toNat ≤ 281474976710656) = true :=decide_eq_true c6
     clear c6
     obtain ⟨y121,hy121⟩ : ∃ y_ : List Int,y_ = (List.replicate (rd y115 t118 : Int).toNat 0) :=⟨_,rfl⟩
     replace H : (pandectplay_Picks_Data.l0 k y121 0 s0_0 t119) = some (r1,r2) :=by first | (rw [hy121];with_reducible exact H) | (have H2_ :=(Option.bind_some _ _).symm.trans H;rw [hy121];with_reducible exact H2_) | (have H2_ :=(Option.bind_some _ _).symm.trans H;with_reducible exact H2_) | with_reducible exact H | (rw [hy121];exact H) | exact H
     have Ny121 :=Aside0.mk hy121
     clear hy121
     have H' :=Aside0.mk H
     clear H
     go_enter Try.func13,Try.ntmps13
     go_wp2_with (first | ((with_reducible refine gate_dst (N :=5) rfl ?_);refine Kd.R_lit (Kd.int .i64) _ 3 ?hg (N :=5) ?hd (xs :=([0,1,3,20,100] : List Int)) (inner :=[.int .i64 0,.int .i64 1,.int .i64 3,.int .i64 20,.int .i64 100]) (ok :=fun _ => True) (okp :=fun _ => True) ?hr ?hp (fun _ hk => hk) trivial (Below.refl _ _) (Nat.le_refl _) (by simp) ?_;(case hd => rfl);(case hg => rfl);(case hr => first | (go_simp;done) | (go_simp;rfl));(case hp => exact (Reps.one (show Kd.M (Kd.int .i64) _ _ _ 0 [.int .i64 0] from rfl) (Reps.one (show Kd.M (Kd.int .i64) _ _ _ 1 [.int .i64 1] from rfl) (Reps.one (show Kd.M (Kd.int .i64) _ _ _ 3 [.int .i64 3] from rfl) (Reps.one (show Kd.M (Kd.int .i64) _ _ _ 20 [.int .i64 20] from rfl) (Reps.one (show Kd.M (Kd.int .i64) _ _ _ 100 [.int .i64 100] from rfl) (Reps.none _ _)))))));intro v116 w7 ho8 hb hg_ hnew_;clear hg_ hnew_;(first | rw [← Ny115.out] at ho8 | (simp only [Int.reduceToNat] at ho8;rw [← Ny115.out] at ho8));have n0_ :=Aside0.mk (Kd.R_lower ho8 (keep_size (w :=w) (g :=g) (row :=none) (by repeat (first | (with_reducible first | exact HK.out | apply KeepBut.set_ | apply keep_drewN | apply keep_drew | apply keep_alloc) | exact HK.out))));have n1_ :=Aside0.mk (IsS56.below (by repeat (first | (with_reducible first | exact HI0.out | apply IsS56.alloc | apply IsS56.drewN | apply IsS56.drew | apply IsS56.set_1) | exact HI0.out)) hb);have n2_ :=Aside0.mk (KeepBut.trans (by repeat (first | (with_reducible first | exact HK.out | apply KeepBut.set_ | apply keep_drewN | apply keep_drew | apply keep_alloc) | exact HK.out)) (KeepBut.of_below hb g none) (.inl rfl));have n3_ :=Aside0.mk (below_step (by repeat (first | (with_reducible first | exact HB.out | apply below_alloc | apply pw_below_drewN | apply below_drew1 | refine below_set ?_ (IsS56.ge HI0.out)) | exact HB.out)) hb);clear HI0;clear HK;clear HB;have HO117 :=n0_;have HI0 :=n1_;have HK :=n2_;have HB :=n3_;clear n0_ n1_ n2_ n3_;clear hb ho8) | ((with_reducible refine gate_callee (f :=10) rfl ?_);refine goesL_ (some 7) rfl rfl Try.func10 (by kernel_rfl) rfl #[.pointer (some ⟨g,0,none⟩),.int .i64 5] rfl (by (try simp only [List.map_toArray,List.map_cons,List.map_nil]);first | done | rfl | (simp only [List.length_drop,List.length_take];rfl)) ?_;(with_reducible refine (pandectplay_Picks_Num.calls g s0_0 s0_1 5 t118 t119 w0 _ ?side1 ?side2 A2.out).mono ?_);(case side1 => repeat (first | (with_reducible first | exact HI0.out | apply IsS56.alloc | apply IsS56.drewN | apply IsS56.drew | apply IsS56.set_1) | exact HI0.out));(case side2 => repeat (first | (with_reducible first | exact HB.out | apply below_alloc | apply pw_below_drewN | apply below_drew1 | refine below_set ?_ (IsS56.ge HI0.out)) | exact HB.out));rintro e w9 ⟨rfl,hi,hb,hk⟩;refine ⟨_,rfl,?_⟩;have n0_ :=Aside0.mk (Kd.R_mono (Kd.R_keep (IsS56.apart (show IsS56 w0 _ g s0_0 s0_1 from by repeat (first | (with_reducible first | exact HI0.out | apply IsS56.alloc | apply IsS56.drewN | apply IsS56.drew | apply IsS56.set_1) | exact HI0.out)) (by (with_reducible repeat (first | apply Kd.R_alloc | apply Kd.R_drewN | apply Kd.R_drew));exact HO117.out) (by decide)) hk (fun _ h => h.2)) (fun _ h => h.1));have n1_ :=Aside0.mk (KeepBut.trans (by repeat (first | (with_reducible first | exact HK.out | apply KeepBut.set_ | apply keep_drewN | apply keep_drew | apply keep_alloc) | exact HK.out)) hk (.inl rfl));have n2_ :=Aside0.mk (hb);have n3_ :=Aside0.mk (hi);clear HO117;clear HK;clear HB;clear HI0;have HO117 :=n0_;have HK :=n1_;have HB :=n2_;have HI0 :=n3_;clear n0_ n1_ n2_ n3_;(try clear hb);(try clear hb2);(try clear hk);(try clear hi);obtain ⟨Ao10,co10,eo10⟩ :=Kd.R_slice HO117.out;subst eo10;have p120 : 0 ≤ (t118 : Int) :=of_decide_eq_true (by first | (with_reducible assumption) | assumption);have q120 : t118 < (y115.length : Int) :=of_decide_eq_true (by first | (with_reducible assumption) | assumption);obtain ⟨ad120,e120,hx120_0⟩ :=Kd.at_int (Kd.R_reads' HO117.out).2.2 t118 p120 q120;cases e120;replace p120 :=eq_true p120;replace q120 :=eq_true q120) | ((with_reducible refine gate_dst (N :=10) rfl ?_);refine Kd.R_make (Kd.int .u8) _ 5 rfl (N :=10) rfl 22 _ _ rfl (rd y115 t118) rfl rfl Try.underlying22 (.int .u8 0) 1 info5 rfl (by decide) (by omega) 0 (ok :=fun _ => True) (okp :=fun _ => True) rfl (fun _ hk => hk) trivial (of_decide_eq_true (by first | (with_reducible assumption) | assumption)) (Nat.le_trans (Nat.mul_le_mul_right _ (of_decide_eq_true (by first | (with_reducible assumption) | assumption) : (rd y115 t118).toNat ≤ 281474976710656)) (by omega)) (Below.refl _ _) (Nat.le_refl _) ?_;intro v122 w11 ho12 hb hg_ hnew_;clear hg_ hnew_;(first | rw [← Ny121.out] at ho12 | (simp only [Int.reduceToNat] at ho12;rw [← Ny121.out] at ho12));have n0_ :=Aside0.mk (Kd.R_below (by (with_reducible repeat (first | apply Kd.R_alloc | apply Kd.R_drewN | apply Kd.R_drew));exact HO117.out) hb);have n1_ :=Aside0.mk (Kd.R_lower ho12 (keep_size (w :=w) (g :=g) (row :=none) (by repeat (first | (with_reducible first | exact HK.out | apply KeepBut.set_ | apply keep_drewN | apply keep_drew | apply keep_alloc) | exact HK.out))));have n2_ :=Aside0.mk (IsS56.below (by repeat (first | (with_reducible first | exact HI0.out | apply IsS56.alloc | apply IsS56.drewN | apply IsS56.drew | apply IsS56.set_1) | exact HI0.out)) hb);have n3_ :=Aside0.mk (KeepBut.trans (by repeat (first | (with_reducible first | exact HK.out | apply KeepBut.set_ | apply keep_drewN | apply keep_drew | apply keep_alloc) | exact HK.out)) (KeepBut.of_below hb g none) (.inl rfl));have n4_ :=Aside0.mk (below_step (by repeat (first | (with_reducible first | exact HB.out | apply below_alloc | apply pw_below_drewN | apply below_drew1 | refine below_set ?_ (IsS56.ge HI0.out)) | exact HB.out)) hb);clear HO117;clear HI0;clear HK;clear HB;have HO117 :=n0_;have HO123 :=n1_;have HI0 :=n2_;have HK :=n3_;have HB :=n4_;clear n0_ n1_ n2_ n3_ n4_;clear hb ho12))
     go_loopg [4] k (fun kq v4 w' => ∃ (x3_1 : List Int) (x4_1 : Int),v4 = .int .i64 x4_1 ∧ Aside0 (pandectplay_Picks_Data.l0 kq x3_1 x4_1 s0_0 t119 = some (r1,r2)) ∧ Aside0 (kq ≤ k) ∧ Aside0 (Kd.R (Kd.int .u8) 5 w' w.heap.size (fun _ => True) v122 x3_1) ∧ Aside0 (IsS56 w0 w' g s0_0 t119) ∧ Aside0 (KeepBut w w' g none) ∧ Aside0 (Below w0.heap.size w0 w'))
     case atStart => exact ⟨(y121),(0),(by first | rfl | (simp;done) | (simp [*];done)),H',⟨Nat.le_refl _⟩,⟨by (with_reducible repeat (first | apply Kd.R_alloc | apply Kd.R_drewN | apply Kd.R_drew));exact HO123.out⟩,⟨by repeat (first | (with_reducible first | exact HI0.out | apply IsS56.alloc | apply IsS56.drewN | apply IsS56.drew | apply IsS56.set_1) | exact HI0.out)⟩,⟨by repeat (first | (with_reducible first | exact HK.out | apply KeepBut.set_ | apply keep_drewN | apply keep_drew | apply keep_alloc) | exact HK.out)⟩,⟨by repeat (first | (with_reducible first | exact HB.out | apply below_alloc | apply pw_below_drewN | apply below_drew1 | refine below_set ?_ (IsS56.ge HI0.out)) | exact HB.out)⟩⟩
     case round =>
      clear H'
      try clear c1
      try clear p1
      try clear q1
      try clear hx1
      try clear p2
      try clear c3
      try clear c3b0
      try clear c4
      try clear c4b0
      try clear c5
      try clear c5b0
      try clear c5b1
      try clear c6
      try clear c6b0
      try clear c6b1
      try clear c10
      try clear p12
      try clear q12
      try clear hx12
      try clear hx120_0
      try clear p120
      try clear q120
      obtain ⟨x3_1,x4_1,rfl,HA,HK1,HO_3,HI0,HK,HB⟩ :=hrel
      cases gk with
      | zero => exact absurd HA.out (by simp [pandectplay_Picks_Data.l0])
      | succ k1 =>
       have H :=HA.out
       clear HA
       simp only [pandectplay_Picks_Data.l0] at H
       by_cases c13 : x4_1 < (x3_1.length : Int)
       ·rw [if_pos c13] at H
        have c13b0 : decide (x4_1 < (x3_1.length : Int)) = true :=decide_eq_true c13
        clear c13
        by_cases c14 : 0 ≤ x4_1
        ·rw [if_pos c14] at H
         have c14b0 : decide (0 ≤ x4_1) = true :=decide_eq_true c14
         clear c14
         obtain ⟨y124,hy124⟩ : ∃ y_ : List Int,y_ = (x3_1.set (x4_1 : Int).toNat ((wrap64 ((wrap64 (x4_1 * 7)) + (x3_1.length : Int))) % 256)) :=⟨_,rfl⟩
         replace H : (pandectplay_Picks_Data.l0 k1 y124 (wrap64 (x4_1 + 1)) s0_0 t119) = some (r1,r2) :=by first | (rw [hy124];with_reducible exact H) | (have H2_ :=(Option.bind_some _ _).symm.trans H;rw [hy124];with_reducible exact H2_) | (have H2_ :=(Option.bind_some _ _).symm.trans H;with_reducible exact H2_) | with_reducible exact H | (rw [hy124];exact H) | exact H
         have Ny124 :=Aside0.mk hy124
         clear hy124
         have H' :=Aside0.mk H
         clear H
         obtain ⟨Ao16,co16,eo16⟩ :=Kd.R_slice HO_3.out
         subst eo16
         have p15 : 0 ≤ (x4_1 : Int) :=of_decide_eq_true (by first | (with_reducible assumption) | assumption)
         have q15 : (x4_1 : Int) < ((x3_1.length : Int) : Int) :=of_decide_eq_true (by first | (with_reducible assumption) | assumption)
         obtain ⟨go15,co15,eo15,gb15,gl15,cl15,HG15⟩ :=Kd.R_form HO_3.out (by omega)
         (first | cases eo15 | (injection eo15 with ea_ en_ ec_;(first | subst ea_ | (injection ea_ with ea_;subst ea_));subst ec_;clear en_))
         have GB15 :=Aside0.mk gb15
         have GG15 :=Aside0.mk HG15
         clear gb15 gl15 HG15
         obtain ⟨hx15_0,hf15_0⟩ :=Kd.R_celln 0 HO_3.out (x4_1 : Int) p15 q15
         replace p15 :=eq_true p15
         replace q15 :=eq_true q15
         have HP17 :=Kd.R_putg HO_3.out (x4_1 : Int) ((wrap64 ((wrap64 (x4_1 * 7)) + (x3_1.length : Int))) % 256)
         go_wp2_with (first | ((with_reducible refine gate_store (t :=5) (p :=25) rfl ?_);refine store_event (t :=5) (p :=25) (v :=?vo_w18) (w1 :=(wr.setCell ⟨go15,(x4_1 : Int).toNat,none⟩ (.int .u8 ((wrap64 ((wrap64 (x4_1 * 7)) + (x3_1.length : Int))) % 256)))) ?hg ?ho ?hn ?hr ?_;(case ho => rfl);(case hg => rfl);(case hn => rfl);(case hr => first | (go_simp;done) | (go_simp;rfl));intro w18 hw;have hg : wr.grownBy w18 (some go15) :=(by rw [hw];exact HP17.2);have hp_ : Kd.R (Kd.int .u8) 5 w18 w.heap.size (fun _ => True) (.slice (some ⟨go15,0,none⟩) x3_1.length co16) y124 :=(by rw [hw,Ny124.out];exact HP17.1);clear HP17;have n0_ :=Aside0.mk (hp_);have n1_ :=Aside0.mk (IsS56.grown (by repeat (first | (with_reducible first | exact HI0.out | apply IsS56.alloc | apply IsS56.drewN | apply IsS56.drew | apply IsS56.set_1) | exact HI0.out)) hg (IsS56.own_ne HI0.out HO_3.out (by decide)));have n2_ :=Aside0.mk ((by rw [hw];exact below_set (HB.out) (Nat.le_trans HL.out GB15.out) : Below w0.heap.size w0 w18));have n3_ :=Aside0.mk (KeepBut.trans (by repeat (first | (with_reducible first | exact HK.out | apply KeepBut.set_ | apply keep_drewN | apply keep_drew | apply keep_alloc) | exact HK.out)) (KeepBut.of_grown hg g) (Kd.R_base2 HO_3.out));clear HO_3;clear HI0;clear HB;clear HK;have HO_3 :=n0_;have HI0 :=n1_;have HB :=n2_;have HK :=n3_;clear n0_ n1_ n2_ n3_;clear hg hw hp_))
         go_roundg k1
         case measure => have :=HK1.out;omega
         case rel => exact ⟨(y124),(wrap64 (x4_1 + 1)),(by first | rfl | (simp;done) | (simp [*];done)),H',⟨by have :=HK1.out;omega⟩,⟨by (with_reducible repeat (first | apply Kd.R_alloc | apply Kd.R_drewN | apply Kd.R_drew));exact HO_3.out⟩,⟨by repeat (first | (with_reducible first | exact HI0.out | apply IsS56.alloc | apply IsS56.drewN | apply IsS56.drew | apply IsS56.set_1) | exact HI0.out)⟩,⟨by repeat (first | (with_reducible first | exact HK.out | apply KeepBut.set_ | apply keep_drewN | apply keep_drew | apply keep_alloc) | exact HK.out)⟩,⟨by repeat (first | (with_reducible first | exact HB.out | apply below_alloc | apply pw_below_drewN | apply below_drew1 | refine below_set ?_ (IsS56.ge HI0.out)) | exact HB.out)⟩⟩
        ·rw [if_neg c14] at H
         exact absurd H (by simp)
       ·rw [if_neg c13] at H
        have c13b0 : decide (x4_1 < (x3_1.length : Int)) = false :=decide_eq_false c13
        clear c13
        simp only [Option.some.injEq,Prod.mk.injEq] at H
        obtain ⟨rfl,rfl⟩ :=H
        obtain ⟨Ao19,co19,eo19⟩ :=Kd.R_slice HO_3.out
        subst eo19
        go_wp2
        go_ret
        exact ⟨_,by first | rfl | (simp [errW_none,errW_some] <;> rfl) | (simp [*,errW_none,errW_some] <;> rfl),by (with_reducible repeat (first | apply Kd.R_alloc | apply Kd.R_drewN | apply Kd.R_drew));exact HO_3.out,by repeat (first | (with_reducible first | exact HI0.out | apply IsS56.alloc | apply IsS56.drewN | apply IsS56.drew | apply IsS56.set_1) | exact HI0.out),by repeat (first | (with_reducible first | exact HB.out | apply below_alloc | apply pw_below_drewN | apply below_drew1 | refine below_set ?_ (IsS56.ge HI0.out)) | exact HB.out),by repeat (first | (with_reducible first | exact HK.out | apply KeepBut.set_ | apply keep_drewN | apply keep_drew | apply keep_alloc) | exact HK.out)⟩
    ·rw [if_neg c6] at H
     exact absurd H (by simp)
   ·rw [if_neg c5] at H
    exact absurd H (by simp)
  ·rw [if_neg c4] at H
   exact absurd H (by simp)
 ·rw [if_neg c3] at H
  exact absurd H (by simp)
end Go.Proofs.Ytfelkchmeiijfaa.P2
